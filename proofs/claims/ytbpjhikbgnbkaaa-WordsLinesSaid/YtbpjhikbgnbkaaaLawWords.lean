/- The statements on words: what each law function returns. -/
import Derived.Test.YtbpjhikbgnbkaaaRows
import Derived.Test.YtbpjhikbgnbkaaaWords
import Derived.WalkKit
import Derived.WalkSpells
import Derived.WalkLawsBesides
import Derived.BigGuardPart
import Derived.BigQuiet
import Derived.Deep.QuietTactic
import Derived.Deep.Light
namespace Go.Proofs.Ytbpjhikbgnbkaaa
open Go.RowKit

theorem reads_lit (w : World) (T : TypeId) (l : List (List UInt8)) (hp : 0 < l.length) (hn : l.length ≤ 9223372036854775807) :
    Reads (w.alloc (.cells (l.map sv).toArray T)) (.slice (some ⟨w.heap.size, 0, none⟩) l.length l.length) l.length 1 (l.map sv) :=
  ⟨by simp, hn, Or.inr ⟨hp, w.heap.size, 0, l.length, rfl, Nat.le_refl _, by simp, fun j x hj => by simp [go_sem]; simpa using hj⟩⟩
/-- a row of strings that a callee has made, told by its cells -/
def Row (w : World) (g : Nat) (l : List (List UInt8)) : Prop := g < w.heap.size ∧ ∀ (j : Nat) (h : j < l.length), w.cell? ⟨g, j, none⟩ = some (.string (bs l[j]))
theorem Row.below {w w' : World} {g : Nat} {l : List (List UInt8)} (h : Row w g l) (hb : Below w.heap.size w w') : Row w' g l :=
  ⟨Nat.lt_of_lt_of_le h.1 hb.size, fun j hj => by rw [hb.cell (p := ⟨g, j, none⟩) h.1]; exact h.2 j hj⟩
theorem row_of {w : World} {base g n cap : Nat} {e : TypeId} {l : List (List UInt8)} (hp : 0 < n) (h : w.ownsRow base e 1 (.slice (some ⟨g, 0, none⟩) n cap) n (l.map sv)) : Row w g l := by
  obtain ⟨h1, _, h2⟩ := owns_reads h
  rcases h2 with ⟨h0, _⟩ | ⟨_, b, o, c, hv, _, hlt, hx⟩
  · omega
  · cases hv
    refine ⟨hlt, fun j hj => ?_⟩
    have := hx j (sv l[j]) (by rw [List.getElem?_map, List.getElem?_eq_getElem hj]; rfl)
    simpa [sv] using this

theorem gives_lines {f : FuncId} {args : Array Value} {W : World} {r : List (List UInt8) × Int} (h : Calls Try.prog f args W (GivesLines W .i64 r)) (hne : r.1 ≠ []) :
    Calls Try.prog f args W fun e w' => ∃ (g cap : Nat), e = .returned (.tuple #[.slice (some ⟨g, 0, none⟩) r.1.length cap, .int .i64 r.2]) ∧ r.1.length ≤ cap ∧ Row w' g r.1 ∧ Below W.heap.size W w' := by
  refine h.mono fun e w' ⟨v, he, hown, hb⟩ => ?_
  have ho := hown
  obtain ⟨h1, h2⟩ := hown
  rcases h2 with ⟨_, h0⟩ | ⟨g, cap, cur, hv, hg, hh, hn, hm, _⟩
  · exact absurd (List.length_eq_zero_iff.1 h0) hne
  · subst hv; exact ⟨g, cap, he, hn, row_of (by have := List.length_pos_iff.2 hne; omega) ho, hb⟩
set_option maxRecDepth 100000 in
set_option maxHeartbeats 1000000 in
theorem awake03 (w : World) : Calls Try.prog 20 #[] w fun e w' => e = .returned (.bool true) ∧ Below w.heap.size w w' := by
  have hl := fun w => gives_lines (lines_any ⟨#[97, 10, 10]⟩ w (by decide)) (by decide +kernel)
  have e1 : linesL (⟨#[97, 10, 10]⟩ : ByteArray).data.toList = ([[97], []], 0) := by decide +kernel
  rw [e1] at hl
  have hs := fun w => gives_some (by decide +kernel) (split_any ⟨#[97, 44, 44, 98]⟩ 44 w (by decide))
  have e2 : splitL 44 (⟨#[97, 44, 44, 98]⟩ : ByteArray).data.toList = [[97], [], [98]] := by decide +kernel
  rw [e2] at hs
  have hrw := fun w => row_any _ [[97], [98]] _ (by decide) (reads_lit w 9 [[97], [98]] (by decide) (by decide)) (by decide +kernel)
  have e3 : bs (joinL 32 [[97], [98]]) = ⟨#[97, 32, 98]⟩ := by decide +kernel
  rw [e3] at hrw
  have HL := Lib.hid hl; have HS := Lib.hid hs; have HR := Lib.hid hrw; clear hl hs hrw e1 e2 e3
  go_enter Try.func20, Try.ntmps20
  go_wp2_with (first
    | (go_at_call 27; refine (HL.out _).mono ?_; rintro e w1 ⟨g1, cap1, rfl, hc1, ⟨hg1, hr1⟩, b1⟩; have c1 := hr1 0 (by decide))
    | (go_at_call 22; refine (HS.out _).mono ?_; rintro e w2 ⟨g2, cap2, hc2, hc3, rfl, o2, b2⟩)
    | (go_at_call 26; refine (HR.out _).mono ?_; rintro e w3 ⟨rfl, b3⟩; have hb13 : Below w1.heap.size w1 w3 := (b2.alloc b2.size _).trans (b3.mono (by have := b2.size; simp; omega)); have c3 : w3.cell? ⟨g1, 0, none⟩ = some (.string ⟨#[97]⟩) := keep hb13 hg1 c1))
  go_ret
  exact ⟨rfl, b1.trans (hb13.mono b1.size)⟩
theorem wordsLines_any (s : ByteArray) (w : World) (hs : s.size ≤ maxLen) :
    Calls Try.prog 6 #[.string s] w fun e w' => e = .returned (.bool true) ∧ Below w.heap.size w w' := by
  unfold maxLen at hs
  by_cases h1 : 70000 < (s.size : Int)
  · go_enter Try.func6, Try.ntmps6
    go_wp2_with (go_at_call 20; refine (awake03 _).mono ?_; rintro e w1 ⟨rfl, hb⟩)
    go_ret
    exact ⟨rfl, hb⟩
  · have hl := fun w => lines_any s w (by omega)
    have hr := fun w => refLines_any s w (by omega)
    generalize hL : linesL s.data.toList = r at hl hr
    have HL := Lib.hid hl; have HR := Lib.hid hr; clear hl hr hL
    go_enter Try.func6, Try.ntmps6
    go_wp2_with (first
      | (go_at_call 27; refine (HL.out _).mono ?_; rintro e w1 ⟨v1, rfl, o1, b1⟩)
      | (go_at_call 28; refine (HR.out _).mono ?_; rintro e w2 ⟨v2, rfl, o2, b2⟩)
      | (go_at_call 21; refine (texts_same v1 v2 r.1 w2 ((owns_reads o1).below b2) (owns_reads o2)).mono ?_; rintro e w3 ⟨rfl, b3⟩)
      | (go_at_call 20; refine (awake03 _).mono ?_; rintro e w4 ⟨rfl, b4⟩))
    go_ret
    exact ⟨rfl, b1.trans ((b2.mono b1.size).trans ((b3.mono (by have := b1.size; have := b2.size; omega)).trans (b4.mono (by have := b1.size; have := b2.size; have := b3.size; omega))))⟩
end Go.Proofs.Ytbpjhikbgnbkaaa
