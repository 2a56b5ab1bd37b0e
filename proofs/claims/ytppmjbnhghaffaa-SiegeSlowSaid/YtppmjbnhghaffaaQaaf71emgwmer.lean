/- Texts put together: Words, Ip4. No condition. -/
import Derived.Test.YtppmjbnhghaffaaRows
import Derived.Test.YtppmjbnhghaffaaQba21a9snclba
import Derived.Test.YtppmjbnhghaffaaQd16f6ccwbnpp
import Derived.Test.YtppmjbnhghaffaaShelf
import Derived.Test.YtppmjbnhghaffaaDec
import Derived.WalkKit
import Derived.WalkSpells
import Derived.WalkLawsBesides
import Derived.WalkSmall
import Derived.BigGuardPart
import Derived.BigQuiet
import Derived.Deep.QuietTactic
import Derived.Deep.RegionLaw
import Derived.Deep.Light
import Derived.Test.YtppmjbnhghaffaaPlBits
/- The contracts of words and of its reference. -/
namespace Go.Proofs.Ytppmjbnhghaffaa
open Go.RowKit
attribute [local go_sem] w64_byte w64_byte_sub

theorem strRow : RowT Try.prog 115 9 1 16 := RowT.mk (.string ByteArray.empty) Try.underlying115 (by kernel_rfl) rfl (by omega)
/-- what a function that hands back a row of strings of its own gives -/
def GivesStrs (W : World) (l : List (List UInt8)) (en : Ending) (w' : World) : Prop := ∃ v, en = .returned v ∧ w'.ownsRow W.heap.size 9 1 v l.length (l.map sv) ∧ Below W.heap.size W w'

/-- words.Split: what is cut already, and what is left -/
def SplitAt (W : World) (c : UInt8) (l : List UInt8) (r : ByteArray) (v : Value) (wr : World) : Prop :=
  ∃ xs : List (List UInt8), splitL c l = xs ++ splitL c r.data.toList ∧ wr.ownsRow W.heap.size 9 1 v xs.length (xs.map sv) ∧ xs.length + r.size ≤ l.length
/-- the reference's Split: what is cut already, up to place k, and from where on the next part begins -/
def RefSplitAt (W : World) (c : UInt8) (l : List UInt8) (k f : Nat) (v : Value) (wr : World) : Prop :=
  f ≤ k ∧ (∀ j : Nat, f ≤ j → j < k → l[j]? ≠ some c) ∧ ∃ xs : List (List UInt8), splitL c l = xs ++ splitL c (l.drop f) ∧ wr.ownsRow W.heap.size 9 1 v xs.length (xs.map sv) ∧ xs.length ≤ f
theorem drop_none {c : UInt8} {l : List UInt8} {f k : Nat} (h : ∀ j : Nat, f ≤ j → j < k → l[j]? ≠ some c) (hk : l.length ≤ k) : ∀ j : Nat, (l.drop f)[j]? ≠ some c := by
  intro j; rw [List.getElem?_drop]
  rcases Nat.lt_or_ge (f + j) k with h1 | h1
  · exact h _ (by omega) h1
  · rw [List.getElem?_eq_none (by omega)]; simp
/-- lines, and which error there is -/
def GivesLines (W : World) (k : IntKind) (r : List (List UInt8) × Int) (en : Ending) (w' : World) : Prop := ∃ v, en = .returned (.tuple #[v, .int k r.2]) ∧ w'.ownsRow W.heap.size 9 1 v r.1.length (r.1.map sv) ∧ Below W.heap.size W w'
theorem gives_none {W w' : World} {k : IntKind} {r : List (List UInt8) × Int} {n : Int} (h : r = ([], n)) (hb : Below W.heap.size W w') : GivesLines W k r (.returned (.tuple #[.slice none 0 0, .int k n])) w' :=
  ⟨.slice none 0 0, by rw [h], by rw [h]; exact World.ownsRow_nil _ _ _ _, hb⟩
theorem gives_some {f : FuncId} {args : Array Value} {W : World} {l : List (List UInt8)} (hne : l ≠ []) (h : Calls Try.prog f args W (GivesStrs W l)) :
    Calls Try.prog f args W fun e w' => ∃ (g cap : Nat), l.length ≤ cap ∧ cap ≤ 9223372036854775807 ∧ e = .returned (.slice (some ⟨g, 0, none⟩) l.length cap) ∧ w'.ownsRow W.heap.size 9 1 (.slice (some ⟨g, 0, none⟩) l.length cap) l.length (l.map sv) ∧ Below W.heap.size W w' := by
  refine h.mono fun e w' ⟨v, he, hown, hb⟩ => ?_
  have ho := hown
  obtain ⟨h1, h2⟩ := hown
  rcases h2 with ⟨_, h0⟩ | ⟨g, cap, cur, hv, hg, hh, hn, hm, _⟩
  · exact absurd (List.length_eq_zero_iff.1 h0) hne
  · subst hv; exact ⟨g, cap, hn, by unfold maxLen at hm; omega, he, ho, hb⟩
theorem bad_not {c : UInt8} (h : (c.toNat : Int) < 32 ∨ 126 < (c.toNat : Int)) (hc : c ≠ 10) : plainC c = false := by
  have : c.toNat ≠ 10 := fun e => hc (UInt8.toNat_inj.1 e)
  unfold plainC; simp; omega
theorem good_is {c : UInt8} (h : 32 ≤ (c.toNat : Int)) (h2 : (c.toNat : Int) ≤ 126) : plainC c = true := by
  unfold plainC; simp; omega
/-! ### the reference's Join -/
theorem strs_at {w : World} {b o n : Nat} {l : List (List UInt8)} (h : ∀ (j : Nat) (x : Value), (l.map sv)[j]? = some x → w.cell? ⟨b, o + j, none⟩ = some x) (k : Nat) (hk : k < l.length) : w.cell? ⟨b, o + k, none⟩ = some (.string (bs l[k])) :=
  h k _ (by rw [List.getElem?_map, List.getElem?_eq_getElem hk]; rfl)
theorem joinL_take (c : UInt8) (l : List (List UInt8)) (k : Nat) (h : k < l.length) (h0 : 0 < k) : joinL c (l.take (k + 1)) = joinL c (l.take k) ++ c :: l[k] := by
  rw [List.take_succ_eq_append_getElem h, joinL_snoc]
  intro e; have := congrArg List.length e; rw [List.length_take, List.length_nil] at this; omega
theorem joinL_take_le (c : UInt8) (l : List (List UInt8)) (k : Nat) (h : k < l.length) : (joinL c (l.take k)).length + l[k].length ≤ (joinL c (l.take (k + 1))).length := by
  rcases Nat.eq_zero_or_pos k with rfl | h0
  · rw [List.take_succ_eq_append_getElem h]; simp [joinL_nil, joinL_one]
  · rw [joinL_take c l k h h0, List.length_append, List.length_cons]; omega
theorem joinL_mono (c : UInt8) (l : List (List UInt8)) (k : Nat) (h : k ≤ l.length) : (joinL c (l.take k)).length ≤ (joinL c l).length := by
  have : ∀ d, k + d ≤ l.length → (joinL c (l.take k)).length ≤ (joinL c (l.take (k + d))).length := by
    intro d
    induction d with
    | zero => intro _; exact Nat.le_refl _
    | succ d ih =>
      intro hd
      have h1 := ih (by omega)
      have h2 := joinL_take_le c l (k + d) (by omega)
      rw [show k + (d + 1) = k + d + 1 from by omega]; omega
  have h1 := this (l.length - k) (by omega)
  rwa [show k + (l.length - k) = l.length from by omega, List.take_length] at h1
/-! ### are two lists of texts one? -/
end Go.Proofs.Ytppmjbnhghaffaa
/- The contracts of ipv4 and of its reference. -/
namespace Go.Proofs.Ytppmjbnhghaffaa
open Go.RowKit

/-- a row of strings that a callee has made, told by its cells -/
theorem gives_row {f : FuncId} {args : Array Value} {W : World} {l : List (List UInt8)} (hne : l ≠ []) (h : Calls Try.prog f args W (GivesStrs W l)) :
    Calls Try.prog f args W fun e w' => ∃ (g cap : Nat), l.length ≤ cap ∧ cap ≤ 9223372036854775807 ∧ e = .returned (.slice (some ⟨g, 0, none⟩) l.length cap) ∧ g < w'.heap.size ∧ (∀ (j : Nat) (h : j < l.length), w'.cell? ⟨g, j, none⟩ = some (.string (bs l[j]))) ∧ Below W.heap.size W w' := by
  refine (gives_some hne h).mono fun e w' ⟨g, cap, h1, h2, h3, ho, hb⟩ => ?_
  obtain ⟨_, _, hr⟩ := owns_reads ho
  have hp := List.length_pos_iff.2 hne
  rcases hr with ⟨h0, _⟩ | ⟨_, b, o, c, hv, _, hlt, hx⟩
  · omega
  · cases hv
    refine ⟨g, cap, h1, h2, h3, hlt, fun j hj => ?_, hb⟩
    have := hx j (sv l[j]) (by rw [List.getElem?_map, List.getElem?_eq_getElem hj]; rfl)
    simpa [sv] using this
theorem v4_len_pos {L : List (List UInt8)} {k : Nat} (h : k < L.length) : L.drop k = L[k] :: L.drop (k + 1) := List.drop_eq_getElem_cons h
theorem ret_nb {k : IntKind} {a b : Int} {x y : Bool} (h : a = b) (g : x = y) : Ending.returned (.tuple #[.int k a, .bool x]) = .returned (.tuple #[.int k b, .bool y]) := by rw [h, g]

theorem cat3 {a b : List UInt8} {n m : Nat} (ha : a.length ≤ n) (hb : b.length ≤ m) (hn : n ≤ 1000000) (hm : m ≤ 1000000) : ¬ 9223372036854775807 < (bs a).size + (bs b).size := cat_ok (by rw [bs_size]; omega) (by rw [bs_size]; omega)
end Go.Proofs.Ytppmjbnhghaffaa
