/- Texts put together: ShG. No condition. -/
import Derived.Test.YtppmjbnhghaffaaRakzuqvfjlv
import Derived.Test.YtppmjbnhghaffaaRcngjchkxll
import Derived.Test.YtppmjbnhghaffaaRqygsktmlpy
import Derived.Test.YtppmjbnhghaffaaRbvpwljxjrq
namespace Go.Proofs.Ytppmjbnhghaffaa
open Go.RowKit Go.Lib

structure Sh where
  size : Int
  v : Value
  l : List Pe
def shV (s : Sh) : List Value := [.int .i64 s.size, s.v]
theorem shV_len (s : Sh) : (shV s).length = 2 := rfl
/-- what is read of parts: their rows, and each one's peers -/
def ReadsSh (w : World) (v : Value) (ss : List Sh) : Prop := ReadsL shV 2 w v ss ∧ ∀ s ∈ ss, ReadsL peV 10 w s.v s.l
theorem ReadsSh.below {w w' : World} {v : Value} {ss : List Sh} (h : ReadsSh w v ss) (hb : Below w.heap.size w w') : ReadsSh w' v ss := ⟨ReadsL.below h.1 hb, fun s hs => ReadsL.below (h.2 s hs) hb⟩
theorem shs_open {w : World} {v : Value} {l : List Sh} (h : ReadsL shV 2 w v l) : l.length ≤ 9223372036854775807 ∧ ∃ (a : Option Addr) (c : Nat), v = .slice a l.length c ∧ (0 < l.length → ∃ b o, a = some ⟨b, o, none⟩ ∧ l.length ≤ c ∧ b < w.heap.size ∧
      ∀ (i : Nat) (p : Sh), l[i]? = some p → w.cell? ⟨b, o + i * 2, none⟩ = some (.int .i64 p.size) ∧ w.cell? ⟨b, o + i * 2 + 1, none⟩ = some p.v) := by
  obtain ⟨h1, a, c, h2, h3⟩ := h.open shV_len (by omega)
  refine ⟨h1, a, c, h2, fun hp => ?_⟩
  obtain ⟨b, o, h4, h5, h6, h7⟩ := h3 hp
  refine ⟨b, o, h4, h5, h6, fun i x hi => ⟨?_, ?_⟩⟩
  · have := h7 i x hi 0 _ rfl; simpa [Nat.add_assoc] using this
  · have := h7 i x hi 1 _ rfl; simpa [Nat.add_assoc] using this
def pesS (s : Sh) : List Pe := s.l.take s.size.toNat
set_option maxRecDepth 100000 in
set_option maxHeartbeats 4000000 in
theorem shPeers_any (z : Int) (v : Value) (l : List Pe) (w : World) (h : ReadsL peV 10 w v l) (hl : l.length ≤ 1000000) :
    Calls Try.prog 45 #[.agg #[.int .i64 z, v]] w fun e w' => ∃ r, e = .returned r ∧ ReadsL peV 10 w' r (l.take z.toNat) ∧ Below w.heap.size w w' := by
  obtain ⟨hm, a0, c, rfl, h3⟩ := pes_open h
  obtain ⟨k, hk⟩ : ∃ k : Nat, k = min z.toNat l.length := ⟨_, rfl⟩
  have hmm : min (max z 0) (l.length : Int) = (k : Int) := by omega
  have hkl : k ≤ l.length := by omega
  have htk : l.take z.toNat = l.take k := by
    rw [hk]
    rcases Nat.le_total z.toNat l.length with h | h
    · rw [Nat.min_eq_left h]
    · rw [Nat.min_eq_right h, List.take_of_length_le h, List.take_of_length_le (Nat.le_refl _)]
  rw [htk]
  have hkt : (l.take k).length = k := by rw [List.length_take]; omega
  have HB0 : Hid (Below w.heap.size w (w.alloc (.cells #[.int .i64 z, .slice a0 l.length c] 70))) := (Below.refl _ _).alloc (Nat.le_refl _) _
  have q1 : (0 : Int) ≤ (k : Int) := by omega
  have q2 : (k : Int) ≤ (l.length : Int) := by omega
  rcases Nat.eq_zero_or_pos l.length with h0 | h0
  · have hl0 : l = [] := List.eq_nil_of_length_eq_zero h0
    subst hl0
    obtain rfl : k = 0 := by simp at hk; omega
    have HCl := Lib.hid (fun (a : Option Addr) (c : Nat) => clonePe (.slice a 0 c) [] (w.alloc (.cells #[.int .i64 z, .slice a0 0 c] 70)) ⟨rfl, by simp, Or.inl ⟨rfl, a, c, rfl⟩⟩ (by simp))
    have hmm' : min (max z 0) (0 : Int) = 0 := by omega
    simp only [List.length_nil] at *
    have HT : Hid (([] : List Pe).take 0 = []) := rfl
    clear h h3 hk htk hkt hkl hmm q1 q2
    cases a0 with
    | none =>
      go_enter Try.func45, Try.ntmps45
      go_wp2_with (go_at_call 100; (refine (clonePe _ [] _ ⟨rfl, by simp, Or.inl ⟨rfl, _, _, rfl⟩⟩ (by simp)).mono ?_); rintro e w1 ⟨r1, rfl, o1, b1, k1⟩)
      go_ret
      exact ⟨_, rfl, owns_readsL (l := []) o1, below2 HB0.out b1⟩
    | some a =>
      go_enter Try.func45, Try.ntmps45
      go_wp2_with (go_at_call 100; (refine (clonePe _ [] _ ⟨rfl, by simp, Or.inl ⟨rfl, _, _, rfl⟩⟩ (by simp)).mono ?_); rintro e w1 ⟨r1, rfl, o1, b1, k1⟩)
      go_ret
      exact ⟨_, rfl, owns_readsL (l := []) o1, below2 HB0.out b1⟩
  · obtain ⟨b, o, rfl, h4, h5, h6⟩ := h3 h0
    have r2 := reads_takeP h hkl
    have HCl := Lib.hid (clonePe _ (l.take k) _ (ReadsL.below r2 HB0.out) (by omega))
    rw [hkt] at HCl
    have q3 : (k : Int) ≤ (c : Int) := by omega
    have HR : Hid (∀ (r : Value) (W : World), W.ownsRow (w.alloc (.cells #[.int .i64 z, .slice (some ⟨b, o, none⟩) l.length c] 70)).heap.size 66 10 r k ((l.take k).flatMap peV) → ReadsL peV 10 W r (l.take k)) := fun r W ho => owns_readsL (by rw [hkt]; exact ho)
    clear h h3 h6 hk htk hkt r2
    go_enter Try.func45, Try.ntmps45
    go_wp2_with (go_at_call 100; (with_reducible refine HCl.out.mono ?_); rintro e w1 ⟨r1, rfl, o1, b1, k1⟩)
    go_ret
    exact ⟨_, rfl, HR.out _ _ o1, below2 HB0.out b1⟩
end Go.Proofs.Ytppmjbnhghaffaa
