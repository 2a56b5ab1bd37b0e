/- Texts put together: MemE. No condition. -/
import Derived.Test.YtnplgagaoeckoaaGreatRapolmtkczm
import Derived.Test.YtnplgagaoeckoaaGreatRbdwevbvwye
import Derived.Shelf.Slices.Empties
set_option maxRecDepth 100000
set_option linter.unusedSimpArgs false
set_option linter.unusedVariables false
namespace Go.Proofs.YtnplgagaoeckoaaGreat
open Go.RowKit
/-- a rising list, split at a number -/
theorem rise_split {l : List Int} (h : l.Pairwise (· < ·)) (n : Int) : l.take (l.countP fun x => decide (x < n)) = (l.filter fun x => decide (x < n)) ∧ l.drop (l.countP fun x => decide (x < n)) = (l.filter fun x => decide (n ≤ x)) := by
 induction l with
 | nil => exact ⟨rfl, rfl⟩
 | cons a r ih =>
  obtain ⟨h1, h2⟩ := List.pairwise_cons.1 h
  by_cases ha : a < n
  ·rw [List.countP_cons_of_pos (by simpa using ha), List.filter_cons_of_pos (by simpa using ha), List.filter_cons_of_neg (by simp; omega), List.take_succ_cons, List.drop_succ_cons]
   exact ⟨by rw [(ih h2).1], (ih h2).2⟩
  ·have hall : ∀ x ∈ r, ¬ x < n := fun x hx => by have := h1 x hx; omega
   rw [List.countP_cons_of_neg (by simpa using ha), List.filter_cons_of_neg (by simpa using ha), List.filter_cons_of_pos (by simp; omega), List.countP_eq_zero.2 (fun x hx => by simpa using hall x hx)]
   refine ⟨?_, ?_⟩
   ·rw [List.take_zero, List.filter_eq_nil_iff.2 fun x hx => by simpa using hall x hx]
   ·rw [List.drop_zero, List.filter_eq_self.2 fun x hx => by have := hall x hx; simp; omega]
theorem rise_in {l : List Int} (h : l.Pairwise (· < ·)) {n : Int} (hn : n ∈ l) : riseP l n = l := by
 unfold riseP
 induction l with
 | nil => cases hn
 | cons a r ih =>
  obtain ⟨h1, h2⟩ := List.pairwise_cons.1 h
  rcases List.mem_cons.1 hn with rfl | hn
  ·rw [List.filter_cons_of_neg (by simp), List.filter_cons_of_neg (by simp), List.filter_eq_nil_iff.2 (fun x hx => by have := h1 x hx; simp; omega), List.filter_eq_self.2 (fun x hx => by have := h1 x hx; simp; omega)]; rfl
  ·have := h1 n hn
   rw [List.filter_cons_of_pos (by simpa using this), List.filter_cons_of_neg (by simp; omega), List.cons_append, ih h2 hn]
theorem rise_out {l : List Int} (h : l.Pairwise (· < ·)) {n : Int} (hn : n ∉ l) : riseP l n = insI l (l.countP fun x => decide (x < n)) n := by
 obtain ⟨h1, h2⟩ := rise_split h n
 unfold insI riseP
 rw [h1, h2]
 congr 2
 refine List.filter_congr fun x hx => ?_
 have : x ≠ n := fun e => hn (e ▸ hx)
 exact decide_eq_decide.2 ⟨fun h => by omega, fun h => by omega⟩
theorem intSearch_any (v : Value) (l : List Int) (n : Int) (w : World) (h : ReadsL inV 1 w v l) (hs : l.Pairwise (· < ·)) (hl : l.length ≤ 1000) :
  Calls Tryz.prog 71 #[v, .int .i64 n] w fun e w' => e = .returned (.tuple #[.int .i64 (l.countP fun x => decide (x < n) : Nat), .bool (decide (n ∈ l))]) ∧ Below w.heap.size w w' := by
 obtain ⟨hm, p, c, rfl, h3⟩ := ins_open h
 rcases Nat.eq_zero_or_pos l.length with h0 | h0
 ·obtain rfl : l = [] := List.eq_nil_of_length_eq_zero h0
  exact (Any.slices_BinarySearch_int_empty Tryz.laysNm225 p c n w).mono fun e w' ⟨h1, h2⟩ => ⟨h1, by rw [h2]; exact Below.refl _ _⟩
 ·obtain ⟨b, o, rfl, h4, h5, h6⟩ := h3 h0
  have := Tryz.slices_BinarySearch_int b o l.length c l n w (Nat.le_refl _) (by omega) (fun j hj => by rw [List.getD_eq_getElem?_getD, List.getElem?_eq_getElem hj]; exact h6 j _ (List.getElem?_eq_getElem hj)) (by rw [List.take_length]; exact hs.imp fun h => Int.le_of_lt h)
  rw [List.take_length] at this
  refine this.mono fun e w' ⟨h1, q, h2⟩ => ⟨?_, by rw [h2]; exact below_drewN (Below.refl _ _) _⟩
  have e2 : l.contains n = decide (n ∈ l) := Bool.eq_iff_iff.2 (by simp)
  rw [h1, e2]
set_option maxHeartbeats 8000000 in
theorem memShared_any (v : Value) (l : List Int) (n : Int) (w : World) (h : ReadsL inV 1 w v l) (hs : l.Pairwise (· < ·)) (hl : l.length ≤ 1000) :
  Calls Tryz.prog 43 #[v, .int .i64 n] w fun e w' => ∃ a c, e = .returned (.slice a (riseP l n).length c) ∧ ((.slice a (riseP l n).length c = v ∧ riseP l n = l) ∨ w'.ownsRow w.heap.size 3 1 (.slice a (riseP l n).length c) (riseP l n).length ((riseP l n).flatMap inV)) ∧ Below w.heap.size w w' := by
 have HS := zh (intSearch_any v l n w h hs hl)
 have HCl := zh (fun (W : World) (hb : Below w.heap.size w W) => cloneI v l.length (l.flatMap inV) W (ReadsL.below h hb) (inV_ones l) (by omega))
 have HV := zh h
 obtain ⟨hm, p, c, rfl, _⟩ := ins_open h
 by_cases hn : n ∈ l
 ·rw [decide_eq_true hn] at HS
  rw [rise_in hs hn]
  clear h hs hn
  go_enter Tryz.func43, Tryz.ntmps43
  go_wp2_with (go_at_call 71; (with_reducible refine HS.out.mono ?_); rintro e w1 ⟨rfl, b1⟩)
  go_ret
  exact ⟨_, _, rfl, Or.inl (by first | exact ⟨rfl, rfl⟩ | simp), b1⟩
 ·rw [decide_eq_false hn] at HS
  have hr := rise_out hs hn
  have hk : (l.countP fun x => decide (x < n)) ≤ l.length := List.countP_le_length
  have hil : (riseP l n).length = l.length + 1 := by rw [hr]; unfold insI; rw [List.length_append, List.length_cons, List.length_take, List.length_drop]; omega
  rw [hil]
  generalize (l.countP fun x => decide (x < n)) = k at *
  obtain ⟨HR, HIL⟩ := zh2 hr hil
  clear h hs hn hr hil
  go_enter Tryz.func43, Tryz.ntmps43
  go_wp2_with (first
   | (go_at_call 71; (with_reducible refine HS.out.mono ?_); rintro e w1 ⟨rfl, b1⟩)
   | (go_at_call 45; (with_reducible refine (HCl.out _ b1).mono ?_); rintro e w3 ⟨r3, rfl, own3, b3⟩; have b4 := below2 b1 b3)
   | (go_at_call 72; refine (insIn l k hk (by omega) n _ w.heap.size w3.heap.size 3 _ (owns_base (owns_below own3 (w' := w3.alloc (.cells #[.int .i64 n] 3)) (by exact bel)) b1.size) (BlockIs.new w3 (inV n) _) (Nat.le_trans b4.size (by simp)) (fun g cc hv => ?_)).mono ?_; rotate_left; rintro e w9 ⟨r9, rfl, own9, b9⟩))
  ·obtain ⟨a9, c9, e9⟩ := owns_slice own9
   subst e9
   go_ret
   refine ⟨_, _, rfl, Or.inr ?_, (b4.alloc b4.size _).trans b9⟩
   rw [HR.out]
   exact own9
  ·obtain ⟨_, e⟩ := own3.lt g (by rw [hv]; rfl)
   omega
end Go.Proofs.YtnplgagaoeckoaaGreat
