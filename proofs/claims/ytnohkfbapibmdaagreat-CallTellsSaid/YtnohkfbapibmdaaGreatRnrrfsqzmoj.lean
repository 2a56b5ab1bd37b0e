/- Texts put together: Blk, CallA. No condition. -/
import Derived.Test.YtnohkfbapibmdaaGreatRtcfsoujgbz
import Derived.Laws.Rows
import Derived.Laws.Tables
import Derived.Laws.CopyOwn
import Derived.Test.YtnohkfbapibmdaaGreatRjgcfepyuoq
import Derived.Test.YtnohkfbapibmdaaGreatRxzblzrfdxd
import Derived.WalkKit
import Derived.WalkSpells
import Derived.WalkLawsBesides
import Derived.Deep.Light
namespace Go.Proofs.YtnohkfbapibmdaaGreat
open Go.RowKit

theorem BlockIs.alloc' {w : World} {B : Nat} {arr : List Value} {T : TypeId} (h : BlockIs w B arr T) (o : Obj) : BlockIs (w.alloc o) B arr T := h.below ((Below.refl _ _).alloc (Nat.le_refl _) _)
theorem BlockIs.drew' {w : World} {B : Nat} {arr : List Value} {T : TypeId} (h : BlockIs w B arr T) : BlockIs w.drew B arr T := h
theorem BlockIs.newAt' (w : World) (arr : List Value) (T : TypeId) {n : Nat} (h : n = w.heap.size) : BlockIs (w.alloc (.cells arr.toArray T)) n arr T := h ▸ BlockIs.new w arr T
theorem BlockIs.loadVar {P : Program} {w : World} {B : Nat} {arr : List Value} {T : TypeId} (h : BlockIs w B arr T) {fs : Array Field} (hu : P.underlying T = some (.struct fs)) (hi : (P.info? T).map (·.size) = some arr.length) :
    (Go.loadVar T ⟨B, 0, none⟩).run P w = .ok (.agg arr.toArray) w :=
  run_loadVar_row w B T T arr.toArray (0, 0) _ h hu rfl (by simpa using hi)
section
variable {P : Program} {ops : Array Oper} {rest : List Oper} {o : Oper} {a : Act} {w : World} {Q : Exit → Act → World → Prop}
/-- a whole struct into a block: the new world by a name -/
theorem list_store_blk (hgd : o.guard = none) (ty : TypeId) (x y : Operand) (ho : o.op = .store ty x y) (g : Nat) (old cells : List Value) (t : TypeId) (hB : BlockIs w g old t)
    (hx : a.eval x = .pointer (some ⟨g, 0, none⟩)) (hy : a.eval y = .agg cells.toArray) (hi : (P.info? ty).map (·.size) = some cells.length) (hl : old.length = cells.length) (h1 : cells.all (·.oneCell') = true)
    (B : Nat) (w0 : World) (hbel : Below B w0 w) (hBg : B ≤ g)
    (h : ∀ w', BlockIs w' g cells t → (∀ k arr u, k ≠ g → BlockIs w k arr u → BlockIs w' k arr u) → w'.heap.size = w.heap.size → Below B w0 w' → wpList P ops Q rest (a.put o.dst undef) w') : wpList P ops Q (o :: rest) a w :=
  wpList_store_row hgd ty x y ho g cells.toArray hx hy t old.toArray hB (by simpa using hi) (by simpa using hl) (by simpa using h1)
    (h _ (setRow_heap w g _ _ t _ hB) (fun k arr u hk hb => by unfold BlockIs at *; rw [setRow_other w g k _ hk]; exact hb) (size_setRow _ _ _) (below_setRow hbel hBg _))
/-- a whole struct out of a block -/
theorem list_load_blk (hgd : o.guard = none) (ty : TypeId) (x : Operand) (ho : o.op = .load ty x) (g : Nat) (cells : List Value) (t : TypeId) (hB : BlockIs w g cells t)
    (hx : a.eval x = .pointer (some ⟨g, 0, none⟩)) {fs : Array Field} (hu : P.underlying ty = some (.struct fs)) (hi : (P.info? ty).map (·.size) = some cells.length)
    (h : wpList P ops Q rest (a.put o.dst (.agg cells.toArray)) w) : wpList P ops Q (o :: rest) a w :=
  wpList_load_row hgd ty x ho g hx t cells.toArray (0, 0) _ hB hu rfl (by simpa using hi) h
end
end Go.Proofs.YtnohkfbapibmdaaGreat
namespace Go.Proofs.YtnohkfbapibmdaaGreat
open Go.RowKit Go.Lib

def ptV (p : Nat) : Value := .int .i64 p
/-- where the parts lie -/
def PartsAt (w : World) (a : Option Addr) (c : Nat) (L : List Nat) : Prop := 0 < L.length → ∃ B, a = some ⟨B, 0, none⟩ ∧ L.length ≤ c ∧ BlockIs w B (L.map ptV) 43
theorem PartsAt.below {n : Nat} {w w' : World} {a : Option Addr} {c : Nat} {L : List Nat} (h : PartsAt w a c L) (hb : Below n w w') (hn : w.heap.size ≤ n) : PartsAt w' a c L := fun h0 => by
  obtain ⟨B, h1, h2, h3⟩ := h h0
  exact ⟨B, h1, h2, h3.below (hb.mono hn)⟩
theorem span_any (k : Int) (w : World) : Calls Tryz.prog 54 #[.int .i64 k] w fun e w' => e = .returned (.tuple #[.int .i64 (clSpan k).1, .int .i64 (clSpan k).2]) ∧ w = w' := by
  by_cases h4 : k = 4
  · subst h4
    go_enter Tryz.func54, Tryz.ntmps54
    go_wp2_with fail
    go_ret2
    exact ⟨rfl, rfl⟩
  by_cases h5 : k = 5
  · subst h5
    go_enter Tryz.func54, Tryz.ntmps54
    go_wp2_with fail
    go_ret2
    exact ⟨rfl, rfl⟩
  by_cases h6 : k = 6
  · subst h6
    go_enter Tryz.func54, Tryz.ntmps54
    go_wp2_with fail
    go_ret2
    exact ⟨rfl, rfl⟩
  have hs : clSpan k = (1, 1048576) := by unfold clSpan; rw [if_neg h4, if_neg h5, if_neg h6]
  rw [hs]
  clear hs
  have b4 : (k == 4) = false := beq_eq_false_iff_ne.2 h4
  have b5 : (k == 5) = false := beq_eq_false_iff_ne.2 h5
  have b6 : (k == 6) = false := beq_eq_false_iff_ne.2 h6
  go_enter Tryz.func54, Tryz.ntmps54
  go_wp2_with fail
  go_ret2
  exact ⟨rfl, rfl⟩
theorem or_any (l : List UInt8) (w : World) : Calls Tryz.prog 58 #[.string (bs l)] w fun e w' => e = .returned (.string (bs (orL l))) ∧ w = w' := by
  by_cases h : l = []
  · subst h
    have e : bs (orL []) = ⟨#[45]⟩ := rfl
    rw [e]
    have e2 : bs [] = ⟨#[]⟩ := rfl
    rw [e2]
    clear e e2
    go_enter Tryz.func58, Tryz.ntmps58
    go_wp2_with fail
    go_ret
    exact ⟨rfl, rfl⟩
  · rw [orL_same h]
    have hne : ((bs l).toList == []) = false := by rw [bs_toL]; simpa using h
    have hn2 : ((bs l).toList).isEmpty = false := by rw [bs_toL]; simpa using h
    have hn3 : ¬ (bs l).toList = [] := by rw [bs_toL]; exact h
    generalize bs l = s at *
    go_enter Tryz.func58, Tryz.ntmps58
    go_wp2_with fail
    go_ret
    exact ⟨rfl, rfl⟩
theorem parts_1 (w : World) : Calls Tryz.prog 15 #[.int .i64 1] w fun e w' => ∃ a c, e = .returned (.slice a 2 c) ∧ PartsAt w' a c [0, 3] ∧ Below w.heap.size w w' := by
  go_enter Tryz.func15, Tryz.ntmps15
  go_wp2_with fail
  go_ret
  exact ⟨_, _, rfl, fun _ => ⟨_, rfl, Nat.le_refl _, BlockIs.newAt' w [ptV 0, ptV 3] 43 rfl⟩, (Below.refl _ _).alloc (Nat.le_refl _) _⟩
theorem parts_2 (w : World) : Calls Tryz.prog 15 #[.int .i64 2] w fun e w' => ∃ a c, e = .returned (.slice a 1 c) ∧ PartsAt w' a c [0] ∧ Below w.heap.size w w' := by
  go_enter Tryz.func15, Tryz.ntmps15
  go_wp2_with fail
  go_ret
  exact ⟨_, _, rfl, fun _ => ⟨_, rfl, Nat.le_refl _, BlockIs.newAt' w [ptV 0] 43 rfl⟩, (Below.refl _ _).alloc (Nat.le_refl _) _⟩
theorem parts_3 (w : World) : Calls Tryz.prog 15 #[.int .i64 3] w fun e w' => ∃ a c, e = .returned (.slice a 1 c) ∧ PartsAt w' a c [3] ∧ Below w.heap.size w w' := by
  go_enter Tryz.func15, Tryz.ntmps15
  go_wp2_with fail
  go_ret
  exact ⟨_, _, rfl, fun _ => ⟨_, rfl, Nat.le_refl _, BlockIs.newAt' w [ptV 3] 43 rfl⟩, (Below.refl _ _).alloc (Nat.le_refl _) _⟩
theorem parts_4 (w : World) : Calls Tryz.prog 15 #[.int .i64 4] w fun e w' => ∃ a c, e = .returned (.slice a 4 c) ∧ PartsAt w' a c [0, 5, 3, 4] ∧ Below w.heap.size w w' := by
  go_enter Tryz.func15, Tryz.ntmps15
  go_wp2_with fail
  go_ret
  exact ⟨_, _, rfl, fun _ => ⟨_, rfl, Nat.le_refl _, BlockIs.newAt' w [ptV 0, ptV 5, ptV 3, ptV 4] 43 rfl⟩, (Below.refl _ _).alloc (Nat.le_refl _) _⟩
theorem parts_5 (w : World) : Calls Tryz.prog 15 #[.int .i64 5] w fun e w' => ∃ a c, e = .returned (.slice a 3 c) ∧ PartsAt w' a c [0, 4, 3] ∧ Below w.heap.size w w' := by
  go_enter Tryz.func15, Tryz.ntmps15
  go_wp2_with fail
  go_ret
  exact ⟨_, _, rfl, fun _ => ⟨_, rfl, Nat.le_refl _, BlockIs.newAt' w [ptV 0, ptV 4, ptV 3] 43 rfl⟩, (Below.refl _ _).alloc (Nat.le_refl _) _⟩
theorem parts_6 (w : World) : Calls Tryz.prog 15 #[.int .i64 6] w fun e w' => ∃ a c, e = .returned (.slice a 3 c) ∧ PartsAt w' a c [1, 4, 3] ∧ Below w.heap.size w w' := by
  go_enter Tryz.func15, Tryz.ntmps15
  go_wp2_with fail
  go_ret
  exact ⟨_, _, rfl, fun _ => ⟨_, rfl, Nat.le_refl _, BlockIs.newAt' w [ptV 1, ptV 4, ptV 3] 43 rfl⟩, (Below.refl _ _).alloc (Nat.le_refl _) _⟩
theorem parts_7 (w : World) : Calls Tryz.prog 15 #[.int .i64 7] w fun e w' => ∃ a c, e = .returned (.slice a 1 c) ∧ PartsAt w' a c [1] ∧ Below w.heap.size w w' := by
  go_enter Tryz.func15, Tryz.ntmps15
  go_wp2_with fail
  go_ret
  exact ⟨_, _, rfl, fun _ => ⟨_, rfl, Nat.le_refl _, BlockIs.newAt' w [ptV 1] 43 rfl⟩, (Below.refl _ _).alloc (Nat.le_refl _) _⟩
theorem parts_8 (w : World) : Calls Tryz.prog 15 #[.int .i64 8] w fun e w' => ∃ a c, e = .returned (.slice a 2 c) ∧ PartsAt w' a c [2, 3] ∧ Below w.heap.size w w' := by
  go_enter Tryz.func15, Tryz.ntmps15
  go_wp2_with fail
  go_ret
  exact ⟨_, _, rfl, fun _ => ⟨_, rfl, Nat.le_refl _, BlockIs.newAt' w [ptV 2, ptV 3] 43 rfl⟩, (Below.refl _ _).alloc (Nat.le_refl _) _⟩
theorem parts_9 (w : World) : Calls Tryz.prog 15 #[.int .i64 9] w fun e w' => ∃ a c, e = .returned (.slice a 1 c) ∧ PartsAt w' a c [3] ∧ Below w.heap.size w w' := by
  go_enter Tryz.func15, Tryz.ntmps15
  go_wp2_with fail
  go_ret
  exact ⟨_, _, rfl, fun _ => ⟨_, rfl, Nat.le_refl _, BlockIs.newAt' w [ptV 3] 43 rfl⟩, (Below.refl _ _).alloc (Nat.le_refl _) _⟩
theorem parts_11 (w : World) : Calls Tryz.prog 15 #[.int .i64 11] w fun e w' => ∃ a c, e = .returned (.slice a 2 c) ∧ PartsAt w' a c [0, 4] ∧ Below w.heap.size w w' := by
  go_enter Tryz.func15, Tryz.ntmps15
  go_wp2_with fail
  go_ret
  exact ⟨_, _, rfl, fun _ => ⟨_, rfl, Nat.le_refl _, BlockIs.newAt' w [ptV 0, ptV 4] 43 rfl⟩, (Below.refl _ _).alloc (Nat.le_refl _) _⟩
theorem parts_12 (w : World) : Calls Tryz.prog 15 #[.int .i64 12] w fun e w' => ∃ a c, e = .returned (.slice a 2 c) ∧ PartsAt w' a c [0, 3] ∧ Below w.heap.size w w' := by
  go_enter Tryz.func15, Tryz.ntmps15
  go_wp2_with fail
  go_ret
  exact ⟨_, _, rfl, fun _ => ⟨_, rfl, Nat.le_refl _, BlockIs.newAt' w [ptV 0, ptV 3] 43 rfl⟩, (Below.refl _ _).alloc (Nat.le_refl _) _⟩
theorem parts_13 (w : World) : Calls Tryz.prog 15 #[.int .i64 13] w fun e w' => ∃ a c, e = .returned (.slice a 2 c) ∧ PartsAt w' a c [0, 3] ∧ Below w.heap.size w w' := by
  go_enter Tryz.func15, Tryz.ntmps15
  go_wp2_with fail
  go_ret
  exact ⟨_, _, rfl, fun _ => ⟨_, rfl, Nat.le_refl _, BlockIs.newAt' w [ptV 0, ptV 3] 43 rfl⟩, (Below.refl _ _).alloc (Nat.le_refl _) _⟩
theorem parts_not (k : Int) (h1 : k ≠ 1) (h2 : k ≠ 2) (h3 : k ≠ 3) (h4 : k ≠ 4) (h5 : k ≠ 5) (h6 : k ≠ 6) (h7 : k ≠ 7) (h8 : k ≠ 8) (h9 : k ≠ 9) (h11 : k ≠ 11) (h12 : k ≠ 12) (h13 : k ≠ 13) (w : World) : Calls Tryz.prog 15 #[.int .i64 k] w fun e w' => e = .returned (.slice none 0 0) ∧ w = w' := by
  have b1 : (k == 1) = false := beq_eq_false_iff_ne.2 h1
  have b2 : (k == 2) = false := beq_eq_false_iff_ne.2 h2
  have b3 : (k == 3) = false := beq_eq_false_iff_ne.2 h3
  have b4 : (k == 4) = false := beq_eq_false_iff_ne.2 h4
  have b5 : (k == 5) = false := beq_eq_false_iff_ne.2 h5
  have b6 : (k == 6) = false := beq_eq_false_iff_ne.2 h6
  have b7 : (k == 7) = false := beq_eq_false_iff_ne.2 h7
  have b8 : (k == 8) = false := beq_eq_false_iff_ne.2 h8
  have b9 : (k == 9) = false := beq_eq_false_iff_ne.2 h9
  have b11 : (k == 11) = false := beq_eq_false_iff_ne.2 h11
  have b12 : (k == 12) = false := beq_eq_false_iff_ne.2 h12
  have b13 : (k == 13) = false := beq_eq_false_iff_ne.2 h13
  go_enter Tryz.func15, Tryz.ntmps15
  go_wp2_with fail
  go_ret
  exact ⟨rfl, rfl⟩
theorem parts_any33 (k : Int) (w : World) : Calls Tryz.prog 15 #[.int .i64 k] w fun e w' => ∃ a c, e = .returned (.slice a (clParts k).length c) ∧ PartsAt w' a c (clParts k) ∧ Below w.heap.size w w' := by
  by_cases h1 : k = 1
  · subst h1; exact parts_1 w
  by_cases h2 : k = 2
  · subst h2; exact parts_2 w
  by_cases h3 : k = 3
  · subst h3; exact parts_3 w
  by_cases h4 : k = 4
  · subst h4; exact parts_4 w
  by_cases h5 : k = 5
  · subst h5; exact parts_5 w
  by_cases h6 : k = 6
  · subst h6; exact parts_6 w
  by_cases h7 : k = 7
  · subst h7; exact parts_7 w
  by_cases h8 : k = 8
  · subst h8; exact parts_8 w
  by_cases h9 : k = 9
  · subst h9; exact parts_9 w
  by_cases h11 : k = 11
  · subst h11; exact parts_11 w
  by_cases h12 : k = 12
  · subst h12; exact parts_12 w
  by_cases h13 : k = 13
  · subst h13; exact parts_13 w
  have hp : clParts k = [] := by
    unfold clParts
    rw [if_neg (by simp [h1, h12, h13]), if_neg h2, if_neg (by simp [h3, h9]), if_neg h4, if_neg h5, if_neg h6, if_neg h7, if_neg h8, if_neg h11]
  rw [hp]
  refine (parts_not k h1 h2 h3 h4 h5 h6 h7 h8 h9 h11 h12 h13 w).mono ?_
  rintro e w' ⟨rfl, rfl⟩
  exact ⟨none, 0, rfl, fun h => absurd h (Nat.lt_irrefl _), Below.refl _ _⟩
end Go.Proofs.YtnohkfbapibmdaaGreat
