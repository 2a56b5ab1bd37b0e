/- Texts put together: Op. No condition. -/
import Derived.Test.YtnplgagaoeckoaaGreatRuzzvrjikhw
import Derived.Test.YtnplgagaoeckoaaGreatRhswffbbxtu
import Derived.Test.YtnplgagaoeckoaaGreatRluqwkbtqlq
import Derived.Test.YtnplgagaoeckoaaGreatRshgxludich
import Derived.Test.YtnplgagaoeckoaaGreatRxxmcygjsie
import Derived.Test.YtnplgagaoeckoaaGreatRows
import Derived.WalkKit
import Derived.WalkSpells
import Derived.WalkLawsBesides
import Derived.BigGuardPart
import Derived.BigQuiet
import Derived.Deep.QuietTactic
import Derived.Deep.Light
set_option maxRecDepth 100000
set_option linter.unusedSimpArgs false
set_option linter.unusedVariables false
namespace Go.Proofs.YtnplgagaoeckoaaGreat
open Go.RowKit

theorem plOk_f {k s t n : Int} (h : ¬ (1 ≤ n ∧ n ≤ 8 ∧ 1 ≤ k ∧ k ≤ 6 ∧ (k < 5 ∨ 0 ≤ s ∧ s < n) ∧ (k < 6 ∨ 0 ≤ t))) : plOk k s t n = false := decide_eq_false h
theorem ret_b {a : Act} {x y : Bool} (h : a.tmps.getD 4 undef = .bool x) (e : x = y) : Ending.returned (a.tmps.getD 4 undef) = .returned (.bool y) := by rw [h, e]
set_option maxHeartbeats 8000000 in
theorem opPlace_any (k s t n : Int) (w : World) : Calls Tryz.prog 68 #[.agg #[.int .i64 k, .int .i64 s, .int .i64 t], .int .i64 n] w fun r w' => r = .returned (.bool (plOk k s t n)) ∧ Below w.heap.size w w' := by
 go_enter Tryz.func68, Tryz.ntmps68
 go_wp2_with fail
 all_goals first | (exfalso; omega) | (go_ret; refine ⟨ret_b rfl ?_, by exact bel⟩)
 all_goals ((try simp only [beq_iff_eq, beq_eq_false_iff_ne, ne_eq] at *); unfold plOk; first | (rw [decide_eq_decide]; omega) | exact (decide_eq_true (by omega)).symm | exact (decide_eq_false (by omega)).symm)
set_option maxHeartbeats 8000000 in
theorem refPlace_any (k s t n : Int) (w : World) : Calls Tryz.prog 69 #[.agg #[.int .i64 k, .int .i64 s, .int .i64 t], .int .i64 n] w fun r w' => r = .returned (.bool (plOk k s t n)) ∧ Below w.heap.size w w' := by
 go_enter Tryz.func69, Tryz.ntmps69
 go_wp2_with fail
 all_goals first | (exfalso; omega) | (go_ret; refine ⟨ret_b rfl ?_, by exact bel⟩)
 all_goals ((try simp only [beq_iff_eq, beq_eq_false_iff_ne, ne_eq] at *); unfold plOk; first | (rw [decide_eq_decide]; omega) | exact (decide_eq_true (by omega)).symm | exact (decide_eq_false (by omega)).symm)
theorem opR0 {o : Oq} {n : Int} (h : ¬ (1 ≤ n ∧ n ≤ 8)) : opRight o n = false := by unfold opRight; rw [decide_eq_false h]; rfl
theorem opR1 {o : Oq} {n : Int} (h : 1 ≤ n ∧ n ≤ 8) (hk : o.kind = 1 ∨ o.kind = 3) : opRight o n = decide (0 ≤ o.lock ∧ o.lock ≤ n + 1) := by unfold opRight; rw [decide_eq_true h, if_pos hk]; rfl
theorem opR2 {o : Oq} {n : Int} (h : 1 ≤ n ∧ n ≤ 8) (hk : o.kind = 2 ∨ o.kind = 4) : opRight o n = decide (o.lock = 0) := by unfold opRight; rw [decide_eq_true h, if_neg (by omega), if_pos hk]; rfl
theorem opR5 {o : Oq} {n : Int} (h : 1 ≤ n ∧ n ≤ 8) (hk : o.kind = 5) : opRight o n = plOk o.lk o.ls o.lt n := by unfold opRight; rw [decide_eq_true h, if_neg (by omega), if_neg (by omega), if_pos hk]; rfl
theorem opR6 {o : Oq} {n : Int} (h : 1 ≤ n ∧ n ≤ 8) (hk : o.kind = 6) : opRight o n = (plOk o.lk o.ls o.lt n && decide (2 < o.lk)) := by unfold opRight; rw [decide_eq_true h, if_neg (by omega), if_neg (by omega), if_neg (by omega), if_pos hk]; rfl
theorem opR7 {o : Oq} {n : Int} (h : 1 ≤ n ∧ n ≤ 8) (hk : o.kind = 7) : opRight o n = decide (o.lk = 1 ∨ o.lk = 2) := by unfold opRight; rw [decide_eq_true h, if_neg (by omega), if_neg (by omega), if_neg (by omega), if_neg (by omega), if_pos hk]; rfl
theorem opR8 {o : Oq} {n : Int} (h : 1 ≤ n ∧ n ≤ 8) (hk : o.kind < 1 ∨ 7 < o.kind) : opRight o n = decide (o.kind = 8) := by unfold opRight; rw [decide_eq_true h, if_neg (by omega), if_neg (by omega), if_neg (by omega), if_neg (by omega), if_neg (by omega)]; rfl
theorem plOk_lk {k s t n : Int} (h : plOk k s t n = true) : 1 ≤ k ∧ k ≤ 6 := by have := of_decide_eq_true h; omega
theorem opR6f {k s t n : Int} {b : Bool} (h : ¬ 1 ≤ k) : (plOk k s t n && b) = false := by rw [plOk_f (by omega)]; rfl
theorem beq_dec (a b : Int) : (a == b) = decide (a = b) := by by_cases h : a = b <;> simp [h]
set_option maxHeartbeats 8000000 in
theorem opRight_any (o : Oq) (n : Int) (w : World) : Calls Tryz.prog 38 #[.agg #[.int .i64 o.kind, .int .i64 o.lock, .int .i64 o.lk, .int .i64 o.ls, .int .i64 o.lt, .int .i64 o.old, .int .i64 o.new, .int .i64 o.vn, .bool o.pe.en.ad.v6, .int .u64 o.pe.en.ad.hi, .int .u64 o.pe.en.ad.lo, .int .i64 o.pe.en.port, .bool o.pe.came, .int .i64 o.pe.since, .int .i64 o.pe.pts, .int .i64 o.pe.at_, .int .i64 o.pe.ping, .int .i64 o.pe.work, o.bans.1, o.book.1, .bool o.mark], .int .i64 n] w fun r w' => r = .returned (.bool (opRight o n)) ∧ Below w.heap.size w w' := by
 rcases (show o.lk = 1 ∨ o.lk = 2 ∨ (o.lk ≠ 1 ∧ o.lk ≠ 2) by omega) with h | h | h
 all_goals
  obtain ⟨kind, lock, lk, ls, lt, old, new, vn, pe, bans, book, mark⟩ := o
  simp only at h ⊢
  try subst h
  have HP := zh (fun lk w => opPlace_any lk ls lt n w)
  have hw := w64_in (n + 1)
  go_enter Tryz.func38, Tryz.ntmps38
  go_wp2_with (go_at_call 68; (with_reducible refine (HP.out _ _).mono ?_); rintro e w1 ⟨rfl, b1⟩; obtain ⟨c1, f1⟩ := bcell b1; have z1 := b1.size; (try simp at z1); have d1a := fun o => c1 (w.heap.size) o (by first | omega | (simp; done) | (simp; omega)); clear c1 f1)
  all_goals first | (exfalso; omega) | (go_ret; refine ⟨ret_b rfl ?_, by exact bel⟩)
  all_goals ((try simp only [beq_iff_eq, beq_eq_false_iff_ne, ne_eq] at *); first | refine Eq.trans ?_ (opR0 (by first | omega | (simp only; omega))).symm | refine Eq.trans ?_ (opR1 (by first | omega | (simp only; omega)) (by first | omega | (simp only; omega))).symm | refine Eq.trans ?_ (opR2 (by first | omega | (simp only; omega)) (by first | omega | (simp only; omega))).symm | refine Eq.trans ?_ (opR5 (by first | omega | (simp only; omega)) (by first | omega | (simp only; omega))).symm | refine Eq.trans ?_ (opR6 (by first | omega | (simp only; omega)) (by first | omega | (simp only; omega))).symm | refine Eq.trans ?_ (opR7 (by first | omega | (simp only; omega)) (by first | omega | (simp only; omega))).symm | refine Eq.trans ?_ (opR8 (by first | omega | (simp only; omega)) (by first | omega | (simp only; omega))).symm)
  all_goals first | rfl | exact beq_dec _ _ | (rw [decide_eq_decide]; omega) | exact (decide_eq_true (by omega)).symm | exact (decide_eq_false (by omega)).symm | (simp [*]; done) | (rw [opR6f (by omega)]) | (simp only [hw (by omega) (by omega)]; first | (rw [decide_eq_decide]; omega) | exact (decide_eq_true (by omega)).symm | exact (decide_eq_false (by omega)).symm) | (have hq' : plOk _ ls lt n = true := (by assumption); have hq := plOk_lk hq'; simp only [hq', Bool.true_and]; rw [beq_dec, ← decide_not, decide_eq_decide]; omega)
set_option maxHeartbeats 8000000 in
theorem refRight36_any (o : Oq) (n : Int) (w : World) : Calls Tryz.prog 40 #[.agg #[.int .i64 o.kind, .int .i64 o.lock, .int .i64 o.lk, .int .i64 o.ls, .int .i64 o.lt, .int .i64 o.old, .int .i64 o.new, .int .i64 o.vn, .bool o.pe.en.ad.v6, .int .u64 o.pe.en.ad.hi, .int .u64 o.pe.en.ad.lo, .int .i64 o.pe.en.port, .bool o.pe.came, .int .i64 o.pe.since, .int .i64 o.pe.pts, .int .i64 o.pe.at_, .int .i64 o.pe.ping, .int .i64 o.pe.work, o.bans.1, o.book.1, .bool o.mark], .int .i64 n] w fun r w' => r = .returned (.bool (opRight o n)) ∧ Below w.heap.size w w' := by
 rcases (show o.lk = 1 ∨ o.lk = 2 ∨ (o.lk ≠ 1 ∧ o.lk ≠ 2) by omega) with h | h | h
 all_goals
  obtain ⟨kind, lock, lk, ls, lt, old, new, vn, pe, bans, book, mark⟩ := o
  simp only at h ⊢
  try subst h
  have HP := zh (fun lk w => refPlace_any lk ls lt n w)
  have hw := w64_in (n + 1)
  go_enter Tryz.func40, Tryz.ntmps40
  go_wp2_with (go_at_call 69; (with_reducible refine (HP.out _ _).mono ?_); rintro e w1 ⟨rfl, b1⟩; obtain ⟨c1, f1⟩ := bcell b1; have z1 := b1.size; (try simp at z1); have d1a := fun o => c1 (w.heap.size) o (by first | omega | (simp; done) | (simp; omega)); clear c1 f1)
  all_goals first | (exfalso; omega) | (go_ret; refine ⟨ret_b rfl ?_, by exact bel⟩)
  all_goals ((try simp only [beq_iff_eq, beq_eq_false_iff_ne, ne_eq] at *); first | refine Eq.trans ?_ (opR0 (by first | omega | (simp only; omega))).symm | refine Eq.trans ?_ (opR1 (by first | omega | (simp only; omega)) (by first | omega | (simp only; omega))).symm | refine Eq.trans ?_ (opR2 (by first | omega | (simp only; omega)) (by first | omega | (simp only; omega))).symm | refine Eq.trans ?_ (opR5 (by first | omega | (simp only; omega)) (by first | omega | (simp only; omega))).symm | refine Eq.trans ?_ (opR6 (by first | omega | (simp only; omega)) (by first | omega | (simp only; omega))).symm | refine Eq.trans ?_ (opR7 (by first | omega | (simp only; omega)) (by first | omega | (simp only; omega))).symm | refine Eq.trans ?_ (opR8 (by first | omega | (simp only; omega)) (by first | omega | (simp only; omega))).symm)
  all_goals first | rfl | exact beq_dec _ _ | (rw [decide_eq_decide]; omega) | exact (decide_eq_true (by omega)).symm | exact (decide_eq_false (by omega)).symm | (simp [*]; done) | (rw [opR6f (by omega)]) | (simp only [hw (by omega) (by omega)]; first | (rw [decide_eq_decide]; omega) | exact (decide_eq_true (by omega)).symm | exact (decide_eq_false (by omega)).symm) | (have hq' : plOk _ ls lt n = true := (by assumption); have hq := plOk_lk hq'; simp only [hq', Bool.true_and]; rw [beq_dec, ← decide_not, decide_eq_decide]; omega)
end Go.Proofs.YtnplgagaoeckoaaGreat
