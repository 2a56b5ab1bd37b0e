/- Texts put together: NetF. No condition. -/
import Derived.Test.YtnohkfbapibmdaaRfhlcaqzwlo
namespace Go.Proofs.Ytnohkfbapibmdaa
open Go.RowKit
set_option linter.unusedSimpArgs false
set_option linter.unusedVariables false

set_option maxRecDepth 100000 in
set_option maxHeartbeats 4000000 in
theorem ntRight_any (n : Nt) (hf : n.ad.fits) (w : World) : Calls Try.prog 116 #[.agg #[.bool n.ad.v6, .int .u64 n.ad.hi, .int .u64 n.ad.lo, .int .i64 n.bits]] w fun e w' => e = .returned (.bool (ntRight n)) ∧ Below w.heap.size w w' := by
  have hM := fun w => adMake_any n.ad hf n.bits w
  unfold GivesNt at hM
  have hr := ntRight_make n
  generalize adMake n.ad n.bits = r at *
  obtain ⟨m, ok⟩ := r
  simp only at hr hM
  have q := fun W => eqlNt m n W
  have HM := Lib.hid hM; clear hM
  cases ok with
  | false =>
    rw [Bool.false_and] at hr
    rw [hr]
    clear q hr
    go_enter Try.func116, Try.ntmps116
    go_wp2_with (go_at_call 153; (with_reducible refine (HM.out _).mono ?_); rintro e w1 ⟨rfl, b1⟩; obtain ⟨c1, f1⟩ := bcell b1; have z1 := b1.size; (try simp at z1); have l1a : w.heap.size < w1.heap.size := (by omega); have n1a := Nat.ne_of_lt l1a; have d1a := fun o => c1 (w.heap.size) o (by first | omega | (simp; done) | (simp; omega)); clear c1 f1)
    go_ret
    refine ⟨rfl, ?_⟩
    (repeat (first | assumption | exact Below.refl _ _ | refine Below.setCell ?_ (by first | omega | (simp; done) | (simp; omega)) _ | refine Below.alloc ?_ (by first | omega | (simp; done) | (simp; omega)) _ | refine Below.drew ?_ | (refine Below.trans ?_ (Below.mono (by assumption) (by first | omega | (simp; done) | (simp; omega))))))
  | true =>
    rw [Bool.true_and] at hr
    rw [hr]
    clear hr
    go_enter Try.func116, Try.ntmps116
    go_wp2_with (go_at_call 153; (with_reducible refine (HM.out _).mono ?_); rintro e w1 ⟨rfl, b1⟩; obtain ⟨c1, f1⟩ := bcell b1; have z1 := b1.size; (try simp at z1); have l1a : w.heap.size < w1.heap.size := (by omega); have n1a := Nat.ne_of_lt l1a; have d1a := fun o => c1 (w.heap.size) o (by first | omega | (simp; done) | (simp; omega)); clear c1 f1)
    go_ret
    refine ⟨rfl, ?_⟩
    (repeat (first | assumption | exact Below.refl _ _ | refine Below.setCell ?_ (by first | omega | (simp; done) | (simp; omega)) _ | refine Below.alloc ?_ (by first | omega | (simp; done) | (simp; omega)) _ | refine Below.drew ?_ | (refine Below.trans ?_ (Below.mono (by assumption) (by first | omega | (simp; done) | (simp; omega))))))
end Go.Proofs.Ytnohkfbapibmdaa
