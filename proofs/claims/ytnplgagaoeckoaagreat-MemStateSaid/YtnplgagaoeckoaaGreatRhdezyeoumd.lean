/- Texts put together: End. No condition. -/
import Derived.Test.YtnplgagaoeckoaaGreatRgstdjprmfh
import Derived.Test.YtnplgagaoeckoaaGreatRiqzrrrcefq
namespace Go.Proofs.YtnplgagaoeckoaaGreat
open Go.RowKit
set_option linter.unusedSimpArgs false
set_option linter.unusedVariables false

set_option maxRecDepth 100000 in
set_option maxHeartbeats 4000000 in
theorem refEnRight_any (e : En) (hf : e.ad.fits) (w : World) : Calls Tryz.prog 105 #[.agg #[.bool e.ad.v6, .int .u64 e.ad.hi, .int .u64 e.ad.lo, .int .i64 e.port]] w fun r w' => r = .returned (.bool (enRight e)) ∧ Below w.heap.size w w' := by
  have hR := fun w => refAdRight_any e.ad hf w
  unfold enRight
  cases hr : adRight e.ad with
  | false =>
    rw [hr] at hR
    have HR := Lib.hid hR; clear hR
    go_enter Tryz.func105, Tryz.ntmps105
    go_wp2_with (go_at_call 116; (with_reducible refine (HR.out _).mono ?_); rintro e w1 ⟨rfl, b1⟩; obtain ⟨c1, f1⟩ := bcell b1; have z1 := b1.size; (try simp at z1); have d1a := fun o => c1 (w.heap.size) o (by first | omega | (simp; done) | (simp; omega)); clear c1 f1)
    go_ret
    refine ⟨rfl, ?_⟩
    (repeat (first | assumption | exact Below.refl _ _ | refine Below.setCell ?_ (by first | omega | (simp; done) | (simp; omega)) _ | refine Below.alloc ?_ (by first | omega | (simp; done) | (simp; omega)) _ | refine Below.drew ?_ | (refine Below.trans ?_ (Below.mono (by assumption) (by first | omega | (simp; done) | (simp; omega))))))
  | true =>
    rw [hr] at hR
    have HR := Lib.hid hR; clear hR hr
    rcases Int.lt_or_le 0 e.port with h1 | h1
    · have d1 : decide (1 ≤ e.port) = true := decide_eq_true (by omega)
      have d3 : decide (0 < e.port) = true := decide_eq_true h1
      rw [d1]
      rcases Int.lt_or_le e.port 65536 with h2 | h2
      · have d2 : decide (e.port ≤ 65535) = true := decide_eq_true (by omega)
        have d4 : decide (e.port < 65536) = true := decide_eq_true h2
        rw [d2]
        go_enter Tryz.func105, Tryz.ntmps105
        go_wp2_with (go_at_call 116; (with_reducible refine (HR.out _).mono ?_); rintro e w1 ⟨rfl, b1⟩; obtain ⟨c1, f1⟩ := bcell b1; have z1 := b1.size; (try simp at z1); have d1a := fun o => c1 (w.heap.size) o (by first | omega | (simp; done) | (simp; omega)); clear c1 f1)
        go_ret
        refine ⟨rfl, ?_⟩
        (repeat (first | assumption | exact Below.refl _ _ | refine Below.setCell ?_ (by first | omega | (simp; done) | (simp; omega)) _ | refine Below.alloc ?_ (by first | omega | (simp; done) | (simp; omega)) _ | refine Below.drew ?_ | (refine Below.trans ?_ (Below.mono (by assumption) (by first | omega | (simp; done) | (simp; omega))))))
      · have d2 : decide (e.port ≤ 65535) = false := decide_eq_false (by omega)
        have d4 : decide (e.port < 65536) = false := decide_eq_false (by omega)
        rw [d2]
        go_enter Tryz.func105, Tryz.ntmps105
        go_wp2_with (go_at_call 116; (with_reducible refine (HR.out _).mono ?_); rintro e w1 ⟨rfl, b1⟩; obtain ⟨c1, f1⟩ := bcell b1; have z1 := b1.size; (try simp at z1); have d1a := fun o => c1 (w.heap.size) o (by first | omega | (simp; done) | (simp; omega)); clear c1 f1)
        go_ret
        refine ⟨rfl, ?_⟩
        (repeat (first | assumption | exact Below.refl _ _ | refine Below.setCell ?_ (by first | omega | (simp; done) | (simp; omega)) _ | refine Below.alloc ?_ (by first | omega | (simp; done) | (simp; omega)) _ | refine Below.drew ?_ | (refine Below.trans ?_ (Below.mono (by assumption) (by first | omega | (simp; done) | (simp; omega))))))
    · have d1 : decide (1 ≤ e.port) = false := decide_eq_false (by omega)
      have d3 : decide (0 < e.port) = false := decide_eq_false (by omega)
      rw [d1]
      go_enter Tryz.func105, Tryz.ntmps105
      go_wp2_with (go_at_call 116; (with_reducible refine (HR.out _).mono ?_); rintro e w1 ⟨rfl, b1⟩; obtain ⟨c1, f1⟩ := bcell b1; have z1 := b1.size; (try simp at z1); have d1a := fun o => c1 (w.heap.size) o (by first | omega | (simp; done) | (simp; omega)); clear c1 f1)
      go_ret
      refine ⟨rfl, ?_⟩
      (repeat (first | assumption | exact Below.refl _ _ | refine Below.setCell ?_ (by first | omega | (simp; done) | (simp; omega)) _ | refine Below.alloc ?_ (by first | omega | (simp; done) | (simp; omega)) _ | refine Below.drew ?_ | (refine Below.trans ?_ (Below.mono (by assumption) (by first | omega | (simp; done) | (simp; omega))))))
end Go.Proofs.YtnplgagaoeckoaaGreat
