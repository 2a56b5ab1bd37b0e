/- Texts put together: Ban. No condition. -/
import Derived.Test.YtnplgagaoeckoaaGreatRgstdjprmfh
import Derived.Test.YtnplgagaoeckoaaGreatRucauhavwgz
import Derived.Test.YtnplgagaoeckoaaGreatRiqzrrrcefq
import Derived.Test.YtnplgagaoeckoaaGreatRjfjqandfij
namespace Go.Proofs.YtnplgagaoeckoaaGreat
open Go.RowKit
set_option linter.unusedSimpArgs false
set_option linter.unusedVariables false

set_option maxRecDepth 100000 in
set_option maxHeartbeats 4000000 in
theorem refBaRight_any (b : Ba) (hf : b.nt.ad.fits) (w : World) : Calls Tryz.prog 82 #[.agg #[.bool b.nt.ad.v6, .int .u64 b.nt.ad.hi, .int .u64 b.nt.ad.lo, .int .i64 b.nt.bits, .int .i64 b.till]] w fun r w' => r = .returned (.bool (baRight b)) ∧ Below w.heap.size w w' := by
  have hR := fun w => refNtRight_any b.nt hf w
  unfold baRight
  cases hr : ntRight b.nt with
  | false =>
    rw [hr] at hR
    have HR := Lib.hid hR; clear hR
    go_enter Tryz.func82, Tryz.ntmps82
    go_wp2_with (go_at_call 103; (with_reducible refine (HR.out _).mono ?_); rintro e w1 ⟨rfl, b1⟩; obtain ⟨c1, f1⟩ := bcell b1; have z1 := b1.size; (try simp at z1); have d1a := fun o => c1 (w.heap.size) o (by first | omega | (simp; done) | (simp; omega)); clear c1 f1)
    go_ret
    refine ⟨rfl, ?_⟩
    exact bel
  | true =>
    rw [hr] at hR
    have HR := Lib.hid hR; clear hR hr
    rcases Int.lt_or_le 0 b.till with h1 | h1
    · have d1 : decide (1 ≤ b.till) = true := decide_eq_true (by omega)
      have d3 : decide (0 < b.till) = true := decide_eq_true h1
      rw [d1]
      rcases Int.lt_or_le 1099511627776 b.till with h2 | h2
      · have d2 : decide (b.till ≤ 1099511627776) = false := decide_eq_false (by omega)
        rw [d2]
        go_enter Tryz.func82, Tryz.ntmps82
        go_wp2_with (go_at_call 103; (with_reducible refine (HR.out _).mono ?_); rintro e w1 ⟨rfl, b1⟩; obtain ⟨c1, f1⟩ := bcell b1; have z1 := b1.size; (try simp at z1); have d1a := fun o => c1 (w.heap.size) o (by first | omega | (simp; done) | (simp; omega)); clear c1 f1)
        go_ret
        refine ⟨rfl, ?_⟩
        exact bel
      · have d2 : decide (b.till ≤ 1099511627776) = true := decide_eq_true h2
        rw [d2]
        go_enter Tryz.func82, Tryz.ntmps82
        go_wp2_with (go_at_call 103; (with_reducible refine (HR.out _).mono ?_); rintro e w1 ⟨rfl, b1⟩; obtain ⟨c1, f1⟩ := bcell b1; have z1 := b1.size; (try simp at z1); have d1a := fun o => c1 (w.heap.size) o (by first | omega | (simp; done) | (simp; omega)); clear c1 f1)
        go_ret
        refine ⟨rfl, ?_⟩
        exact bel
    · have d1 : decide (1 ≤ b.till) = false := decide_eq_false (by omega)
      have d3 : decide (0 < b.till) = false := decide_eq_false (by omega)
      rw [d1]
      go_enter Tryz.func82, Tryz.ntmps82
      go_wp2_with (go_at_call 103; (with_reducible refine (HR.out _).mono ?_); rintro e w1 ⟨rfl, b1⟩; obtain ⟨c1, f1⟩ := bcell b1; have z1 := b1.size; (try simp at z1); have d1a := fun o => c1 (w.heap.size) o (by first | omega | (simp; done) | (simp; omega)); clear c1 f1)
      go_ret
      refine ⟨rfl, ?_⟩
      exact bel
end Go.Proofs.YtnplgagaoeckoaaGreat
