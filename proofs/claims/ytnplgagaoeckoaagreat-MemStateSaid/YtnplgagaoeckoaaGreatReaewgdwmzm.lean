/- Texts put together: OrdN. No condition. -/
import Derived.Test.YtnplgagaoeckoaaGreatRixznyryfjf
import Derived.Test.YtnplgagaoeckoaaGreatRqhixicnkoi
namespace Go.Proofs.YtnplgagaoeckoaaGreat
open Go.RowKit

set_option maxRecDepth 100000 in
theorem refNtCmp_any (a b : Nt) (w : World) : Calls Tryz.prog 83 #[.agg #[.bool a.ad.v6, .int .u64 a.ad.hi, .int .u64 a.ad.lo, .int .i64 a.bits], .agg #[.bool b.ad.v6, .int .u64 b.ad.hi, .int .u64 b.ad.lo, .int .i64 b.bits]] w fun e w' => e = .returned (.int .i64 (ntCmp a b)) ∧ Below w.heap.size w w' := by
  have z0 : w.heap.size < w.heap.size + 1 + 1 := by omega
  go_enter Tryz.func83, Tryz.ntmps83
  go_wp2_with (go_at_call 104; refine (refAdCmp_any a.ad b.ad _).mono ?_; rintro e w1 ⟨rfl, b1⟩; obtain ⟨c1, f1⟩ := bcell b1)
  all_goals
    go_ret
    refine ⟨ret_int ?_, ?_⟩
    · unfold ntCmp; rw [orI_two]
      simp_all [cmpI]
      try omega
    · repeat (first | assumption | exact Below.refl _ _ | refine Below.alloc ?_ (by first | omega | (simp; done) | (simp; omega)) _ | refine Below.drew ?_ | (refine Below.trans ?_ (Below.mono (by assumption) (by first | omega | (simp; done) | (simp; omega)))))
end Go.Proofs.YtnplgagaoeckoaaGreat
