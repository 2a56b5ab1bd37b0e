/- Texts put together: ClV. No condition. -/
import Derived.Test.YtnohkfbapibmdaaGreatRjsnhszyvan
import Derived.Test.YtnohkfbapibmdaaGreatRkgffnfeknt
namespace Go.Proofs.YtnohkfbapibmdaaGreat
open Go.ChangeShapes Go.WideShapes Go.ChangeAt Go.RowKit Go.Deep
theorem opens_call : Opens Tryz.prog 30 clV Cl.fits :=
  (opens_of_fields Tryz.underlying30 (opensF_cons (n := 1) (opens_i64 Tryz.underlying3) (by kernel_rfl) rfl (opensF_cons (n := 4) opens_end (by kernel_rfl) rfl (opensF_cons (n := 4) opens_net (by kernel_rfl) rfl (opensF_cons (n := 1) (opens_i64 Tryz.underlying3) (by kernel_rfl) rfl
    (opensF_cons (n := 1) (opens_i64 Tryz.underlying3) (by kernel_rfl) rfl (opensF_cons (n := 1) (opens_bool Tryz.underlying4) (by kernel_rfl) rfl opensF_nil)))))) (by kernel_rfl)).map
    fun ⟨k, e, n, a, b, g, _⟩ ⟨_, h2, h3, h4, h5, _, _⟩ => ⟨⟨k, e, n, a, b, g⟩, ⟨⟨h2.1, h3.1⟩, h4.1, h4.2, h5.1, h5.2⟩, rfl⟩
end Go.Proofs.YtnohkfbapibmdaaGreat
