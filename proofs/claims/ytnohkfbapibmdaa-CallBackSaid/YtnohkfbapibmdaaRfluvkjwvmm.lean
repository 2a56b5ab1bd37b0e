/- Texts put together: ClV. No condition. -/
import Derived.Test.YtnohkfbapibmdaaRbzkbnpzbap
import Derived.Test.YtnohkfbapibmdaaRtijiakygtx
namespace Go.Proofs.Ytnohkfbapibmdaa
open Go.ChangeShapes Go.WideShapes Go.ChangeAt Go.RowKit Go.Deep
theorem opens_call : Opens Try.prog 93 clV Cl.fits :=
  (opens_of_fields Try.underlying93 (opensF_cons (n := 1) (opens_i64 Try.underlying3) (by kernel_rfl) rfl (opensF_cons (n := 4) opens_end (by kernel_rfl) rfl (opensF_cons (n := 4) opens_net (by kernel_rfl) rfl (opensF_cons (n := 1) (opens_i64 Try.underlying3) (by kernel_rfl) rfl
    (opensF_cons (n := 1) (opens_i64 Try.underlying3) (by kernel_rfl) rfl (opensF_cons (n := 1) (opens_bool Try.underlying4) (by kernel_rfl) rfl opensF_nil)))))) (by kernel_rfl)).map
    fun ⟨k, e, n, a, b, g, _⟩ ⟨_, h2, h3, h4, h5, _, _⟩ => ⟨⟨k, e, n, a, b, g⟩, ⟨⟨h2.1, h3.1⟩, h4.1, h4.2, h5.1, h5.2⟩, rfl⟩
end Go.Proofs.Ytnohkfbapibmdaa
