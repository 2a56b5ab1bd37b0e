/- How an argument that asks for an order is opened. No condition. -/
import Derived.Test.YtdjmejdfcceknaaQ39b3e2tfzfty
import Derived.Test.YtdjmejdfcceknaaLawRank
namespace Go.Proofs.Ytdjmejdfcceknaa
open Go.ChangeShapes Go.WideShapes Go.ChangeAt Go.RowKit Go.Deep
theorem opens_asked : Opens Try.prog 53 asV As.fits :=
  (opens_of_fields Try.underlying53 (opensF_cons (n := 1) (opens_i64 Try.underlying3) (by kernel_rfl) rfl (opensF_cons (n := 1) (opens_i64 Try.underlying3) (by kernel_rfl) rfl (opensF_cons (n := 1) (opens_i64 Try.underlying3) (by kernel_rfl) rfl (opensF_cons (n := 1) (opens_u64 Try.underlying26) (by kernel_rfl) rfl opensF_nil)))) (by kernel_rfl)).map
    fun ⟨b, n, a, s, _⟩ ⟨_, h2, _, h4, _⟩ => ⟨⟨b, n, a, s⟩, ⟨h2, h4⟩, rfl⟩
end Go.Proofs.Ytdjmejdfcceknaa
