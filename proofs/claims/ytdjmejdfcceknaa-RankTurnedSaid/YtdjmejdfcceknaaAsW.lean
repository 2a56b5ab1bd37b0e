/- How an argument that asks for an order is opened, with a place that is a number of 64 bits. No condition. -/
import Derived.Test.YtdjmejdfcceknaaAsV
namespace Go.Proofs.Ytdjmejdfcceknaa
open Go.ChangeShapes Go.WideShapes Go.ChangeAt Go.RowKit Go.Deep
theorem opens_askedB : Opens Try.prog 53 asV (fun a => a.fits ∧ (-9223372036854775808 ≤ a.at_ ∧ a.at_ ≤ 9223372036854775807)) :=
  (opens_of_fields Try.underlying53 (opensF_cons (n := 1) (opens_i64 Try.underlying3) (by kernel_rfl) rfl (opensF_cons (n := 1) (opens_i64 Try.underlying3) (by kernel_rfl) rfl (opensF_cons (n := 1) (opens_i64 Try.underlying3) (by kernel_rfl) rfl (opensF_cons (n := 1) (opens_u64 Try.underlying26) (by kernel_rfl) rfl opensF_nil)))) (by kernel_rfl)).map
    fun ⟨b, n, a, s, _⟩ ⟨_, h2, h3, h4, _⟩ => ⟨⟨b, n, a, s⟩, ⟨⟨h2, h4⟩, h3⟩, rfl⟩
end Go.Proofs.Ytdjmejdfcceknaa
