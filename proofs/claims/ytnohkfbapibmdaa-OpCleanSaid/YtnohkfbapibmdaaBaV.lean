/- How an argument that is a ban is opened. No condition. -/
import Derived.Test.YtnohkfbapibmdaaOpenN
import Derived.Test.YtnohkfbapibmdaaQc03ddbrmyxtq
namespace Go.Proofs.Ytnohkfbapibmdaa
open Go.ChangeShapes Go.WideShapes Go.ChangeAt Go.RowKit Go.Deep
def baV (b : Ba) : List Value := [.bool b.nt.ad.v6, .int .u64 b.nt.ad.hi, .int .u64 b.nt.ad.lo, .int .i64 b.nt.bits, .int .i64 b.till]
def Ba.fits (b : Ba) : Prop := b.nt.fits ∧ -9223372036854775808 ≤ b.till ∧ b.till ≤ 9223372036854775807
theorem opens_ban : Opens Try.prog 82 baV Ba.fits :=
  (opens_of_fields Try.underlying82 (opensF_cons (n := 4) opens_net (by kernel_rfl) rfl (opensF_cons (n := 1) (opens_i64 Try.underlying3) (by kernel_rfl) rfl opensF_nil)) (by kernel_rfl)).map
    fun ⟨a, b, _⟩ ⟨h1, h2, _⟩ => ⟨⟨a, b⟩, ⟨h1, h2⟩, rfl⟩
end Go.Proofs.Ytnohkfbapibmdaa
