/- Texts put together: OpenN. No condition. -/
import Derived.Test.YtnohkfbapibmdaaGreatRufnvacbxqb
import Derived.Test.YtnohkfbapibmdaaGreatRwqesxugwwq
namespace Go.Proofs.YtnohkfbapibmdaaGreat
open Go.ChangeShapes Go.WideShapes Go.ChangeAt Go.RowKit Go.Deep
def ntV (e : Nt) : List Value := [.bool e.ad.v6, .int .u64 e.ad.hi, .int .u64 e.ad.lo, .int .i64 e.bits]
def Nt.fits (e : Nt) : Prop := e.ad.fits ∧ -9223372036854775808 ≤ e.bits ∧ e.bits ≤ 9223372036854775807
theorem opens_net : Opens Tryz.prog 28 ntV Nt.fits :=
  (opens_of_fields Tryz.underlying28 (opensF_cons (n := 3) opens_addr (by kernel_rfl) rfl (opensF_cons (n := 1) (opens_i64 Tryz.underlying3) (by kernel_rfl) rfl opensF_nil)) (by kernel_rfl)).map
    fun ⟨a, b, _⟩ ⟨h1, h2, _⟩ => ⟨⟨a, b⟩, ⟨h1, h2⟩, rfl⟩
end Go.Proofs.YtnohkfbapibmdaaGreat
