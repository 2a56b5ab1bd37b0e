/- Texts put together: ShV. No condition. -/
import Derived.Test.YtppmjbnhghaffaaRqlfqevcuhi
import Derived.Test.YtppmjbnhghaffaaRhjbbgjhkvr
import Derived.Test.YtppmjbnhghaffaaRogmlgjxdoh
namespace Go.Proofs.Ytppmjbnhghaffaa
open Go.ChangeShapes Go.WideShapes Go.ChangeAt Go.RowKit Go.Deep
def Sh.good (w : World) (s : Sh) : Prop := (-9223372036854775808 ≤ s.size ∧ s.size ≤ 9223372036854775807) ∧ ReadsL peV 10 w s.v s.l ∧ ∀ x ∈ s.l, x.fits
theorem opens_shard : OpensW Try.prog 70 shV Sh.good :=
  (opensW_of_fields Try.underlying70 (opensWF_cons (n := 1) (opens_i64 Try.underlying3).w (by kernel_rfl) rfl (opensWF_cons (n := 1) (opensW_slice opens_peer.w peV_len (by omega) Try.underlying58 (by kernel_rfl)) (by kernel_rfl) rfl opensWF_nil)) (by kernel_rfl)).map
    fun w ⟨z, p, _⟩ ⟨h1, h2, _⟩ => ⟨⟨z, p.1, p.2⟩, ⟨h1, h2.1, h2.2⟩, rfl⟩
end Go.Proofs.Ytppmjbnhghaffaa
