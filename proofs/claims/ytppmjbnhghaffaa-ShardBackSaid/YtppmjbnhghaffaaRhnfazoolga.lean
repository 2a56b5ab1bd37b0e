/- Texts put together: SiegeB. No condition. -/
import Derived.Test.YtppmjbnhghaffaaRezglouamjh
import Derived.Test.YtppmjbnhghaffaaRsayqngmchw
namespace Go.Proofs.Ytppmjbnhghaffaa
open Go.RowKit

/-- how many may come, the quotas, the secret -/
structure St where
  most : Int
  q : Qu
  s : Nat
def St.fits (t : St) : Prop := (-9223372036854775808 ≤ t.most ∧ t.most ≤ 9223372036854775807) ∧ t.q.fits ∧ t.s < 18446744073709551616
theorem reads_blk {w : World} {B size : Nat} {us : List Value} {T : TypeId} (h : BlockIs w B us T) (hl : us.length = size) (hs : 0 < size) : Reads w (.slice (some ⟨B, 0, none⟩) 1 1) 1 size us :=
  ⟨by omega, by omega, Or.inr ⟨by omega, B, 0, 1, rfl, by omega, h.lt, fun j x hj => by rw [Nat.zero_add]; exact h.cell hj⟩⟩
end Go.Proofs.Ytppmjbnhghaffaa
