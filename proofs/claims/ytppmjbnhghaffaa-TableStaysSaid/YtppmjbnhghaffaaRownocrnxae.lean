/- Texts put together: SiegeB. No condition. -/
import Derived.Test.YtppmjbnhghaffaaRclffotmxbv
import Derived.Test.YtppmjbnhghaffaaRqpobapysuz
import Derived.Test.YtppmjbnhghaffaaRoifxhjprci
namespace Go.Proofs.Ytppmjbnhghaffaa
open Go.RowKit

/-- how many may come, the quotas, the secret -/
structure St where
  most : Int
  q : Qu
  s : Nat
def St.fits (t : St) : Prop := (-9223372036854775808 ≤ t.most ∧ t.most ≤ 9223372036854775807) ∧ t.q.fits ∧ t.s < 18446744073709551616
end Go.Proofs.Ytppmjbnhghaffaa
