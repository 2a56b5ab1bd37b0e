/- Texts put together: OpenN. No condition. -/
import Derived.Test.YtppmjbnhghaffaaRrncnnvzmkh
import Derived.Test.YtppmjbnhghaffaaRjxylkaeqpy
namespace Go.Proofs.Ytppmjbnhghaffaa
open Go.ChangeShapes Go.WideShapes Go.ChangeAt Go.RowKit Go.Deep
def Nt.fits (e : Nt) : Prop := e.ad.fits ∧ -9223372036854775808 ≤ e.bits ∧ e.bits ≤ 9223372036854775807
end Go.Proofs.Ytppmjbnhghaffaa
