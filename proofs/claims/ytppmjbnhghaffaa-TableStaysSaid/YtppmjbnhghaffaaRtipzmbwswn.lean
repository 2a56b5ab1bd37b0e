/- Texts put together: TabI. No condition. -/
import Derived.Test.YtppmjbnhghaffaaRgdzhiqvuoi
import Derived.Test.YtppmjbnhghaffaaRntuplqrurp
namespace Go.Proofs.Ytppmjbnhghaffaa
open Go.RowKit Go.Lib

/-- a table with a peer more, and the code -/
def addT (l : List Pe) (p : Pe) : List Pe × Int := if peRight p = false then ([], 1) else if 0 ≤ fdI l p.en then ([], 7) else (putT l p, 0)
end Go.Proofs.Ytppmjbnhghaffaa
