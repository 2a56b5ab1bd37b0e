/- Texts put together: TabH. No condition. -/
import Derived.Test.YtppmjbnhghaffaaRcoclwncotw
import Derived.Test.YtppmjbnhghaffaaRlibceagekv
import Derived.Deep.RegionHeld3
import Derived.Handy
namespace Go.Proofs.Ytppmjbnhghaffaa
open Go.RowKit Go.Lib
set_option linter.unusedSimpArgs false
set_option linter.unusedVariables false

/-- where a peer goes -/
def putI (l : List Pe) (p : Pe) : Nat := (l.findIdx? fun x => decide (0 < enCmp x.en p.en)).getD l.length
def putT (l : List Pe) (p : Pe) : List Pe := insL l (putI l p) p
end Go.Proofs.Ytppmjbnhghaffaa
