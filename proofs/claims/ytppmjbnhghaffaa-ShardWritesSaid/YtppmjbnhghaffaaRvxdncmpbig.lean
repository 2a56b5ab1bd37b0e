/- Texts put together: Ins. No condition. -/
import Derived.Test.YtppmjbnhghaffaaRyjgkeyybdp
import Derived.Test.YtppmjbnhghaffaaRymkpzkkibi
import Derived.Test.YtppmjbnhghaffaaRvdesaezpuu
import Derived.Test.YtppmjbnhghaffaaRfffzanhskk
import Derived.Lib.Overlaps
import Derived.Lib.AppendZerosOnto
namespace Go.Proofs.Ytppmjbnhghaffaa
open Go.RowKit

def insL (l : List Pe) (i : Nat) (p : Pe) : List Pe := l.take i ++ p :: l.drop i
end Go.Proofs.Ytppmjbnhghaffaa
