/- Texts put together: TabU. No condition. -/
import Derived.Test.YtppmjbnhghaffaaRjvhvryogad
import Derived.Test.YtppmjbnhghaffaaRsuzfovonfx
import Derived.Test.YtppmjbnhghaffaaRjbbtbylgcx
import Derived.Test.YtppmjbnhghaffaaRzgjsloivew
import Derived.Test.YtppmjbnhghaffaaRucrranjrxo
import Derived.Test.YtppmjbnhghaffaaRhtuacnmkql
import Derived.Test.YtppmjbnhghaffaaRiwvlkgqjfj
import Derived.Test.YtppmjbnhghaffaaRhjbbgjhkvr
import Derived.Test.YtppmjbnhghaffaaRtulbokwbuy
import Derived.Test.YtppmjbnhghaffaaRcngjchkxll
import Derived.LoopTactic
import Derived.Test.YtppmjbnhghaffaaRows
import Derived.RegionTactic
import Derived.BigRegion
import Derived.Deep.RegionWith
import Derived.IntWalk
import Derived.Lib.ItoaWalk
import Derived.Handy
import Derived.Deep.RegionHeld3
import Derived.BigGuardPart
import Derived.StillTail
namespace Go.Proofs.Ytppmjbnhghaffaa
open Go.RowKit Go.Lib Go.Sort

theorem wo_ltEn : WO ltEn := wo_en
theorem pst_srt (l : List Pe) : pstL l = ssort ltEn l := by
  unfold pstL ssort
  exact (ssort_pst l []).symm
end Go.Proofs.Ytppmjbnhghaffaa
