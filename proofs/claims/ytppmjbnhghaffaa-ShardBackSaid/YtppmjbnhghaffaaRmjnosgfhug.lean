/- Texts put together: TabU. No condition. -/
import Derived.Test.YtppmjbnhghaffaaRtuhwsgatiu
import Derived.Test.YtppmjbnhghaffaaRenfvyjetnc
import Derived.Test.YtppmjbnhghaffaaRknphffjese
import Derived.Test.YtppmjbnhghaffaaRrwqrrksqsy
import Derived.Test.YtppmjbnhghaffaaRdmlrqceeft
namespace Go.Proofs.Ytppmjbnhghaffaa
open Go.RowKit Go.Lib Go.Sort

theorem wo_ltEn : WO ltEn := wo_en
theorem pst_srt (l : List Pe) : pstL l = ssort ltEn l := by
  unfold pstL ssort
  exact (ssort_pst l []).symm
end Go.Proofs.Ytppmjbnhghaffaa
