/- Texts put together: LawIp6. No condition. -/
import Derived.Test.YtdmobgdgeiiicaaRwvrwmwswxp
import Derived.Test.YtdmobgdgeiiicaaRows
import Derived.WalkKit
import Derived.WalkSpells
import Derived.WalkLawsBesides
import Derived.BigGuardPart
import Derived.BigQuiet
import Derived.Deep.QuietTactic
import Derived.Deep.Light
import Derived.OwnWalk
import Derived.Laws.OwnMore
import Derived.StillTailTactics
import Derived.BigRegion
import Derived.Handy
namespace Go.Proofs.Ytdmobgdgeiiicaa
open Go.RowKit

theorem cpu_of {W : World} (h : W.ShapedOpen Try.prog) : Cpu W := Try.laysM143.s1_3 W h
end Go.Proofs.Ytdmobgdgeiiicaa
