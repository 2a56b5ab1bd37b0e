/- Texts put together: LawIp6. No condition. -/
import Derived.Test.YtnohkfbapibmdaaGreatRyngrcshbbd
namespace Go.Proofs.YtnohkfbapibmdaaGreat
open Go.RowKit

theorem cpu_of {W : World} (h : W.ShapedOpen Tryz.prog) : Cpu W := Tryz.laysM143.s1_3 W h
end Go.Proofs.YtnohkfbapibmdaaGreat
