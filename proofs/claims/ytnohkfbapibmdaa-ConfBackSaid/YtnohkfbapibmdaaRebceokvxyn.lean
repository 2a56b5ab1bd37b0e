/- Texts put together: ConfU. No condition. -/
import Derived.Test.YtnohkfbapibmdaaRjfpgpwihjm
namespace Go.Proofs.Ytnohkfbapibmdaa
open Go.RowKit
set_option linter.unusedSimpArgs false
set_option linter.unusedVariables false

theorem BlockIs.ext' {w : World} {B : Nat} {arr : List Value} {T : TypeId} (h : BlockIs w B arr T) (Y : Grow) : BlockIs (ext w Y) B arr T := h.below (ext_below w Y)
end Go.Proofs.Ytnohkfbapibmdaa
