/- Texts put together: PlEnd. No condition. -/
import Derived.Test.YtnohkfbapibmdaaRtydhknyspl
import Derived.Lib.LastIndexByte
import Derived.Lib.Strings
import Derived.Lib.IndexMore
namespace Go.Proofs.Ytnohkfbapibmdaa
open Go.RowKit

/-! ### reading -/
def boxed (h : List UInt8) : Prop := 2 ≤ h.length ∧ h[0]? = some 91 ∧ h[h.length - 1]? = some 93
instance (h : List UInt8) : Decidable (boxed h) := by unfold boxed; infer_instance
/-! ### right, written -/
end Go.Proofs.Ytnohkfbapibmdaa
