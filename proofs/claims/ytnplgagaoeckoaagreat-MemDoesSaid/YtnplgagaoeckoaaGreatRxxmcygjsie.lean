/- Texts put together: QTail. No condition. -/
import Derived.Test.YtnplgagaoeckoaaGreatRfnolrsgeod
import Derived.StillTail
set_option linter.unusedSimpArgs false
set_option linter.unusedVariables false
namespace Go.Proofs.YtnplgagaoeckoaaGreat
open Go.RowKit
section
variable {P : Program} {ops : Array Oper} {md : Region.Mode} {C : World → Prop}

end
/-- the world at the end, by a name -/
theorem bodyPost_named {P : Program} {F : Func} {Q : Ending → World → Prop} {e : Exit} {a : Act} {W : World} (h : ∀ W9, W9 = W → bodyPost P F Q e a W9) : bodyPost P F Q e a W := h W rfl
end Go.Proofs.YtnplgagaoeckoaaGreat
