/- Texts put together: Words. No condition. -/
import Derived.Test.YtnplgagaoeckoaaGreatRuzzvrjikhw
import Derived.Test.YtnplgagaoeckoaaGreatRrjxbgxemzo
import Derived.Test.YtnplgagaoeckoaaGreatRsotvhlhkis
import Derived.Test.YtnplgagaoeckoaaGreatRows
import Derived.Test.YtnplgagaoeckoaaGreatShelf
import Derived.WalkKit
import Derived.WalkSpells
import Derived.WalkLawsBesides
import Derived.WalkSmall
import Derived.BigGuardPart
import Derived.BigQuiet
import Derived.Deep.QuietTactic
import Derived.Deep.RegionLaw
import Derived.Deep.Light
set_option linter.unusedSimpArgs false
set_option linter.unusedVariables false
namespace Go.Proofs.YtnplgagaoeckoaaGreat
open Go.RowKit
attribute [local go_sem] w64_byte w64_byte_sub

/-! ### the reference's Join -/
/-! ### are two lists of texts one? -/
end Go.Proofs.YtnplgagaoeckoaaGreat
