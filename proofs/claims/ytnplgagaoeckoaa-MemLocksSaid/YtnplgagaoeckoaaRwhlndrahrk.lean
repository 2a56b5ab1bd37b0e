/- Texts put together: Words. No condition. -/
import Derived.Test.YtnplgagaoeckoaaRruzvpzuhtu
import Derived.Test.YtnplgagaoeckoaaRyikgycwcyx
import Derived.Test.YtnplgagaoeckoaaRpzrpthoslk
import Derived.Test.YtnplgagaoeckoaaRows
import Derived.Test.YtnplgagaoeckoaaShelf
import Derived.WalkKit
import Derived.WalkSpells
import Derived.WalkLawsBesides
import Derived.WalkSmall
import Derived.BigGuardPart
import Derived.BigQuiet
import Derived.Deep.QuietTactic
import Derived.Deep.RegionLaw
import Derived.Deep.Light
namespace Go.Proofs.Ytnplgagaoeckoaa
open Go.RowKit
attribute [local go_sem] w64_byte w64_byte_sub

/-! ### the reference's Join -/
/-! ### are two lists of texts one? -/
end Go.Proofs.Ytnplgagaoeckoaa
