/- Texts put together: PlNetP. No condition. -/
import Derived.Test.YtnplgagaoeckoaaGreatRrjxbgxemzo
import Derived.Lib.IndexMore
set_option linter.unusedSimpArgs false
set_option linter.unusedVariables false
namespace Go.Proofs.YtnplgagaoeckoaaGreat
open Go.RowKit
/-! ### the first place of a byte -/
/-! ### which subnet a text is -/
theorem adMake_fits (a : Ad) (n : Int) (hf : a.fits) : (adMake a n).1.ad.fits := by
 unfold adMake
 split
 ·exact adMask_fits a n hf
 ·exact ⟨by simp, by simp⟩
end Go.Proofs.YtnplgagaoeckoaaGreat
