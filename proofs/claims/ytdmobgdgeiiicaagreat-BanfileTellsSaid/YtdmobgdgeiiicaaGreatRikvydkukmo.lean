/- Texts put together: App. No condition. -/
import Derived.Test.YtdmobgdgeiiicaaGreatRwtpplsddwz
import Derived.Test.YtdmobgdgeiiicaaGreatRzwlyefaotn
namespace Go.Proofs.YtdmobgdgeiiicaaGreat
open Go.RowKit
theorem own_made {w : World} {base g size : Nat} {e : TypeId} (hg : g = w.heap.size) (hb : base ≤ w.heap.size) : (w.alloc (.cells #[] e)).ownsRow base e size (.slice (some ⟨g, 0, none⟩) 0 0) 0 [] := by
  subst hg; exact World.ownsRow_made w #[] 0 hb (Nat.zero_le _) (by simp)
end Go.Proofs.YtdmobgdgeiiicaaGreat
