/- Texts put together: PlNet. No condition. -/
import Derived.Test.YtnohkfbapibmdaaRlkgoofuzip
import Derived.Test.YtnohkfbapibmdaaRfuzzyjxoef
import Derived.Lib.IndexLaws
import Derived.Lib.IndexBytes
namespace Go.Proofs.Ytnohkfbapibmdaa
open Go.RowKit

structure Nt where
  ad : Ad
  bits : Int
theorem Nt.ext' {a b : Nt} (h1 : a.ad = b.ad) (h2 : a.bits = b.bits) : a = b := by cases a; cases b; simp_all
instance : DecidableEq Nt := fun a b => decidable_of_iff (a.ad = b.ad ∧ a.bits = b.bits) ⟨fun ⟨h1, h2⟩ => Nt.ext' h1 h2, fun h => by subst h; exact ⟨rfl, rfl⟩⟩
instance : Inhabited Nt := ⟨⟨default, 0⟩⟩

/-! ### masked -/
end Go.Proofs.Ytnohkfbapibmdaa
