/- The contracts of the comparisons of numbers, addresses and ends. -/
import Derived.Test.YtnohkfbapibmdaaRows
import Derived.Test.YtnohkfbapibmdaaQba21a9camtlu
import Derived.Test.YtnohkfbapibmdaaQ3d1c45inyoua
import Derived.Test.YtnohkfbapibmdaaCells
import Derived.WalkKit
import Derived.WalkSpells
import Derived.WalkLawsBesides
import Derived.BigGuardPart
import Derived.BigQuiet
import Derived.Deep.QuietTactic
import Derived.Deep.Light
import Derived.Deep.RegionHeld3
namespace Go.Proofs.Ytnohkfbapibmdaa
open Go.RowKit

theorem bne_t {x y : Int} (h : (x != y) = true) : ¬ x = y := by simpa using h
theorem bne_f {x y : Int} (h : (x != y) = false) : x = y := by simpa using h
theorem ad_iff2 (a b : Ad) : (if a = b then (0 : Int) else if (if a.v6 ≠ b.v6 then !a.v6 else if a.hi ≠ b.hi then decide (a.hi < b.hi) else decide (a.lo < b.lo)) = true then -1 else 1) =
    if a.v6 = b.v6 ∧ (a.hi : Int) = b.hi ∧ (a.lo : Int) = b.lo then (0 : Int) else if (if a.v6 ≠ b.v6 then !a.v6 else if (a.hi : Int) ≠ b.hi then decide (a.hi < b.hi) else decide (a.lo < b.lo)) = true then -1 else 1 := by
  have e : (a = b) ↔ (a.v6 = b.v6 ∧ (a.hi : Int) = b.hi ∧ (a.lo : Int) = b.lo) := ⟨fun h => by subst h; simp, fun ⟨h1, h2, h3⟩ => Ad.ext' h1 (by omega) (by omega)⟩
  have e2 : ((a.hi : Int) = b.hi) ↔ a.hi = b.hi := by omega
  simp only [e, ne_eq, e2]
end Go.Proofs.Ytnohkfbapibmdaa
