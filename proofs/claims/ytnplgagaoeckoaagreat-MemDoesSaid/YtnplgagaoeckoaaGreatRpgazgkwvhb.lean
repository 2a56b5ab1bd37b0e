/- Texts put together: Eq. No condition. -/
import Derived.Test.YtnplgagaoeckoaaGreatRhswffbbxtu
import Derived.Test.YtnplgagaoeckoaaGreatRows
import Derived.WalkKit
import Derived.WalkSpells
import Derived.WalkLawsBesides
import Derived.Deep.Light
set_option linter.unusedSimpArgs false
set_option linter.unusedVariables false
namespace Go.Proofs.YtnplgagaoeckoaaGreat
open Go.RowKit
theorem adIff (a b : Ad) : a = b ↔ a.v6 = b.v6 ∧ (a.hi : Int) = b.hi ∧ (a.lo : Int) = b.lo := ⟨fun h => by subst h; exact ⟨rfl, rfl, rfl⟩, fun ⟨h1, h2, h3⟩ => Ad.ext' h1 (by omega) (by omega)⟩
theorem eqlAd (a b : Ad) (W : World) : (binOp .eql 46 (.agg #[.bool a.v6, .int .u64 a.hi, .int .u64 a.lo]) (.agg #[.bool b.v6, .int .u64 b.hi, .int .u64 b.lo])).run Tryz.prog W = .ok (.bool (decide (a = b))) W := by
 go_simp
 by_cases h : a = b
 ·have e := (adIff a b).1 h
  simp [e, h]
 ·have e := fun e => h ((adIff a b).2 e)
  simp only [h]
  repeat' split
  all_goals simp_all
end Go.Proofs.YtnplgagaoeckoaaGreat
