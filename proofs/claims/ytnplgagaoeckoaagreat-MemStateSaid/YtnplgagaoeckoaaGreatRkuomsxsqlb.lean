/- Texts put together: Eq. No condition. -/
import Derived.Test.YtnplgagaoeckoaaGreatRfwnkgoffnn
import Derived.Test.YtnplgagaoeckoaaGreatRows
import Derived.WalkKit
import Derived.WalkSpells
import Derived.WalkLawsBesides
import Derived.Deep.Light
namespace Go.Proofs.YtnplgagaoeckoaaGreat
open Go.RowKit
theorem adIff (a b : Ad) : a = b ↔ a.v6 = b.v6 ∧ (a.hi : Int) = b.hi ∧ (a.lo : Int) = b.lo := ⟨fun h => by subst h; exact ⟨rfl, rfl, rfl⟩, fun ⟨h1, h2, h3⟩ => Ad.ext' h1 (by omega) (by omega)⟩
theorem enIff (a b : En) : a = b ↔ a.ad.v6 = b.ad.v6 ∧ (a.ad.hi : Int) = b.ad.hi ∧ (a.ad.lo : Int) = b.ad.lo ∧ a.port = b.port := ⟨fun h => by subst h; exact ⟨rfl, rfl, rfl, rfl⟩, fun ⟨h1, h2, h3, h4⟩ => En.ext' (Ad.ext' h1 (by omega) (by omega)) h4⟩
theorem eqlAd (a b : Ad) (W : World) : (binOp .eql 46 (.agg #[.bool a.v6, .int .u64 a.hi, .int .u64 a.lo]) (.agg #[.bool b.v6, .int .u64 b.hi, .int .u64 b.lo])).run Tryz.prog W = .ok (.bool (decide (a = b))) W := by
  go_simp
  by_cases h : a = b
  · have e := (adIff a b).1 h
    simp [e, h]
  · have e := fun e => h ((adIff a b).2 e)
    simp only [h]
    repeat' split
    all_goals simp_all
theorem eqlEn (a b : En) (W : World) : (binOp .eql 48 (.agg #[.bool a.ad.v6, .int .u64 a.ad.hi, .int .u64 a.ad.lo, .int .i64 a.port]) (.agg #[.bool b.ad.v6, .int .u64 b.ad.hi, .int .u64 b.ad.lo, .int .i64 b.port])).run Tryz.prog W = .ok (.bool (decide (a = b))) W := by
  go_simp
  by_cases h : a = b
  · have e := (enIff a b).1 h
    simp [e, h]
  · have e := fun e => h ((enIff a b).2 e)
    simp only [h]
    repeat' split
    all_goals simp_all
end Go.Proofs.YtnplgagaoeckoaaGreat
