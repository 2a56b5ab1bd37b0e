/- Texts put together: PlOrd. No condition. -/
import Derived.Test.YtnohkfbapibmdaaRpgeuglklpq
namespace Go.Proofs.Ytnohkfbapibmdaa
open Go.RowKit

structure Ad where
  v6 : Bool
  hi : Nat
  lo : Nat
structure En where
  ad : Ad
  port : Int
theorem Ad.ext' {a b : Ad} (h1 : a.v6 = b.v6) (h2 : a.hi = b.hi) (h3 : a.lo = b.lo) : a = b := by cases a; cases b; simp_all
theorem En.ext' {a b : En} (h1 : a.ad = b.ad) (h2 : a.port = b.port) : a = b := by cases a; cases b; simp_all
instance : DecidableEq Ad := fun a b => decidable_of_iff (a.v6 = b.v6 ∧ a.hi = b.hi ∧ a.lo = b.lo) ⟨fun ⟨h1, h2, h3⟩ => Ad.ext' h1 h2 h3, fun h => by subst h; exact ⟨rfl, rfl, rfl⟩⟩
instance : DecidableEq En := fun a b => decidable_of_iff (a.ad = b.ad ∧ a.port = b.port) ⟨fun ⟨h1, h2⟩ => En.ext' h1 h2, fun h => by subst h; exact ⟨rfl, rfl⟩⟩
instance : Inhabited Ad := ⟨⟨false, 0, 0⟩⟩
instance : Inhabited En := ⟨⟨default, 0⟩⟩
/-! ### a comparison: of what reads as a total order -/
structure Cmp {α : Type} (c : α → α → Int) : Prop where
  neg : ∀ a b, c b a = -c a b
  trans : ∀ a b d, c a b ≤ 0 → c b d ≤ 0 → c a d ≤ 0
end Go.Proofs.Ytnohkfbapibmdaa
