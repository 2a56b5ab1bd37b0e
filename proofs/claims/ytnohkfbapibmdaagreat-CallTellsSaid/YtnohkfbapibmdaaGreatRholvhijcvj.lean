/- Texts put together: Reach. No condition. -/
import Derived.Test.YtnohkfbapibmdaaGreatRnrrfsqzmoj
import Derived.Test.YtnohkfbapibmdaaGreatRtcfsoujgbz
namespace Go.Proofs.YtnohkfbapibmdaaGreat
open Go.RowKit

def Reach (w : World) (B : Nat) (T : TypeId) (f : List Value → List Value) (t : List Value) : Prop := ∃ arr, BlockIs w B arr T ∧ f arr = t
theorem Reach.get {w : World} {B : Nat} {T : TypeId} {t : List Value} (h : Reach w B T (fun a => a) t) : BlockIs w B t T := by
  obtain ⟨a, h1, rfl⟩ := h; exact h1
theorem reach_at {w : World} {B : Nat} {T : TypeId} {f : List Value → List Value} {t arr : List Value} (h : BlockIs w B arr T) (e : f arr = t) : Reach w B T f t := ⟨arr, h, e⟩
theorem reach_set {w : World} {B i : Nat} {v : Value} {T : TypeId} {f : List Value → List Value} {t : List Value} (h : Reach w B T (fun a => f (a.set i v)) t) : Reach (w.setCell ⟨B, i, none⟩ v) B T f t := by
  obtain ⟨a, h1, h2⟩ := h; exact ⟨_, h1.set i v, h2⟩
theorem reach_other {w : World} {B O i : Nat} {v : Value} {T : TypeId} {f : List Value → List Value} {t : List Value} (hne : O ≠ B) (h : Reach w B T f t) : Reach (w.setCell ⟨O, i, none⟩ v) B T f t := by
  obtain ⟨a, h1, h2⟩ := h; exact ⟨_, h1.other hne v, h2⟩
theorem reach_alloc {w : World} {B : Nat} {o : Obj} {T : TypeId} {f : List Value → List Value} {t : List Value} (h : Reach w B T f t) : Reach (w.alloc o) B T f t := by
  obtain ⟨a, h1, h2⟩ := h; exact ⟨_, h1.alloc' o, h2⟩
theorem reach_drew {w : World} {B : Nat} {T : TypeId} {f : List Value → List Value} {t : List Value} (h : Reach w B T f t) : Reach w.drew B T f t := by
  obtain ⟨a, h1, h2⟩ := h; exact ⟨_, h1.drew', h2⟩
end Go.Proofs.YtnohkfbapibmdaaGreat
