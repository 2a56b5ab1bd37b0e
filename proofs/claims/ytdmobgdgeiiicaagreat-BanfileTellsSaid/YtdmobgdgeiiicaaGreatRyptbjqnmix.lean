/- Texts put together: OpenW. No condition. -/
import Derived.Test.YtdmobgdgeiiicaaGreatRzwlyefaotn
namespace Go.Proofs.YtdmobgdgeiiicaaGreat
open Go.ChangeShapes Go.WideShapes Go.ChangeAt Go.RowKit Go.Deep

/-- what reads at type t is laid out as f lays out a datum, whose slices are told by the world -/
def OpensW {α : Type} (P : Program) (t : TypeId) (f : α → List Value) (good : World → α → Prop) : Prop :=
  ∀ (H : Type) (enc : TypeId × Value → H) (w : World) (fuel : Nat) (cs : List Value) (x : DataW H × List MemPlace), DataW.trod enc P w 0 (fun _ => true) true fuel t cs = some x → ∃ d, good w d ∧ cs = f d
theorem Opens.w {α : Type} {P : Program} {t : TypeId} {f : α → List Value} {good : α → Prop} (O : Opens P t f good) : OpensW P t f (fun _ => good) :=
  fun H enc w fuel cs x h => O H enc w _ _ _ _ _ _ h
theorem OpensW.map {P : Program} {t : TypeId} {α β : Type} {f : α → List Value} {g : β → List Value} {good : World → α → Prop} {good' : World → β → Prop} (O : OpensW P t f good) (h : ∀ w d, good w d → ∃ d', good' w d' ∧ f d = g d') : OpensW P t g good' := by
  intro H enc w fuel cs x hx
  obtain ⟨d, h1, h2⟩ := O H enc w _ _ _ hx
  obtain ⟨d', h3, h4⟩ := h w d h1
  exact ⟨d', h3, by rw [h2, h4]⟩
section
variable {H : Type} {enc : TypeId × Value → H} {P : Program} {W : World}
end
end Go.Proofs.YtdmobgdgeiiicaaGreat
