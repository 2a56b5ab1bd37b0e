/- Texts put together: TabQ. No condition. -/
import Derived.Test.YtppmjbnhghaffaaRkznvkzmaje
import Derived.Test.YtppmjbnhghaffaaRpbvyimgckm
namespace Go.Proofs.Ytppmjbnhghaffaa
open Go.RowKit Go.Lib
set_option linter.unusedSimpArgs false
set_option linter.unusedVariables false

theorem rgtT_good (l : List Pe) : rgtT l = true ↔ GoodT l := by
  constructor
  · intro h
    unfold rgtT at h
    rw [List.all_eq_true] at h
    refine goodT_next fun i x hx => ?_
    have hs := h i (List.mem_range.2 (List.getElem?_eq_some_iff.1 hx).1)
    unfold stepR at hs
    rw [hx] at hs
    cases i with
    | zero => exact ⟨by simpa using hs, fun j y hj => by omega⟩
    | succ i =>
      simp only [Bool.and_eq_true] at hs
      refine ⟨hs.1, fun j y hj hy => ?_⟩
      obtain rfl : j = i := by omega
      have := hs.2
      rw [hy] at this
      exact of_decide_eq_true this
  · intro h
    refine rgtT_yes fun k hk => ?_
    obtain ⟨x, hx⟩ : ∃ x, l[k]? = some x := ⟨_, List.getElem?_eq_getElem hk⟩
    unfold stepR
    rw [hx]
    cases k with
    | zero => simp [(h 0 x hx).1]
    | succ k =>
      obtain ⟨y, hy⟩ : ∃ y, l[k]? = some y := ⟨_, List.getElem?_eq_getElem (by omega)⟩
      simp only [hy, (h _ x hx).1, Bool.true_and]
      exact decide_eq_true ((h _ x hx).2 k y (by omega) hy)
end Go.Proofs.Ytppmjbnhghaffaa
