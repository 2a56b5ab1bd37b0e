/- Texts put together: PlGood. No condition. -/
import Derived.Test.YtppmjbnhghaffaaRmcflsokogo
namespace Go.Proofs.Ytppmjbnhghaffaa

/-- what a right table is -/
def GoodT (l : List Pe) : Prop := ∀ (i : Nat) (x : Pe), l[i]? = some x → peRight x = true ∧ ∀ (j : Nat) (y : Pe), j < i → l[j]? = some y → enCmp y.en x.en < 0
theorem goodT_next {l : List Pe} (h : ∀ (i : Nat) (x : Pe), l[i]? = some x → peRight x = true ∧ ∀ (j : Nat) (y : Pe), j + 1 = i → l[j]? = some y → enCmp y.en x.en < 0) : GoodT l := by
  intro i
  induction i with
  | zero => exact fun x hx => ⟨(h 0 x hx).1, fun j y hj => by omega⟩
  | succ i ih =>
    intro x hx
    refine ⟨(h _ x hx).1, fun j y hj hy => ?_⟩
    obtain ⟨z, hz⟩ : ∃ z, l[i]? = some z := ⟨_, List.getElem?_eq_getElem (by have := (List.getElem?_eq_some_iff.1 hx).1; omega)⟩
    have h1 := (h _ x hx).2 i z rfl hz
    rcases Nat.lt_or_ge j i with hlt | hge
    · exact cmp_en.le_eq ((ih z hz).2 j y hlt hy) (by omega)
    · obtain rfl : j = i := by omega
      rw [hz] at hy; injection hy with hy; subst hy; exact h1
theorem goodT_iff (l : List Pe) : GoodT l ↔ (∀ x ∈ l, peRight x = true) ∧ l.Pairwise fun a b => enCmp a.en b.en < 0 := by
  constructor
  · intro h
    refine ⟨fun x hx => ?_, ?_⟩
    · obtain ⟨i, hi⟩ := List.mem_iff_getElem?.1 hx
      exact (h i x hi).1
    · rw [List.pairwise_iff_getElem]
      intro i j hi hj hij
      exact (h j _ (List.getElem?_eq_getElem hj)).2 i _ hij (List.getElem?_eq_getElem hi)
  · intro ⟨h1, h2⟩ i x hx
    rw [List.pairwise_iff_getElem] at h2
    obtain ⟨hi, rfl⟩ := List.getElem?_eq_some_iff.1 hx
    refine ⟨h1 _ (List.getElem_mem _), fun j y hj hy => ?_⟩
    obtain ⟨hj', rfl⟩ := List.getElem?_eq_some_iff.1 hy
    exact h2 j i hj' hi hj
end Go.Proofs.Ytppmjbnhghaffaa
