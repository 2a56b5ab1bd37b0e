/- Texts put together: PlTable. No condition. -/
import Derived.Test.YtppmjbnhghaffaaRmcavooviyn
import Derived.Test.YtppmjbnhghaffaaRhjbbgjhkvr
namespace Go.Proofs.Ytppmjbnhghaffaa

section
variable {α : Type} {lt : α → α → Bool}
/-- rising, none twice -/
def Strict (lt : α → α → Bool) (l : List α) : Prop := l.Pairwise fun x y => lt x y = true
theorem strict_sput (h : WO lt) (x : α) : ∀ {l : List α}, Strict lt l → (∀ y ∈ l, lt x y = true ∨ lt y x = true) → Strict lt (sput lt x l)
  | [], _, _ => List.pairwise_singleton _ _
  | y :: r, hl, hd => by
    have h1 := List.pairwise_cons.1 hl
    unfold sput
    cases hxy : lt x y with
    | true =>
      rw [if_pos rfl]
      refine List.pairwise_cons.2 ⟨fun z hz => ?_, hl⟩
      rcases List.mem_cons.1 hz with rfl | hz
      · exact hxy
      · exact h.tr hxy (h1.1 z hz)
    | false =>
      rw [if_neg (by simp)]
      refine List.pairwise_cons.2 ⟨fun z hz => ?_, strict_sput h x h1.2 fun z hz => hd z (List.mem_cons_of_mem _ hz)⟩
      rcases sput_mem.1 hz with rfl | hz
      · rcases hd y (List.mem_cons_self ..) with e | e
        · rw [hxy] at e; cases e
        · exact e
      · exact h1.1 z hz
theorem ssortT_mem {l : List α} {y : α} : y ∈ ssort lt l ↔ y ∈ l := by
  rw [← List.reverse_reverse l]
  induction l.reverse with
  | nil => simp [ssort]
  | cons x r ih => rw [List.reverse_cons, ssort_snoc, sput_mem, ih]; simp [or_comm]
theorem strict_ssort (h : WO lt) : ∀ {l : List α}, l.Pairwise (fun x y => lt x y = true ∨ lt y x = true) → Strict lt (ssort lt l) := by
  intro l
  rw [← List.reverse_reverse l]
  induction l.reverse with
  | nil => intro _; exact List.Pairwise.nil
  | cons x r ih =>
    intro hp
    rw [List.reverse_cons] at hp ⊢
    rw [List.pairwise_append] at hp
    rw [ssort_snoc]
    refine strict_sput h x (ih hp.1) fun y hy => ?_
    rcases hp.2.2 y (ssortT_mem.1 hy) x (by simp) with e | e
    · exact Or.inr e
    · exact Or.inl e
theorem WO.ir (h : WO lt) (a : α) : lt a a = false := by
  cases e : lt a a with
  | false => rfl
  | true => have := h.asy e; rw [e] at this; cases this
/-- two that rise and hold the same are one -/
theorem strictT_eq (h : WO lt) : ∀ {A B : List α}, Strict lt A → Strict lt B → (∀ z, z ∈ A ↔ z ∈ B) → A = B
  | [], [], _, _, _ => rfl
  | [], y :: r, _, _, hm => by have := (hm y).2 (by simp); simp at this
  | x :: r, [], _, _, hm => by have := (hm x).1 (by simp); simp at this
  | x :: r, y :: s, hA, hB, hm => by
    have h1 := List.pairwise_cons.1 hA
    have h2 := List.pairwise_cons.1 hB
    have hxy : x = y := by
      rcases List.mem_cons.1 ((hm x).1 (by simp)) with e | e
      · exact e
      · rcases List.mem_cons.1 ((hm y).2 (by simp)) with e' | e'
        · exact e'.symm
        · have a := h1.1 y e'; have b := h2.1 x e
          rw [h.asy a] at b; cases b
    subst hxy
    congr 1
    refine strictT_eq h h1.2 h2.2 fun z => ⟨fun hz => ?_, fun hz => ?_⟩
    · rcases List.mem_cons.1 ((hm z).1 (List.mem_cons_of_mem _ hz)) with e | e
      · subst e; have := h1.1 z hz; rw [h.ir] at this; cases this
      · exact e
    · rcases List.mem_cons.1 ((hm z).2 (List.mem_cons_of_mem _ hz)) with e | e
      · subst e; have := h2.1 z hz; rw [h.ir] at this; cases this
      · exact e
end
instance (a : List Pe) (x : Pe) : Decidable (∀ y ∈ a, y.en ≠ x.en) := inferInstance
def ltEn (a b : Pe) : Bool := decide (enCmp a.en b.en < 0)
theorem ltEn_or {a b : Pe} (h : a.en ≠ b.en) : ltEn a b = true ∨ ltEn b a = true := by
  have e := cmp_en.neg a.en b.en
  by_cases h0 : enCmp a.en b.en = 0
  · exact absurd (enCmp_zero h0) h
  · unfold ltEn
    by_cases h1 : enCmp a.en b.en < 0
    · exact Or.inl (decide_eq_true h1)
    · exact Or.inr (decide_eq_true (by omega))
end Go.Proofs.Ytppmjbnhghaffaa
