/- Texts put together: PlTable. No condition. -/
import Derived.Test.YtppmjbnhghaffaaRryvnffptad
import Derived.Test.YtppmjbnhghaffaaRvqupnkulsf
namespace Go.Proofs.Ytppmjbnhghaffaa

section
variable {α : Type} {lt : α → α → Bool}
/-- rising, none twice -/
def Strict (lt : α → α → Bool) (l : List α) : Prop := l.Pairwise fun x y => lt x y = true
theorem strict_sput (h : WO lt) (x : α) : ∀ {l : List α}, Strict lt l → (∀ y ∈ l, lt x y = true ∨ lt y x = true) → Strict lt (sput lt x l)
  | [], _, _ => List.pairwise_singleton _ _
  | y :: r, hl, hd => by
    have h1 := List.pairwise_cons.1 hl
    unfold sput
    cases hxy : lt x y with
    | true =>
      rw [if_pos rfl]
      refine List.pairwise_cons.2 ⟨fun z hz => ?_, hl⟩
      rcases List.mem_cons.1 hz with rfl | hz
      · exact hxy
      · exact h.tr hxy (h1.1 z hz)
    | false =>
      rw [if_neg (by simp)]
      refine List.pairwise_cons.2 ⟨fun z hz => ?_, strict_sput h x h1.2 fun z hz => hd z (List.mem_cons_of_mem _ hz)⟩
      rcases sput_mem.1 hz with rfl | hz
      · rcases hd y (List.mem_cons_self ..) with e | e
        · rw [hxy] at e; cases e
        · exact e
      · exact h1.1 z hz
theorem ssortT_mem {l : List α} {y : α} : y ∈ ssort lt l ↔ y ∈ l := by
  rw [← List.reverse_reverse l]
  induction l.reverse with
  | nil => simp [ssort]
  | cons x r ih => rw [List.reverse_cons, ssort_snoc, sput_mem, ih]; simp [or_comm]
theorem strict_ssort (h : WO lt) : ∀ {l : List α}, l.Pairwise (fun x y => lt x y = true ∨ lt y x = true) → Strict lt (ssort lt l) := by
  intro l
  rw [← List.reverse_reverse l]
  induction l.reverse with
  | nil => intro _; exact List.Pairwise.nil
  | cons x r ih =>
    intro hp
    rw [List.reverse_cons] at hp ⊢
    rw [List.pairwise_append] at hp
    rw [ssort_snoc]
    refine strict_sput h x (ih hp.1) fun y hy => ?_
    rcases hp.2.2 y (ssortT_mem.1 hy) x (by simp) with e | e
    · exact Or.inr e
    · exact Or.inl e
theorem WO.ir (h : WO lt) (a : α) : lt a a = false := by
  cases e : lt a a with
  | false => rfl
  | true => have := h.asy e; rw [e] at this; cases this
/-- two that rise and hold the same are one -/
theorem strictT_eq (h : WO lt) : ∀ {A B : List α}, Strict lt A → Strict lt B → (∀ z, z ∈ A ↔ z ∈ B) → A = B
  | [], [], _, _, _ => rfl
  | [], y :: r, _, _, hm => by have := (hm y).2 (by simp); simp at this
  | x :: r, [], _, _, hm => by have := (hm x).1 (by simp); simp at this
  | x :: r, y :: s, hA, hB, hm => by
    have h1 := List.pairwise_cons.1 hA
    have h2 := List.pairwise_cons.1 hB
    have hxy : x = y := by
      rcases List.mem_cons.1 ((hm x).1 (by simp)) with e | e
      · exact e
      · rcases List.mem_cons.1 ((hm y).2 (by simp)) with e' | e'
        · exact e'.symm
        · have a := h1.1 y e'; have b := h2.1 x e
          rw [h.asy a] at b; cases b
    subst hxy
    congr 1
    refine strictT_eq h h1.2 h2.2 fun z => ⟨fun hz => ?_, fun hz => ?_⟩
    · rcases List.mem_cons.1 ((hm z).1 (List.mem_cons_of_mem _ hz)) with e | e
      · subst e; have := h1.1 z hz; rw [h.ir] at this; cases this
      · exact e
    · rcases List.mem_cons.1 ((hm z).2 (List.mem_cons_of_mem _ hz)) with e | e
      · subst e; have := h2.1 z hz; rw [h.ir] at this; cases this
      · exact e
end
/-- each end once, of those that may be -/
def oneT (a : List Pe) (x : Pe) : List Pe := if peRight x = true ∧ ∀ y ∈ a, y.en ≠ x.en then a ++ [x] else a
instance (a : List Pe) (x : Pe) : Decidable (∀ y ∈ a, y.en ≠ x.en) := inferInstance
def onesT (l : List Pe) : List Pe := l.foldl oneT []
theorem onesT_snoc (l : List Pe) (x : Pe) : onesT (l ++ [x]) = oneT (onesT l) x := by simp [onesT]
/-- what a right table holds, each end once -/
def Ones (l : List Pe) : Prop := (∀ x ∈ l, peRight x = true) ∧ l.Pairwise fun x y => x.en ≠ y.en
theorem onesT_ones (l : List Pe) : Ones (onesT l) ∧ (onesT l).length ≤ l.length ∧ ∀ x ∈ onesT l, x ∈ l := by
  rw [← List.reverse_reverse l]
  induction l.reverse with
  | nil => exact ⟨⟨fun x hx => by simp [onesT] at hx, List.Pairwise.nil⟩, Nat.le_refl _, fun x hx => by simp [onesT] at hx⟩
  | cons x r ih =>
    obtain ⟨⟨i1, i2⟩, i3, i4⟩ := ih
    rw [List.reverse_cons, onesT_snoc]
    unfold oneT
    by_cases hc : peRight x = true ∧ ∀ y ∈ onesT r.reverse, y.en ≠ x.en
    · rw [if_pos hc]
      refine ⟨⟨fun y hy => ?_, List.pairwise_append.2 ⟨i2, List.pairwise_singleton _ _, fun a ha b hb => ?_⟩⟩, by simpa using i3, fun y hy => ?_⟩
      · rcases List.mem_append.1 hy with hy | hy
        · exact i1 y hy
        · rw [List.mem_singleton.1 hy]; exact hc.1
      · rw [List.mem_singleton.1 hb]; exact hc.2 a ha
      · rcases List.mem_append.1 hy with hy | hy
        · exact List.mem_append_left _ (i4 y hy)
        · exact List.mem_append_right _ hy
    · rw [if_neg hc]
      exact ⟨⟨i1, i2⟩, by simp at i3 ⊢; omega, fun y hy => List.mem_append_left _ (i4 y hy)⟩
theorem ones_turn {l : List Pe} (h : Ones l) (k : Nat) : Ones (l.drop k ++ l.take k) := by
  refine ⟨fun x hx => ?_, ?_⟩
  · rcases List.mem_append.1 hx with hx | hx
    · exact h.1 x (List.mem_of_mem_drop hx)
    · exact h.1 x (List.mem_of_mem_take hx)
  · have h2 := h.2
    rw [← List.take_append_drop k l, List.pairwise_append] at h2
    exact List.pairwise_append.2 ⟨h2.2.1, h2.1, fun a ha b hb e => h2.2.2 b hb a ha e.symm⟩
theorem turn_mem (l : List Pe) (k : Nat) (x : Pe) : x ∈ l.drop k ++ l.take k ↔ x ∈ l := by
  constructor
  · intro hx
    rcases List.mem_append.1 hx with hx | hx
    · exact List.mem_of_mem_drop hx
    · exact List.mem_of_mem_take hx
  · intro hx
    rw [← List.take_append_drop k l] at hx
    rcases List.mem_append.1 hx with hx | hx
    · exact List.mem_append_right _ hx
    · exact List.mem_append_left _ hx
def ltEn (a b : Pe) : Bool := decide (enCmp a.en b.en < 0)
theorem ltEn_or {a b : Pe} (h : a.en ≠ b.en) : ltEn a b = true ∨ ltEn b a = true := by
  have e := cmp_en.neg a.en b.en
  by_cases h0 : enCmp a.en b.en = 0
  · exact absurd (enCmp_zero h0) h
  · unfold ltEn
    by_cases h1 : enCmp a.en b.en < 0
    · exact Or.inl (decide_eq_true h1)
    · exact Or.inr (decide_eq_true (by omega))
theorem ones_strict (wo : WO ltEn) {l : List Pe} (h : Ones l) : Strict ltEn (ssort ltEn l) := strict_ssort wo (h.2.imp fun e => ltEn_or e)
/-- WHATEVER ORDER THEY COME IN -/
theorem ones_same (wo : WO ltEn) {l : List Pe} (h : Ones l) (k : Nat) : ssort ltEn (l.drop k ++ l.take k) = ssort ltEn l :=
  strictT_eq wo (ones_strict wo (ones_turn h k)) (ones_strict wo h) fun z => by rw [ssortT_mem, ssortT_mem, turn_mem]
theorem ones_take {l : List Pe} (h : Ones l) (k : Nat) : Ones (l.take k) :=
  ⟨fun x hx => h.1 x (List.mem_of_mem_take hx), h.2.sublist (List.take_sublist k l)⟩
theorem ones_next {l : List Pe} (h : Ones l) {k : Nat} {x : Pe} (hx : l[k]? = some x) : ∀ y ∈ ssort ltEn (l.take k), y.en ≠ x.en := by
  intro y hy
  have h2 := (ones_take h (k + 1)).2
  rw [List.take_add_one, hx, Option.toList_some, List.pairwise_append] at h2
  exact h2.2.2 y (ssortT_mem.1 hy) x (by simp)
end Go.Proofs.Ytppmjbnhghaffaa
