/- Plain facts on heaps kept in lists, over any total order: no program in sight. No condition. -/

namespace Go.Proofs.Ytppmjbnhghaffaa.Hp

/-- a strict total order, told by a Bool function -/
structure Tot {α : Type} (lt : α → α → Bool) : Prop where
  asymm : ∀ a b, lt a b = true → lt b a = false
  trans : ∀ a b c, lt b a = false → lt c b = false → lt c a = false
  anti : ∀ a b, lt a b = false → lt b a = false → a = b

section
variable {α : Type} {lt : α → α → Bool}
theorem Tot.irrefl (T : Tot lt) (a : α) : lt a a = false := by
  cases h : lt a a
  · rfl
  · exact absurd h (by rw [T.asymm a a h]; simp)
theorem Tot.le_lt (T : Tot lt) {a b c : α} (h1 : lt b a = false) (h2 : lt b c = true) : lt a c = true := by
  cases h : lt a c
  · have := T.trans c a b h h1
    rw [h2] at this; cases this
  · rfl
theorem Tot.lt_le (T : Tot lt) {a b c : α} (h1 : lt a b = true) (h2 : lt c b = false) : lt c a = false := T.trans a b c (T.asymm a b h1) h2

def swp (h : List α) (i j : Nat) (x y : α) : List α := (h.set i y).set j x
theorem swp_len (h : List α) (i j : Nat) (x y : α) : (swp h i j x y).length = h.length := by simp [swp]
theorem swp_get (h : List α) (i j k : Nat) (x y : α) : (swp h i j x y)[k]? = if k = j then (if j < h.length then some x else none) else if k = i then (if i < h.length then some y else none) else h[k]? := by
  unfold swp
  by_cases h1 : k = j
  · subst h1; rw [if_pos rfl]; simp [List.getElem?_set]
  · rw [if_neg h1, List.getElem?_set_ne (fun e => h1 e.symm)]
    by_cases h2 : k = i
    · subst h2; rw [if_pos rfl]; simp [List.getElem?_set]
    · rw [if_neg h2, List.getElem?_set_ne (fun e => h2 e.symm)]
theorem swp_perm (h : List α) (i j : Nat) (x y : α) (hi : h[i]? = some x) (hj : h[j]? = some y) : (swp h i j x y).Perm h := by
  have hi' := (List.getElem?_eq_some_iff.1 hi)
  have hj' := (List.getElem?_eq_some_iff.1 hj)
  obtain ⟨li, ei⟩ := hi'
  obtain ⟨lj, ej⟩ := hj'
  have := Array.swap_perm (xs := h.toArray) (i := i) (j := j) (by simpa using li) (by simpa using lj)
  have h2 := Array.perm_iff_toList_perm.1 this
  rw [Array.toList_swap] at h2
  simp only at h2
  unfold swp
  subst ei; subst ej
  simpa using h2

/-! ### the whole property -/
def par (i : Nat) : Nat := (i - 1) / 2
/-- the pair of place j and the place above it is in order -/
def OkAt (lt : α → α → Bool) (h : List α) (j : Nat) : Prop := ∀ x p, h[j]? = some x → h[par j]? = some p → lt x p = false
def IsHeap (lt : α → α → Bool) (h : List α) : Prop := ∀ j, 0 < j → OkAt lt h j
def rightB (lt : α → α → Bool) (h : List α) : Bool := decide (∀ j, j < h.length → 0 < j → ∀ x ∈ h[j]?, ∀ p ∈ h[par j]?, lt x p = false)
theorem rightB_iff (h : List α) : rightB lt h = true ↔ IsHeap lt h := by
  unfold rightB IsHeap OkAt
  rw [decide_eq_true_eq]
  constructor
  · intro H j hj x p hx hp
    exact H j (List.getElem?_eq_some_iff.1 hx).1 hj x (by simpa using hx) p (by simpa using hp)
  · intro H j _ hj x hx p hp
    exact H j hj x p (by simpa using hx) (by simpa using hp)
theorem heap_head (T : Tot lt) {h : List α} (H : IsHeap lt h) {r : α} (hr : h[0]? = some r) : ∀ (j : Nat) (x : α), h[j]? = some x → lt x r = false := by
  intro j
  induction j using Nat.strongRecOn with
  | ind j ih =>
    intro x hx
    by_cases h0 : j = 0
    · subst h0; rw [hr] at hx; injection hx with e; subst e; exact T.irrefl _
    · have hl := (List.getElem?_eq_some_iff.1 hx).1
      have hpl : par j < j := by unfold par; omega
      obtain ⟨p, hp⟩ : ∃ p, h[par j]? = some p := ⟨_, List.getElem?_eq_getElem (by omega)⟩
      exact T.trans r p x (ih _ hpl p hp) (H j (by omega) x p hx hp)

/-! ### rising -/
def up (lt : α → α → Bool) (h : List α) (i : Nat) : List α :=
  if _h0 : 0 < i then
    match h[i]?, h[par i]? with
    | some x, some p => if lt x p = true then up lt (swp h i (par i) x p) (par i) else h
    | _, _ => h
  else h
termination_by i
decreasing_by unfold par; omega
theorem up_zero (h : List α) : up lt h 0 = h := by rw [up]; simp
theorem up_stop {h : List α} {i : Nat} {x p : α} (hx : h[i]? = some x) (hp : h[par i]? = some p) (hl : lt x p = false) : up lt h i = h := by
  rw [up]; split
  · simp [hx, hp, hl]
  · rfl
theorem up_go {h : List α} {i : Nat} {x p : α} (h0 : 0 < i) (hx : h[i]? = some x) (hp : h[par i]? = some p) (hl : lt x p = true) : up lt h i = up lt (swp h i (par i) x p) (par i) := by
  rw [up, dif_pos h0]; simp [hx, hp, hl]
def UpAt (lt : α → α → Bool) (h : List α) (i : Nat) : Prop := (∀ j, 0 < j → j ≠ i → OkAt lt h j) ∧ ∀ j, par j = i → 0 < i → 0 < j → ∀ x p, h[j]? = some x → h[par i]? = some p → lt x p = false
theorem up_heap (T : Tot lt) (i : Nat) : ∀ h : List α, UpAt lt h i → i < h.length → IsHeap lt (up lt h i) ∧ (up lt h i).Perm h := by
  induction i using Nat.strongRecOn with
  | ind i ih =>
    intro h H hi
    by_cases h0 : 0 < i
    · have hpl : par i < i := by unfold par; omega
      obtain ⟨x, hx⟩ : ∃ x, h[i]? = some x := ⟨_, List.getElem?_eq_getElem hi⟩
      obtain ⟨p, hp⟩ : ∃ p, h[par i]? = some p := ⟨_, List.getElem?_eq_getElem (by omega)⟩
      cases hl : lt x p
      · rw [up_stop hx hp hl]
        refine ⟨fun j hj => ?_, List.Perm.refl _⟩
        by_cases e : j = i
        · subst e; intro x' p' hx' hp'; rw [hx] at hx'; rw [hp] at hp'; injection hx' with e1; injection hp' with e2; subst e1; subst e2; exact hl
        · exact H.1 j hj e
      · rw [up_go h0 hx hp hl]
        have hlen := swp_len h i (par i) x p
        have key : UpAt lt (swp h i (par i) x p) (par i) := by
          constructor
          · intro j hj hne a b ha hb
            rw [swp_get] at ha hb
            rw [if_neg hne] at ha
            by_cases e : j = i
            · subst e
              rw [if_pos rfl, if_pos hi] at ha
              rw [if_pos rfl, if_pos (by omega)] at hb
              injection ha with ha; injection hb with hb; subst ha; subst hb
              exact T.asymm _ _ hl
            · rw [if_neg e] at ha
              by_cases e2 : par j = par i
              · rw [if_pos e2, if_pos (by omega)] at hb
                injection hb with hb; subst hb
                exact T.lt_le hl (H.1 j hj e a p ha (by rw [e2]; exact hp))
              · rw [if_neg e2] at hb
                by_cases e3 : par j = i
                · rw [if_pos e3, if_pos hi] at hb
                  injection hb with hb; subst hb
                  exact H.2 j e3 h0 hj a p ha hp
                · rw [if_neg e3] at hb
                  exact H.1 j hj e a b ha hb
          · intro j hj hp0 hj0 a b ha hb
            rw [swp_get] at ha hb
            have n1 : par (par i) ≠ par i := by unfold par at *; omega
            have n2 : par (par i) ≠ i := by unfold par at *; omega
            have n3 : j ≠ par i := by rw [← hj]; unfold par at *; omega
            rw [if_neg n1, if_neg n2] at hb
            rw [if_neg n3] at ha
            by_cases e : j = i
            · rw [if_pos e, if_pos hi] at ha
              injection ha with ha; subst ha
              exact H.1 (par i) hp0 (by omega) p b hp hb
            · rw [if_neg e] at ha
              exact T.trans b p a (H.1 (par i) hp0 (by omega) p b hp hb) (H.1 j hj0 e a p ha (by rw [hj]; exact hp))
        obtain ⟨k1, k2⟩ := ih (par i) hpl _ key (by rw [hlen]; omega)
        exact ⟨k1, k2.trans (swp_perm h i (par i) x p hx hp)⟩
    · obtain rfl : i = 0 := by omega
      rw [up_zero]
      exact ⟨fun j hj => H.1 j hj (by omega), List.Perm.refl _⟩

/-! ### sinking -/
/-- the first of a place and of one below it -/
def pick (lt : α → α → Bool) (h : List α) (b k : Nat) : Nat := match h[k]?, h[b]? with
  | some x, some y => if lt x y = true then k else b
  | _, _ => b
def best (lt : α → α → Bool) (h : List α) (i : Nat) : Nat := pick lt h (pick lt h i (2 * i + 1)) (2 * i + 2)
theorem pick_cases (h : List α) (b k : Nat) : pick lt h b k = b ∨ (pick lt h b k = k ∧ k < h.length) := by
  unfold pick
  split
  · rename_i x y hx hy
    split
    · exact Or.inr ⟨rfl, (List.getElem?_eq_some_iff.1 hx).1⟩
    · exact Or.inl rfl
  · exact Or.inl rfl
theorem best_cases (h : List α) (i : Nat) : best lt h i = i ∨ (best lt h i = 2 * i + 1 ∧ 2 * i + 1 < h.length) ∨ (best lt h i = 2 * i + 2 ∧ 2 * i + 2 < h.length) := by
  unfold best
  rcases pick_cases (lt := lt) h (pick lt h i (2 * i + 1)) (2 * i + 2) with e | e
  · rw [e]
    rcases pick_cases (lt := lt) h i (2 * i + 1) with e | e
    · exact Or.inl e
    · exact Or.inr (Or.inl e)
  · exact Or.inr (Or.inr e)
def down (lt : α → α → Bool) (h : List α) (i : Nat) : List α :=
  if _hb : best lt h i = i then h
  else match h[i]?, h[best lt h i]? with
    | some x, some y => down lt (swp h i (best lt h i) x y) (best lt h i)
    | _, _ => h
termination_by h.length - i
decreasing_by
  rw [swp_len]
  rcases best_cases (lt := lt) h i with e | e | e <;> omega
theorem down_stop {h : List α} {i : Nat} (hb : best lt h i = i) : down lt h i = h := by rw [down, dif_pos hb]
theorem down_go {h : List α} {i : Nat} {x y : α} (hb : best lt h i ≠ i) (hx : h[i]? = some x) (hy : h[best lt h i]? = some y) : down lt h i = down lt (swp h i (best lt h i) x y) (best lt h i) := by
  rw [down, dif_neg hb]; simp [hx, hy]
theorem down_len (n : Nat) : ∀ (h : List α) (i : Nat), h.length - i ≤ n → (down lt h i).length = h.length := by
  induction n with
  | zero =>
    intro h i hn
    rw [down_stop]
    rcases best_cases (lt := lt) h i with e | e | e <;> omega
  | succ n ih =>
    intro h i hn
    by_cases hb : best lt h i = i
    · rw [down_stop hb]
    · have hbl : best lt h i < h.length ∧ i < best lt h i := by rcases best_cases (lt := lt) h i with e | e | e <;> omega
      obtain ⟨x, hx⟩ : ∃ x, h[i]? = some x := ⟨_, List.getElem?_eq_getElem (by omega)⟩
      obtain ⟨y, hy⟩ : ∃ y, h[best lt h i]? = some y := ⟨_, List.getElem?_eq_getElem hbl.1⟩
      rw [down_go hb hx hy, ih _ _ (by rw [swp_len]; omega), swp_len]
/-- the best stands ahead of the place and of the two below it -/
theorem pick_le (T : Tot lt) (h : List α) (b k : Nat) {m : α} (hm : h[pick lt h b k]? = some m) : (∀ y, h[b]? = some y → lt y m = false) ∧ (∀ x, h[k]? = some x → (∃ y, h[b]? = some y) → lt x m = false) := by
  unfold pick at hm
  split at hm
  · rename_i x y hx hy
    split at hm
    · rename_i hl
      rw [hx] at hm; injection hm with e; subst e
      exact ⟨fun z hz => by rw [hy] at hz; injection hz with e; subst e; exact T.asymm _ _ hl, fun z hz _ => by rw [hx] at hz; injection hz with e; subst e; exact T.irrefl _⟩
    · rename_i hl
      rw [hy] at hm; injection hm with e; subst e
      exact ⟨fun z hz => by rw [hy] at hz; injection hz with e; subst e; exact T.irrefl _, fun z hz _ => by rw [hx] at hz; injection hz with e; subst e; simpa using hl⟩
  · rename_i hno
    refine ⟨fun y hy => by rw [hm] at hy; injection hy with e; subst e; exact T.irrefl _, fun x hx ⟨y, hy⟩ => (hno x y hx hy).elim⟩
theorem best_le (T : Tot lt) (h : List α) (i : Nat) (hi : i < h.length) {m : α} (hm : h[best lt h i]? = some m) :
    (∀ y, h[i]? = some y → lt y m = false) ∧ (∀ x, h[2 * i + 1]? = some x → lt x m = false) ∧ (∀ x, h[2 * i + 2]? = some x → lt x m = false) := by
  unfold best at hm
  have hb1 : pick lt h i (2 * i + 1) < h.length := by rcases pick_cases (lt := lt) h i (2 * i + 1) with e | e <;> omega
  obtain ⟨m1, hm1⟩ : ∃ m1, h[pick lt h i (2 * i + 1)]? = some m1 := ⟨_, List.getElem?_eq_getElem hb1⟩
  obtain ⟨a1, a2⟩ := pick_le T h _ _ hm1
  obtain ⟨b1, b2⟩ := pick_le T h _ _ hm
  have hm2 := b1 m1 hm1
  refine ⟨fun y hy => T.trans m m1 y hm2 (a1 y hy), fun x hx => T.trans m m1 x hm2 (a2 x hx ⟨_, List.getElem?_eq_getElem hi⟩), fun x hx => b2 x hx ⟨m1, hm1⟩⟩
/-- from place s on in order, but for place i and those below it -/
def DownAt (lt : α → α → Bool) (h : List α) (s i : Nat) : Prop := (∀ j, 0 < j → s ≤ par j → par j ≠ i → OkAt lt h j) ∧ ∀ j, 0 < j → par j = i → 0 < i → s ≤ par i → ∀ x p, h[j]? = some x → h[par i]? = some p → lt x p = false
theorem par_cases (j i : Nat) (h : 0 < j) (e : par j = i) : j = 2 * i + 1 ∨ j = 2 * i + 2 := by unfold par at e; omega
theorem down_heap (T : Tot lt) (s n : Nat) : ∀ (h : List α) (i : Nat), h.length - i ≤ n → s ≤ i → i < h.length → DownAt lt h s i →
    (∀ j, 0 < j → s ≤ par j → OkAt lt (down lt h i) j) ∧ (down lt h i).Perm h := by
  induction n with
  | zero => intro h i hn _ hi; omega
  | succ n ih =>
    intro h i hn hs hi H
    have hbl : best lt h i < h.length ∧ i ≤ best lt h i := by rcases best_cases (lt := lt) h i with e | e | e <;> omega
    obtain ⟨x, hx⟩ : ∃ x, h[i]? = some x := ⟨_, List.getElem?_eq_getElem hi⟩
    obtain ⟨y, hy⟩ : ∃ y, h[best lt h i]? = some y := ⟨_, List.getElem?_eq_getElem hbl.1⟩
    obtain ⟨l0, l1, l2⟩ := best_le T h i hi hy
    by_cases hb : best lt h i = i
    · rw [down_stop hb]
      rw [hb, hx] at hy; injection hy with e; subst e
      refine ⟨fun j hj hsj => ?_, List.Perm.refl _⟩
      by_cases e : par j = i
      · intro a p ha hp
        rw [e, hx] at hp; injection hp with e2; subst e2
        rcases par_cases j i hj e with e3 | e3 <;> subst e3
        · exact l1 a ha
        · exact l2 a ha
      · exact H.1 j hj hsj e
    · rw [down_go hb hx hy]
      have hib : i < best lt h i := by omega
      have hpb : par (best lt h i) = i := by unfold par; rcases best_cases (lt := lt) h i with e | e | e <;> omega
      have hb0 : 0 < best lt h i := by omega
      have hlen := swp_len h i (best lt h i) x y
      have key : DownAt lt (swp h i (best lt h i) x y) s (best lt h i) := by
        constructor
        · intro j hj hsj hne a p ha hp
          rw [swp_get] at ha hp
          rw [if_neg hne] at hp
          by_cases e : par j = i
          · rw [if_pos e, if_pos hi] at hp
            injection hp with hp; subst hp
            by_cases e2 : j = best lt h i
            · rw [if_pos e2, if_pos hbl.1] at ha
              injection ha with ha; subst ha
              exact l0 _ hx
            · have e3 : j ≠ i := by unfold par at e; omega
              rw [if_neg e2, if_neg e3] at ha
              rcases par_cases j i hj e with e4 | e4 <;> subst e4
              · exact l1 a ha
              · exact l2 a ha
          · rw [if_neg e] at hp
            by_cases e2 : j = best lt h i
            · exact absurd (by rw [e2]; exact hpb) e
            · rw [if_neg e2] at ha
              by_cases e3 : j = i
              · rw [if_pos e3, if_pos hi] at ha
                injection ha with ha; subst ha
                subst e3
                exact H.2 (best lt h j) hb0 hpb hj hsj y p hy hp
              · rw [if_neg e3] at ha
                exact H.1 j hj hsj e a p ha hp
        · intro j hj hjb _ _ a p ha hp
          rw [hpb] at hp
          rw [swp_get] at ha hp
          have n1 : i ≠ best lt h i := by omega
          have n2 : j ≠ best lt h i := by rw [← hjb]; unfold par; omega
          have n3 : j ≠ i := by have : best lt h i < j := by rw [← hjb]; unfold par; omega
                                omega
          rw [if_neg n1, if_pos rfl, if_pos hi] at hp
          rw [if_neg n2, if_neg n3] at ha
          injection hp with hp; subst hp
          exact H.1 j hj (by rw [hjb]; omega) (by rw [hjb]; omega) a y ha (by rw [hjb]; exact hy)
      obtain ⟨k1, k2⟩ := ih _ _ (by rw [hlen]; omega) (by omega) (by rw [hlen]; omega) key
      exact ⟨k1, k2.trans (swp_perm h i _ x y hx hy)⟩
theorem down_at (T : Tot lt) (h : List α) (s : Nat) (hs : s < h.length) (H : ∀ j, 0 < j → s + 1 ≤ par j → OkAt lt h j) : (∀ j, 0 < j → s ≤ par j → OkAt lt (down lt h s) j) ∧ (down lt h s).Perm h :=
  down_heap T s _ h s (Nat.le_refl _) (Nat.le_refl _) hs ⟨fun j hj h1 h2 => H j hj (by omega), fun j hj h1 h2 h3 => by unfold par at h3; omega⟩

/-! ### a heap of any items -/
def makeTo (lt : α → α → Bool) : Nat → List α → List α
  | 0, h => h
  | k + 1, h => makeTo lt k (down lt h k)
def make (lt : α → α → Bool) (l : List α) : List α := makeTo lt (l.length / 2) l
theorem makeTo_heap (T : Tot lt) (k : Nat) : ∀ h : List α, k ≤ h.length / 2 → (∀ j, 0 < j → k ≤ par j → OkAt lt h j) → IsHeap lt (makeTo lt k h) ∧ (makeTo lt k h).Perm h := by
  induction k with
  | zero => intro h _ H; exact ⟨fun j hj => H j hj (Nat.zero_le _), List.Perm.refl _⟩
  | succ k ih =>
    intro h hk H
    obtain ⟨a, b⟩ := down_at T h k (by omega) H
    obtain ⟨c, d⟩ := ih (down lt h k) (by rw [b.length_eq]; omega) a
    exact ⟨c, d.trans b⟩
theorem make_heap (T : Tot lt) (l : List α) : IsHeap lt (make lt l) ∧ (make lt l).Perm l := by
  refine makeTo_heap T _ l (Nat.le_refl _) ?_
  intro j hj h1 x p hx hp
  have := (List.getElem?_eq_some_iff.1 hx).1
  unfold par at h1; omega

/-! ### one more, one less -/
def push (lt : α → α → Bool) (h : List α) (x : α) : List α := up lt (h ++ [x]) h.length
theorem push_heap (T : Tot lt) (h : List α) (x : α) (H : IsHeap lt h) : IsHeap lt (push lt h x) ∧ (push lt h x).Perm (h ++ [x]) := by
  refine up_heap T _ _ ⟨?_, ?_⟩ (by simp)
  · intro j hj hne a p ha hp
    have h1 := (List.getElem?_eq_some_iff.1 ha).1
    simp only [List.length_append, List.length_cons, List.length_nil] at h1
    rw [List.getElem?_append_left (by omega)] at ha
    rw [List.getElem?_append_left (by unfold par; omega)] at hp
    exact H j hj a p ha hp
  · intro j hj h0 hj0 a p ha hp
    have h1 := (List.getElem?_eq_some_iff.1 ha).1
    simp only [List.length_append, List.length_cons, List.length_nil] at h1
    unfold par at hj; omega
/-- the last in the first's place, and sunk -/
def rest (lt : α → α → Bool) (h : List α) : List α := match h.getLast? with
  | none => []
  | some z => down lt ((h.set 0 z).take (h.length - 1)) 0
theorem rest_heap (T : Tot lt) (r : α) (t : List α) (H : IsHeap lt (r :: t)) : IsHeap lt (rest lt (r :: t)) ∧ (rest lt (r :: t)).Perm t := by
  unfold rest
  rw [List.getLast?_eq_some_getLast (by simp)]
  simp only
  cases t with
  | nil =>
    simp only [List.length_cons, List.length_nil, Nat.zero_add, Nat.sub_self, List.take_zero]
    rw [down_stop (by simp [best, pick])]
    exact ⟨fun j _ x p hx => by simp at hx, List.Perm.refl _⟩
  | cons b u =>
    have e : ((r :: b :: u).set 0 ((r :: b :: u).getLast (by simp))).take ((r :: b :: u).length - 1) = ((b :: u).getLast (by simp)) :: (b :: u).dropLast := by
      simp [List.dropLast_eq_take]
    rw [e]
    generalize hz : (b :: u).getLast (by simp) = z
    have hcat : (b :: u).dropLast ++ [z] = b :: u := by rw [← hz]; exact List.dropLast_concat_getLast (by simp)
    have hlen : (b :: u).dropLast.length = u.length := by simp
    obtain ⟨a1, a2⟩ := down_at T (z :: (b :: u).dropLast) 0 (by simp) (by
      intro j hj h1 x p hx hp
      have hj2 : 2 ≤ j := by unfold par at h1; omega
      have c1 : (z :: (b :: u).dropLast)[j]? = (r :: (b :: u).dropLast)[j]? := by cases j with | zero => omega | succ j => rfl
      have c2 : (z :: (b :: u).dropLast)[par j]? = (r :: (b :: u).dropLast)[par j]? := by
        cases hq : par j with
        | zero => omega
        | succ q => rfl
      rw [c1] at hx; rw [c2] at hp
      have l1 := (List.getElem?_eq_some_iff.1 hx).1
      have l2 := (List.getElem?_eq_some_iff.1 hp).1
      refine H j hj x p ?_ ?_
      · rw [← hcat, ← List.cons_append, List.getElem?_append_left l1]; exact hx
      · rw [← hcat, ← List.cons_append, List.getElem?_append_left l2]; exact hp)
    refine ⟨fun j hj => a1 j hj (Nat.zero_le _), a2.trans ?_⟩
    refine (List.perm_append_comm (l₁ := [z]) (l₂ := (b :: u).dropLast)).trans ?_
    rw [hcat]

/-! ### in order -/
def Sorted (lt : α → α → Bool) (l : List α) : Prop := l.Pairwise fun a b => lt b a = false
/-- an item laid into a list as its items stand -/
def put (lt : α → α → Bool) : List α → α → List α
  | [], x => [x]
  | y :: t, x => if lt x y = true then x :: y :: t else y :: put lt t x
theorem put_perm (l : List α) (x : α) : (put lt l x).Perm (l ++ [x]) := by
  induction l with
  | nil => exact List.Perm.refl _
  | cons y t ih =>
    unfold put; split
    · exact (List.perm_append_comm (l₁ := [x]) (l₂ := y :: t))
    · exact List.Perm.cons _ ih
theorem put_sorted (T : Tot lt) (l : List α) (x : α) (H : Sorted lt l) : Sorted lt (put lt l x) := by
  induction l with
  | nil => simp [put, Sorted]
  | cons y t ih =>
    unfold Sorted at H ih ⊢
    obtain ⟨h1, h2⟩ := List.pairwise_cons.1 H
    unfold put; split
    · rename_i hl
      refine List.pairwise_cons.2 ⟨?_, H⟩
      intro z hz
      rcases List.mem_cons.1 hz with e | e
      · subst e; exact T.asymm _ _ hl
      · exact T.lt_le hl (h1 z e)
    · rename_i hl
      refine List.pairwise_cons.2 ⟨?_, ih h2⟩
      intro z hz
      rcases List.mem_append.1 ((put_perm t x).mem_iff.1 hz) with e | e
      · exact h1 z e
      · rw [List.mem_singleton.1 e]; simpa using hl
def sort (lt : α → α → Bool) (l : List α) : List α := l.foldl (put lt) []
theorem sort_snoc (l : List α) (x : α) : sort lt (l ++ [x]) = put lt (sort lt l) x := by simp [sort]
theorem fold_perm (l : List α) : ∀ acc, (l.foldl (put lt) acc).Perm (acc ++ l) := by
  induction l with
  | nil => intro acc; simp
  | cons x t ih =>
    intro acc
    refine (ih _).trans ?_
    refine ((put_perm acc x).append_right t).trans ?_
    simp
theorem sort_perm (l : List α) : (sort lt l).Perm l := by simpa [sort] using fold_perm (lt := lt) l []
theorem fold_sorted (T : Tot lt) (l : List α) : ∀ acc, Sorted lt acc → Sorted lt (l.foldl (put lt) acc) := by
  induction l with
  | nil => intro acc h; exact h
  | cons x t ih => intro acc h; exact ih _ (put_sorted T acc x h)
theorem sort_sorted (T : Tot lt) (l : List α) : Sorted lt (sort lt l) := fold_sorted T l [] List.Pairwise.nil
theorem sorted_unique (T : Tot lt) (a : List α) : ∀ b, Sorted lt a → Sorted lt b → a.Perm b → a = b := by
  induction a with
  | nil => intro b _ _ h; exact (List.nil_perm.1 h).symm ▸ rfl
  | cons x t ih =>
    intro b ha hb h
    cases b with
    | nil => exact absurd h (by simp)
    | cons y u =>
      obtain ⟨a1, a2⟩ := List.pairwise_cons.1 ha
      obtain ⟨b1, b2⟩ := List.pairwise_cons.1 hb
      have hx : lt x y = false := by
        rcases List.mem_cons.1 (h.mem_iff.1 (List.mem_cons_self)) with e | e
        · subst e; exact T.irrefl _
        · exact b1 x e
      have hy : lt y x = false := by
        rcases List.mem_cons.1 (h.mem_iff.2 (List.mem_cons_self)) with e | e
        · subst e; exact T.irrefl _
        · exact a1 y e
      have e := T.anti x y hx hy
      subst e
      rw [ih u a2 b2 (List.Perm.cons_inv h)]
/-- the first of a sorted list is a heap's first -/
theorem heap_first (T : Tot lt) {h q : List α} {r y : α} {t : List α} (H : IsHeap lt h) (hr : h[0]? = some r) (hq : q = y :: t) (S : Sorted lt q) (P : h.Perm q) : r = y := by
  subst hq
  have h1 := (List.pairwise_cons.1 S).1
  have hmem : r ∈ h := List.mem_of_getElem? hr
  have a : lt r y = false := by
    rcases List.mem_cons.1 (P.mem_iff.1 hmem) with e | e
    · subst e; exact T.irrefl _
    · exact h1 r e
  have b : lt y r = false := by
    obtain ⟨j, hj⟩ := List.mem_iff_getElem?.1 (P.mem_iff.2 (List.mem_cons_self (a := y) (l := t)))
    exact heap_head T H hr j y hj
  exact T.anti r y a b
/-- all items popped, one by one -/
def drain (lt : α → α → Bool) : Nat → List α → List α
  | 0, _ => []
  | n + 1, h => match h with
    | [] => []
    | r :: t => r :: drain lt n (rest lt (r :: t))
theorem drain_sorted (T : Tot lt) (n : Nat) : ∀ h : List α, h.length ≤ n → IsHeap lt h → Sorted lt (drain lt n h) ∧ (drain lt n h).Perm h := by
  induction n with
  | zero => intro h hn _; obtain rfl : h = [] := List.eq_nil_of_length_eq_zero (by omega); exact ⟨List.Pairwise.nil, List.Perm.refl _⟩
  | succ n ih =>
    intro h hn H
    cases h with
    | nil => exact ⟨List.Pairwise.nil, List.Perm.refl _⟩
    | cons r t =>
      obtain ⟨a, b⟩ := rest_heap T r t H
      obtain ⟨c, d⟩ := ih (rest lt (r :: t)) (by rw [b.length_eq]; simpa using hn) a
      refine ⟨List.pairwise_cons.2 ⟨?_, c⟩, List.Perm.cons r (d.trans b)⟩
      intro z hz
      have hz2 : z ∈ r :: t := List.mem_cons_of_mem _ ((d.trans b).mem_iff.1 hz)
      obtain ⟨j, hj⟩ := List.mem_iff_getElem?.1 hz2
      exact heap_head T H rfl j z hj
/-- items taken out of a heap stand as they are laid in one by one -/
theorem heapsort_eq (T : Tot lt) (l : List α) (n : Nat) (h : List α) (hn : h.length ≤ n) (H : IsHeap lt h) (P : h.Perm l) : drain lt n h = sort lt l := by
  obtain ⟨a, b⟩ := drain_sorted T n h hn H
  exact sorted_unique T _ _ a (sort_sorted T l) ((b.trans P).trans (sort_perm l).symm)

/-! ### the reference's look at a heap: each place against those below it -/
def rightDown (lt : α → α → Bool) (h : List α) : Bool := decide (∀ i, i < h.length → ∀ k, k < h.length → (k = 2 * i + 1 ∨ k = 2 * i + 2) → ∀ x ∈ h[k]?, ∀ p ∈ h[i]?, lt x p = false)
theorem rightDown_eq (h : List α) : rightDown lt h = rightB lt h := by
  rw [Bool.eq_iff_iff, rightB_iff]
  unfold rightDown IsHeap OkAt
  rw [decide_eq_true_eq]
  constructor
  · intro H j hj x p hx hp
    have l1 := (List.getElem?_eq_some_iff.1 hx).1
    have l2 := (List.getElem?_eq_some_iff.1 hp).1
    exact H (par j) l2 j l1 (par_cases j _ hj rfl) x (by simpa using hx) p (by simpa using hp)
  · intro H i hi k hk hik x hx p hp
    have e : par k = i := by unfold par; omega
    exact H k (by omega) x p (by simpa using hx) (by rw [e]; simpa using hp)
end
end Go.Proofs.Ytppmjbnhghaffaa.Hp
