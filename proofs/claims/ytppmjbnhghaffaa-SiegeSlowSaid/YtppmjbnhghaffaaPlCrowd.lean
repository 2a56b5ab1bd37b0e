/- Who goes of a crowd, plain: the youngest of the greatest. Conditions: ends unlike, where it is said. -/
import Derived.Test.YtppmjbnhghaffaaQc03ddbqvbrkb
import Derived.Test.YtppmjbnhghaffaaQ668131zdrcan
import Derived.Test.YtppmjbnhghaffaaQ3d1c45ppqqkp
namespace Go.Proofs.Ytppmjbnhghaffaa

theorem wo_ofP {α : Type} {c : α → α → Int} (C : Cmp c) : WO fun a b => decide (0 < c a b) := by
  constructor
  · intro a b d h1 h2
    have h1 : 0 < c a b := by simpa using h1
    have h2 : 0 < c b d := by simpa using h2
    have := C.le_eq (a := d) (b := b) (d := a) (by rw [C.neg b d]; omega) (by rw [C.neg a b]; omega)
    exact decide_eq_true (by rw [C.neg d a]; omega)
  · intro a b d h1 h2
    have h1 : ¬ 0 < c a b := by simpa using h1
    have h2 : ¬ 0 < c b d := by simpa using h2
    have := C.trans a b d (by omega) (by omega)
    exact decide_eq_false (by omega)
  · intro a b h1
    have h1 : 0 < c a b := by simpa using h1
    exact decide_eq_false (by rw [C.neg a b]; omega)
def yoI (a b : Pe) : Int := orI [cmpI a.since b.since, enCmp a.en b.en]
theorem cmp_yo : Cmp yoI := by
  have h := cmp_then (cmp_on cmp_int Pe.since) (cmp_on cmp_en Pe.en)
  have e : yoI = _ := funext fun a => funext fun b => orI_two (cmpI a.since b.since) (enCmp a.en b.en)
  rw [e]; exact h
theorem yo_zero {a b : Pe} (h : yoI a b = 0) : a.en = b.en := by
  unfold yoI at h; rw [orI_two] at h
  split at h
  · exact enCmp_zero h
  · contradiction
theorem orI_nest (x y : Int) (r : List Int) : orI [x, orI (y :: r)] = orI (x :: y :: r) := by
  rw [orI_two]; simp only [orI]
section
variable {γ : Type} [DecidableEq γ] (gr : Pe → γ)
def cwN (l : List Pe) (g : γ) : Nat := (l.filter fun p => decide (gr p = g)).length
def wkI (l : List Pe) (a b : Pe) : Int := orI [cmpI (cwN gr l (gr a) : Nat) (cwN gr l (gr b) : Nat), yoI a b]
theorem cmp_wk (l : List Pe) : Cmp (wkI gr l) := by
  have h := cmp_then (cmp_on cmp_int (fun a : Pe => (cwN gr l (gr a) : Int))) cmp_yo
  have e : wkI gr l = _ := funext fun a => funext fun b => orI_two (cmpI (cwN gr l (gr a) : Nat) (cwN gr l (gr b) : Nat)) (yoI a b)
  rw [e]; exact h
def wkGt (l : List Pe) (a b : Pe) : Bool := decide (0 < wkI gr l a b)
theorem wo_wk (l : List Pe) : WO (wkGt gr l) := wo_ofP (cmp_wk gr l)
/-- what the document's program asks of one -/
def wkGood (l : List Pe) (a b : Pe) : Bool := decide (cwN gr l (gr b) ≤ cwN gr l (gr a)) && (decide (cwN gr l (gr b) < cwN gr l (gr a)) || !decide (0 < yoI b a))
theorem wkGood_is (l : List Pe) (a b : Pe) : wkGood gr l a b = !wkGt gr l b a := by
  unfold wkGood wkGt wkI
  rw [orI_two]
  rcases Nat.lt_trichotomy (cwN gr l (gr b)) (cwN gr l (gr a)) with h | h | h
  · have : cmpI (cwN gr l (gr b) : Nat) (cwN gr l (gr a) : Nat) < 0 := (cmp_lt_iff _ _).2 (by omega)
    rw [decide_eq_true (Nat.le_of_lt h), decide_eq_true h, if_neg (by omega), decide_eq_false (show ¬ 0 < cmpI (cwN gr l (gr b) : Nat) (cwN gr l (gr a) : Nat) by omega)]; rfl
  · rw [h]
    rw [decide_eq_true (Nat.le_refl _), decide_eq_false (Nat.lt_irrefl _), cmpI_self, if_pos rfl]; rfl
  · have : 0 < cmpI (cwN gr l (gr b) : Nat) (cwN gr l (gr a) : Nat) := (cmp_gt_iff _ _).2 (by omega)
    rw [decide_eq_false (show ¬ cwN gr l (gr b) ≤ cwN gr l (gr a) by omega), if_neg (by omega), decide_eq_true this]; rfl
theorem cwN_perm {l m : List Pe} (h : l.Perm m) (g : γ) : cwN gr l g = cwN gr m g := (h.filter _).length_eq
theorem wkI_perm {l m : List Pe} (h : l.Perm m) (a b : Pe) : wkI gr l a b = wkI gr m a b := by
  unfold wkI; rw [cwN_perm gr h, cwN_perm gr h]
end
theorem range_split {m : Nat} {A B : List Nat} {x : Nat} (h : List.range m = A ++ x :: B) : A = List.range x ∧ x < m ∧ ∀ k, k < m → k ∈ A ∨ k = x ∨ k ∈ B := by
  have hl := congrArg List.length h
  rw [List.length_range, List.length_append, List.length_cons] at hl
  have hx : A.length = x := by
    have h1 : (List.range m)[A.length]? = some A.length := List.getElem?_range (by omega)
    rw [h, List.getElem?_append_right (Nat.le_refl _), Nat.sub_self] at h1
    simpa using h1.symm
  refine ⟨?_, by omega, fun k hk => ?_⟩
  · apply List.ext_getElem?
    intro i
    by_cases hi : i < A.length
    · have h1 : (List.range m)[i]? = some i := List.getElem?_range (by omega)
      rw [h, List.getElem?_append_left hi] at h1
      rw [h1, List.getElem?_range (by omega)]
    · rw [List.getElem?_eq_none (by omega), List.getElem?_eq_none (by simp; omega)]
  · have h1 : k ∈ List.range m := List.mem_range.2 hk
    rw [h] at h1
    rcases List.mem_append.1 h1 with h1 | h1
    · exact Or.inl h1
    · rcases List.mem_cons.1 h1 with h1 | h1
      · exact Or.inr (Or.inl h1)
      · exact Or.inr (Or.inr h1)
/-- the first of the greatest -/
theorem pick_best {lt : Nat → Nat → Bool} (hw : WO lt) {m x : Nat} (h : pickL lt (List.range m) = some x) : x < m ∧ (∀ k, k < m → lt k x = false) ∧ ∀ i, i < x → lt x i = true := by
  obtain ⟨A, B, h1, h2, h3⟩ := pickL_some hw (List.range m).reverse (x := x) (by rw [List.reverse_reverse]; exact h)
  rw [List.reverse_reverse] at h1
  obtain ⟨hA, hx, hk⟩ := range_split h1
  refine ⟨hx, fun k hkm => ?_, fun i hi => h2 i (by rw [hA]; exact List.mem_range.2 hi)⟩
  rcases hk k hkm with q | q | q
  · exact hw.as (h2 k q)
  · subst q
    cases e : lt k k with
    | false => rfl
    | true => have := hw.as e; rw [e] at this; cases this
  · exact h3 k q
theorem pick_none {lt : Nat → Nat → Bool} {m : Nat} (h : pickL lt (List.range m) = none) : m = 0 := by
  have := congrArg List.length (pickL_nil h)
  simpa using this
section
variable {γ : Type} [DecidableEq γ] (gr : Pe → γ)
/-- of peers with unlike ends the greatest is one -/
theorem best_one {l : List Pe} (hu : l.Pairwise fun a b => a.en ≠ b.en) {p q : Pe} (hp : p ∈ l) (hq : q ∈ l) (h1 : ∀ r ∈ l, wkGt gr l r p = false) (h2 : ∀ r ∈ l, wkGt gr l r q = false) : p = q := by
  have e1 : ¬ 0 < wkI gr l q p := of_decide_eq_false (h1 q hq)
  have e2 : ¬ 0 < wkI gr l p q := of_decide_eq_false (h2 p hp)
  rw [(cmp_wk gr l).neg p q] at e1
  have e : wkI gr l p q = 0 := by omega
  have he : p.en = q.en := by
    unfold wkI at e; rw [orI_two] at e
    split at e
    · exact yo_zero e
    · contradiction
  obtain ⟨i, hi, rfl⟩ := List.getElem_of_mem hp
  obtain ⟨j, hj, rfl⟩ := List.getElem_of_mem hq
  rcases Nat.lt_trichotomy i j with c | c | c
  · exact absurd he (List.pairwise_iff_getElem.1 hu i j hi hj c)
  · subst c; rfl
  · exact absurd he.symm (List.pairwise_iff_getElem.1 hu j i hj hi c)
end
end Go.Proofs.Ytppmjbnhghaffaa
