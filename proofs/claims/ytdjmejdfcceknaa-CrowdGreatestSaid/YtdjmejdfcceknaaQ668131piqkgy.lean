/- Texts put together: PlSort, PlTurn, PlRank, PlShield, PlEvict. No condition. -/
import Derived.Sort.Defs
/- The stable sort, plain: its steps on an array, and what they come to. No condition. -/
namespace Go.Proofs.Ytdjmejdfcceknaa
open Go.Sort

section
variable {α : Type}
/-- one more, ahead of the first that it stands ahead of -/
def sput (lt : α → α → Bool) (x : α) : List α → List α
  | [] => [x]
  | y :: r => if lt x y then x :: y :: r else y :: sput lt x r
/-- as they stand: one by one -/
def ssort (lt : α → α → Bool) (l : List α) : List α := l.foldl (fun o x => sput lt x o) []
def smrg (lt : α → α → Bool) : List α → List α → List α
  | [], B => B
  | A, [] => A
  | x :: A, y :: B => if lt y x then y :: smrg lt (x :: A) B else x :: smrg lt A (y :: B)
termination_by A B => A.length + B.length
/-- a weak order -/
structure WO (lt : α → α → Bool) : Prop where
  tr : ∀ {a b c}, lt a b = true → lt b c = true → lt a c = true
  nt : ∀ {a b c}, lt a b = false → lt b c = false → lt a c = false
  as : ∀ {a b}, lt a b = true → lt b a = false
def Rising (lt : α → α → Bool) (l : List α) : Prop := l.Pairwise (fun x y => lt y x = false)
variable {lt : α → α → Bool}
theorem smrg_nil (A : List α) : smrg lt A [] = A := by cases A <;> simp [smrg]
theorem smrg_nil' (B : List α) : smrg lt [] B = B := by simp [smrg]
theorem smrg_cons (x y : α) (A B : List α) : smrg lt (x :: A) (y :: B) = if lt y x then y :: smrg lt (x :: A) B else x :: smrg lt A (y :: B) := by rw [smrg]
theorem sput_mem {x y : α} {l : List α} : y ∈ sput lt x l ↔ y = x ∨ y ∈ l := by
  induction l with
  | nil => simp [sput]
  | cons z r ih =>
    unfold sput; split
    · simp
    · simp [ih]; constructor
      · rintro (h | h | h) <;> simp [h]
      · rintro (h | h | h) <;> simp [h]
theorem sput_len (x : α) (l : List α) : (sput lt x l).length = l.length + 1 := by
  induction l with
  | nil => rfl
  | cons z r ih => unfold sput; split <;> simp [ih]
theorem WO.lt_of (h : WO lt) {a b c : α} (h1 : lt a b = true) (h2 : lt c b = false) : lt a c = true := by
  cases h3 : lt a c with
  | true => rfl
  | false => have := h.nt h3 h2; rw [h1] at this; cases this
theorem WO.lt_of' (h : WO lt) {a b c : α} (h1 : lt a b = true) (h2 : lt a c = false) : lt c b = true := by
  cases h3 : lt c b with
  | true => rfl
  | false => have := h.nt h2 h3; rw [h1] at this; cases this
theorem rising_sput (h : WO lt) (x : α) {l : List α} (hl : Rising lt l) : Rising lt (sput lt x l) := by
  induction l with
  | nil => simp [sput, Rising]
  | cons y r ih =>
    have h1 := List.pairwise_cons.1 hl
    unfold sput; split
    next hxy =>
      refine List.pairwise_cons.2 ⟨fun z hz => ?_, hl⟩
      rcases List.mem_cons.1 hz with rfl | hz
      · exact h.as hxy
      · exact h.as (h.lt_of hxy (h1.1 z hz))
    next hxy =>
      refine List.pairwise_cons.2 ⟨fun z hz => ?_, ih h1.2⟩
      rcases sput_mem.1 hz with rfl | hz
      · simpa using hxy
      · exact h1.1 z hz
theorem ssort_snoc (l : List α) (x : α) : ssort lt (l ++ [x]) = sput lt x (ssort lt l) := by simp [ssort]
theorem rising_ssort (h : WO lt) (l : List α) : Rising lt (ssort lt l) := by
  rw [← List.reverse_reverse l]
  induction l.reverse with
  | nil => exact List.Pairwise.nil
  | cons x r ih => rw [List.reverse_cons, ssort_snoc]; exact rising_sput h x ih
theorem ssort_len (l : List α) : (ssort lt l).length = l.length := by
  rw [← List.reverse_reverse l]
  induction l.reverse with
  | nil => rfl
  | cons x r ih => rw [List.reverse_cons, ssort_snoc, sput_len, ih]; simp
theorem sput_smrg (h : WO lt) (y : α) : ∀ (n : Nat) (A B : List α), A.length + B.length ≤ n → sput lt y (smrg lt A B) = smrg lt A (sput lt y B)
  | n, [], B, _ => by simp [smrg_nil']
  | 0, a :: A, B, hn => by simp at hn
  | n + 1, a :: A, [], hn => by
    have ih := fun A B => sput_smrg h y n A B
    rw [smrg_nil]
    show _ = smrg lt (a :: A) [y]
    rw [smrg_cons, smrg_nil]
    unfold sput; split
    · rfl
    · have := ih A [] (by simp at hn ⊢; omega)
      rw [smrg_nil] at this; rw [this]; rfl
  | n + 1, a :: A, b :: B, hn => by
    have ih := fun A B => sput_smrg h y n A B
    simp only [List.length_cons] at hn
    rw [smrg_cons]
    by_cases hba : lt b a = true
    · rw [if_pos hba]
      show _ = smrg lt (a :: A) (if lt y b then y :: b :: B else b :: sput lt y B)
      by_cases hyb : lt y b = true
      · rw [if_pos hyb, smrg_cons, if_pos (h.tr hyb hba), smrg_cons, if_pos hba, sput, if_pos hyb]
      · rw [if_neg hyb, smrg_cons, if_pos hba, sput, if_neg hyb, ih _ _ (by simp; omega)]
    · rw [if_neg hba]
      have hba' : lt b a = false := by simpa using hba
      by_cases hyb : lt y b = true
      · have e1 : sput lt y (b :: B) = y :: b :: B := by rw [sput, if_pos hyb]
        have e2 := ih A (b :: B) (by simp; omega)
        rw [e1] at e2 ⊢
        rw [smrg_cons, sput, e2, smrg_cons, if_neg hba]
      · have hya : lt y a = false := h.nt (by simpa using hyb) hba'
        have e1 : sput lt y (b :: B) = b :: sput lt y B := by rw [sput, if_neg hyb]
        have e2 := ih A (b :: B) (by simp; omega)
        rw [e1] at e2 ⊢
        rw [smrg_cons, if_neg hba, sput, if_neg (by simp [hya]), e2]
theorem ssort_append (h : WO lt) (A B : List α) : ssort lt (A ++ B) = smrg lt (ssort lt A) (ssort lt B) := by
  rw [← List.reverse_reverse B]
  induction B.reverse with
  | nil => simp [smrg_nil, ssort]
  | cons x r ih =>
    rw [List.reverse_cons, ← List.append_assoc, ssort_snoc, ssort_snoc, ih, sput_smrg h x _ _ _ (Nat.le_refl _)]
theorem smrg_len : ∀ (n : Nat) (A B : List α), A.length + B.length ≤ n → (smrg lt A B).length = A.length + B.length
  | n, [], B, _ => by simp [smrg_nil']
  | n, a :: A, [], _ => by simp [smrg_nil]
  | 0, a :: A, b :: B, hn => by simp at hn
  | n + 1, a :: A, b :: B, hn => by
    have ih := fun A B => smrg_len n A B
    simp only [List.length_cons] at hn
    rw [smrg_cons]; split
    · rw [List.length_cons, ih _ _ (by simp; omega)]; simp; omega
    · rw [List.length_cons, ih _ _ (by simp; omega)]; simp; omega
theorem smrg_mem {z : α} : ∀ (n : Nat) (A B : List α), A.length + B.length ≤ n → (z ∈ smrg lt A B ↔ z ∈ A ∨ z ∈ B)
  | n, [], B, _ => by simp [smrg_nil']
  | n, a :: A, [], _ => by simp [smrg_nil]
  | 0, a :: A, b :: B, hn => by simp at hn
  | n + 1, a :: A, b :: B, hn => by
    have ih := fun A B => smrg_mem (z := z) n A B
    simp only [List.length_cons] at hn
    rw [smrg_cons]; split
    · rw [List.mem_cons, ih _ _ (by simp; omega)]; simp only [List.mem_cons]; constructor
      · rintro (h | (h | h) | h) <;> simp [h]
      · rintro ((h | h) | (h | h)) <;> simp [h]
    · rw [List.mem_cons, ih _ _ (by simp; omega)]; simp only [List.mem_cons]; constructor
      · rintro (h | h | h | h) <;> simp [h]
      · rintro ((h | h) | (h | h)) <;> simp [h]
/-- a merge in two parts -/
theorem smrg_split : ∀ (n : Nat) (A1 A2 B1 B2 : List α), A1.length + B1.length ≤ n → (∀ x ∈ A1, ∀ y ∈ B2, lt y x = false) → (∀ x ∈ A2, ∀ y ∈ B1, lt y x = true) → smrg lt (A1 ++ A2) (B1 ++ B2) = smrg lt A1 B1 ++ smrg lt A2 B2
  | n, [], A2, [], B2, _, _, _ => by simp [smrg_nil]
  | n, [], [], b :: B1, B2, hn, h1, h2 => by simp [smrg_nil']
  | 0, [], x :: A2, b :: B1, B2, hn, h1, h2 => by simp at hn
  | 0, a :: A1, A2, B1, B2, hn, h1, h2 => by simp at hn
  | n + 1, [], x :: A2, b :: B1, B2, hn, h1, h2 => by
    have ih := smrg_split n [] (x :: A2) B1 B2 (by simp at hn ⊢; omega) (by simp) (fun x hx y hy => h2 x hx y (by simp [hy]))
    simp only [List.nil_append, smrg_nil'] at ih
    simp only [List.nil_append, List.cons_append, smrg_nil']
    rw [smrg_cons, if_pos (h2 x (by simp) b (by simp)), ih]
  | n + 1, a :: A1, A2, [], [], hn, h1, h2 => by simp [smrg_nil]
  | n + 1, a :: A1, A2, [], y :: B2, hn, h1, h2 => by
    have ih := smrg_split n A1 A2 [] (y :: B2) (by simp at hn ⊢; omega) (fun x hx y hy => h1 x (by simp [hx]) y hy) (by simp)
    simp only [List.nil_append, smrg_nil] at ih
    simp only [List.nil_append, List.cons_append, smrg_nil]
    rw [smrg_cons, if_neg (by simp [h1 a (by simp) y (by simp)]), ih]
  | n + 1, a :: A1, A2, b :: B1, B2, hn, h1, h2 => by
    have ih := fun A1 B1 => smrg_split n A1 A2 B1 B2
    simp only [List.length_cons] at hn
    simp only [List.cons_append]
    rw [smrg_cons, smrg_cons]
    split
    · have := ih (a :: A1) B1 (by simp; omega) h1 (fun x hx y hy => h2 x hx y (by simp [hy]))
      simp only [List.cons_append] at this
      rw [this]; rfl
    · have := ih A1 (b :: B1) (by simp; omega) (fun x hx y hy => h1 x (by simp [hx]) y hy) h2
      simp only [List.cons_append] at this
      rw [this]; rfl
end

section
variable {α : Type} [Inhabited α]
/-! ### the steps on an array -/
def swpR (a b : Nat) : Nat → Nat → Array α → Array α
  | 0, _, d => d
  | n + 1, i, d => swpR a b n (i + 1) (swp d (a + i) (b + i))
def rotA (m : Nat) : Nat → Nat → Nat → Array α → Array α
  | 0, _, _, d => d
  | f + 1, i, j, d => if i = j then swpR (m - i) m i 0 d else if j < i then rotA m f (i - j) j (swpR (m - i) m j 0 d) else rotA m f i (j - i) (swpR (m - i) (m + j - i) i 0 d)
/-- the first place at which p does not hold -/
def bsr (p : Nat → Bool) : Nat → Nat → Nat → Nat
  | 0, i, _ => i
  | f + 1, i, j => if i < j then (if p ((i + j) / 2) then bsr p f ((i + j) / 2 + 1) j else bsr p f i ((i + j) / 2)) else i
def upA : Nat → Nat → Array α → Array α
  | 0, _, d => d
  | n + 1, k, d => upA n (k + 1) (swp d k (k + 1))
def downA : Nat → Nat → Array α → Array α
  | 0, _, d => d
  | n + 1, k, d => downA n (k - 1) (swp d k (k - 1))
variable (lt : α → α → Bool)
def symS0 (a m b : Nat) : Nat := if (a + b) / 2 < m then (a + b) / 2 + m - b else a
def symR0 (a m b : Nat) : Nat := if (a + b) / 2 < m then (a + b) / 2 else m
def symSt (d : Array α) (a m b : Nat) : Nat := bsr (fun c => !lt d[(a + b) / 2 + m - 1 - c]! d[c]!) (b - a) (symS0 a m b) (symR0 a m b)
def symM : Nat → Nat → Nat → Nat → Array α → Array α
  | 0, _, _, _, d => d
  | f + 1, a, m, b, d =>
    if m - a = 1 then upA (bsr (fun h => lt d[h]! d[a]!) (b - a) m b - 1 - a) a d
    else if b - m = 1 then downA (m - bsr (fun h => !lt d[m]! d[h]!) (b - a) a m) m d
    else
      let s := symSt lt d a m b
      let e := (a + b) / 2 + m - s
      let d1 := if s < m ∧ m < e then rotA m (e - s) (m - s) (e - m) d else d
      let d2 := if a < s ∧ s < (a + b) / 2 then symM f a s ((a + b) / 2) d1 else d1
      if (a + b) / 2 < e ∧ e < b then symM f ((a + b) / 2) e b d2 else d2
def insB (n : Nat) : Nat → Nat → Array α → Array α
  | 0, _, d => d
  | f + 1, a, d => if a + 20 ≤ n then insB n f (a + 20) (insertionSort lt d a (a + 20)) else insertionSort lt d a n
def mrgB (n k : Nat) : Nat → Nat → Array α → Array α
  | 0, _, d => d
  | f + 1, a, d => if a + 2 * k ≤ n then mrgB n k f (a + 2 * k) (symM lt (2 * k) a (a + k) (a + 2 * k) d) else if a + k < n then symM lt (2 * k) a (a + k) n d else d
def passA (n : Nat) : Nat → Nat → Array α → Array α
  | 0, _, d => d
  | f + 1, k, d => if k < n then passA n f (2 * k) (mrgB lt n k (n + 1) 0 d) else d
def stableA (d : Array α) : Array α := passA lt d.size (d.size + 1) 20 (insB lt d.size (d.size + 1) 0 d)
end
end Go.Proofs.Ytdjmejdfcceknaa
/- A list turned stands as it stood, if no two are alike; and a place in the order is how many stand ahead. No condition. -/
namespace Go.Proofs.Ytdjmejdfcceknaa

section
variable {α : Type} {lt : α → α → Bool}
theorem smrg_comm (hw : WO lt) : ∀ (n : Nat) (A B : List α), A.length + B.length ≤ n → (∀ x ∈ A, ∀ y ∈ B, lt x y = true ∨ lt y x = true) → smrg lt A B = smrg lt B A
  | n, [], B, _, _ => by rw [smrg_nil, smrg_nil']
  | n, a :: A, [], _, _ => by rw [smrg_nil, smrg_nil']
  | 0, a :: A, b :: B, hn, _ => by simp at hn
  | n + 1, a :: A, b :: B, hn, h => by
    simp only [List.length_cons] at hn
    rw [smrg_cons, smrg_cons]
    by_cases h1 : lt b a = true
    · rw [if_pos h1, if_neg (by rw [hw.as h1]; decide), smrg_comm hw n (a :: A) B (by simp; omega) (fun x hx y hy => h x hx y (by simp [hy]))]
    · have h2 : lt a b = true := (h a (by simp) b (by simp)).resolve_right h1
      rw [if_neg h1, if_pos h2, smrg_comm hw n A (b :: B) (by simp; omega) (fun x hx y hy => h x (by simp [hx]) y hy)]
theorem ssort_mem {z : α} (L : List α) : z ∈ ssort lt L ↔ z ∈ L := by
  rw [← List.reverse_reverse L]
  induction L.reverse with
  | nil => simp [ssort]
  | cons y r ih => rw [List.reverse_cons, ssort_snoc, sput_mem, ih]; simp [or_comm]
theorem ssort_comm (hw : WO lt) (A B : List α) (h : ∀ x ∈ A, ∀ y ∈ B, lt x y = true ∨ lt y x = true) : ssort lt (A ++ B) = ssort lt (B ++ A) := by
  rw [ssort_append hw, ssort_append hw, smrg_comm hw _ _ _ (Nat.le_refl _) (fun x hx y hy => h x ((ssort_mem A).1 hx) y ((ssort_mem B).1 hy))]
theorem sput_strict (hw : WO lt) (x : α) : ∀ {U : List α}, U.Pairwise (fun a b => lt a b = true) → (∀ y ∈ U, lt x y = true ∨ lt y x = true) → (sput lt x U).Pairwise (fun a b => lt a b = true)
  | [], _, _ => by simp [sput]
  | y :: r, hU, h => by
    have h1 := List.pairwise_cons.1 hU
    unfold sput; split
    next hxy =>
      refine List.pairwise_cons.2 ⟨fun z hz => ?_, hU⟩
      rcases List.mem_cons.1 hz with rfl | hz
      · exact hxy
      · exact hw.tr hxy (h1.1 z hz)
    next hxy =>
      have hyx : lt y x = true := (h y (by simp)).resolve_left hxy
      refine List.pairwise_cons.2 ⟨fun z hz => ?_, sput_strict hw x h1.2 (fun z hz => h z (by simp [hz]))⟩
      rcases sput_mem.1 hz with rfl | hz
      · exact hyx
      · exact h1.1 z hz
theorem ssort_strict (hw : WO lt) : ∀ (R : List α), R.reverse.Pairwise (fun a b => lt a b = true ∨ lt b a = true) → (ssort lt R.reverse).Pairwise (fun a b => lt a b = true)
  | [], _ => by simp [ssort]
  | x :: R, h => by
    rw [List.reverse_cons] at h ⊢
    have h1 := List.pairwise_append.1 h
    rw [ssort_snoc]
    refine sput_strict hw x (ssort_strict hw R h1.1) (fun y hy => ?_)
    have := h1.2.2 y ((ssort_mem _).1 hy) x (by simp)
    exact this.symm
theorem ssort_strict' (hw : WO lt) (L : List α) (h : L.Pairwise (fun a b => lt a b = true ∨ lt b a = true)) : (ssort lt L).Pairwise (fun a b => lt a b = true) := by
  have := ssort_strict hw L.reverse (by rw [List.reverse_reverse]; exact h)
  rwa [List.reverse_reverse] at this
/-- a place in the order: how many stand ahead -/
theorem strict_pos (hw : WO lt) {S : List α} (hS : S.Pairwise (fun a b => lt a b = true)) {j : Nat} {x : α} (h : S[j]? = some x) : (S.filter fun y => lt y x).length = j := by
  have hj := (List.getElem?_eq_some_iff.1 h).1
  have e : S = S.take j ++ x :: S.drop (j + 1) := by
    conv => lhs; rw [← List.take_append_drop j S]
    rw [List.drop_eq_getElem_cons hj]
    have := (List.getElem?_eq_some_iff.1 h).2
    rw [this]
  have hp := hS
  rw [e] at hp
  have h1 := List.pairwise_append.1 hp
  have h2 := List.pairwise_cons.1 h1.2.1
  have hx : lt x x = false := by
    cases q : lt x x with
    | false => rfl
    | true => have := hw.as q; rw [q] at this; cases this
  rw [e, List.filter_append, List.filter_cons, List.filter_eq_self.2 (fun a ha => h1.2.2 a ha x (by simp)), List.filter_eq_nil_iff.2 (fun a ha => by rw [hw.as (h2.1 a ha)]; decide)]
  simp only [hx]
  simp
  omega
theorem ssort_perm (L : List α) : (ssort lt L).Perm L := by
  rw [← List.reverse_reverse L]
  induction L.reverse with
  | nil => simp [ssort]
  | cons y r ih =>
    rw [List.reverse_cons, ssort_snoc]
    have hp : ∀ U : List α, (sput lt y U).Perm (y :: U) := by
      intro U
      induction U with
      | nil => exact List.Perm.refl _
      | cons z U ihU =>
        unfold sput; split
        · exact List.Perm.refl _
        · exact (List.Perm.cons z ihU).trans (List.Perm.swap y z U)
    exact (hp _).trans ((List.Perm.cons y ih).trans (List.perm_append_comm (l₁ := [y]) (l₂ := r.reverse)))
/-- who is among the first n: whose place, how many stand ahead, is below n -/
theorem first_iff (hw : WO lt) {L : List α} (h : L.Pairwise (fun a b => lt a b = true ∨ lt b a = true)) (n : Nat) {x : α} (hx : x ∈ L) : x ∈ (ssort lt L).take n ↔ (L.filter fun y => lt y x).length < n := by
  have hS := ssort_strict' hw L h
  have hc : (L.filter fun y => lt y x).length = ((ssort lt L).filter fun y => lt y x).length := ((ssort_perm L).filter _).length_eq.symm
  rw [hc]
  constructor
  · intro hm
    obtain ⟨j, hj, e⟩ := List.getElem_of_mem hm
    rw [List.length_take] at hj
    have : (ssort lt L)[j]? = some x := by
      rw [List.getElem_take] at e
      rw [List.getElem?_eq_getElem (by omega), e]
    rw [strict_pos hw hS this]; omega
  · intro hlt
    obtain ⟨j, hj, e⟩ := List.getElem_of_mem ((ssort_mem (lt := lt) L).2 hx)
    have : (ssort lt L)[j]? = some x := by rw [List.getElem?_eq_getElem hj, e]
    rw [strict_pos hw hS this] at hlt
    rw [List.mem_iff_getElem?]
    exact ⟨j, by rw [List.getElem?_take, if_pos hlt]; exact this⟩
end
end Go.Proofs.Ytdjmejdfcceknaa
/- Picking the first again and again comes to the stable order. No condition. -/
namespace Go.Proofs.Ytdjmejdfcceknaa

def pickStep (lt : Nat → Nat → Bool) (a : Option Nat) (i : Nat) : Option Nat := match a with
  | none => some i
  | some j => if lt i j then some i else some j
def pickL (lt : Nat → Nat → Bool) (L : List Nat) : Option Nat := L.foldl (pickStep lt) none
theorem pickL_snoc (lt : Nat → Nat → Bool) (L : List Nat) (i : Nat) : pickL lt (L ++ [i]) = pickStep lt (pickL lt L) i := by simp [pickL]
theorem pickL_nil {lt : Nat → Nat → Bool} {L : List Nat} (h : pickL lt L = none) : L = [] := by
  rw [← List.reverse_reverse L] at h ⊢
  cases hr : L.reverse with
  | nil => rfl
  | cons x r =>
    rw [hr, List.reverse_cons, pickL_snoc] at h
    unfold pickStep at h
    split at h
    · cases h
    · split at h <;> cases h
theorem pickL_some {lt : Nat → Nat → Bool} (hw : WO lt) : ∀ (R : List Nat) {x : Nat}, pickL lt R.reverse = some x → ∃ A B, R.reverse = A ++ x :: B ∧ (∀ a ∈ A, lt x a = true) ∧ (∀ b ∈ B, lt b x = false)
  | [], x, h => by cases h
  | i :: R, x, h => by
    rw [List.reverse_cons, pickL_snoc] at h
    rw [List.reverse_cons]
    cases hp : pickL lt R.reverse with
    | none =>
      have e := pickL_nil hp
      rw [hp] at h
      injection h with h; subst h
      exact ⟨[], [], by rw [e], by simp, by simp⟩
    | some j =>
      obtain ⟨A, B, h1, h2, h3⟩ := pickL_some hw R hp
      rw [hp] at h
      unfold pickStep at h
      by_cases hl : lt i j = true
      · simp only [hl, if_true] at h
        injection h with h; subst h
        refine ⟨R.reverse, [], rfl, fun a ha => ?_, by simp⟩
        rw [h1] at ha
        rcases List.mem_append.1 ha with ha | ha
        · exact hw.tr hl (h2 a ha)
        · rcases List.mem_cons.1 ha with rfl | ha
          · exact hl
          · exact hw.lt_of hl (h3 a ha)
      · have hl' : lt i j = false := by simpa using hl
        simp only [hl'] at h
        simp only [Bool.false_eq_true, if_false] at h
        injection h with h; subst h
        refine ⟨A, B ++ [i], by rw [h1]; simp, h2, fun b hb => ?_⟩
        rcases List.mem_append.1 hb with hb | hb
        · exact h3 b hb
        · rw [List.mem_singleton.1 hb]; exact hl'
theorem ssort_pick {lt : Nat → Nat → Bool} (hw : WO lt) {A B : List Nat} {x : Nat} (h1 : ∀ a ∈ A, lt x a = true) (h2 : ∀ b ∈ B, lt b x = false) : ssort lt (A ++ x :: B) = x :: ssort lt (A ++ B) := by
  have mem : ∀ (L : List Nat) z, z ∈ ssort lt L ↔ z ∈ L := by
    intro L z
    rw [← List.reverse_reverse L]
    induction L.reverse with
    | nil => simp [ssort]
    | cons y r ih => rw [List.reverse_cons, ssort_snoc, sput_mem, ih]; simp [or_comm]
  have e1 : ssort lt (A ++ [x]) = x :: ssort lt A := by
    rw [ssort_snoc]
    cases h : ssort lt A with
    | nil => rfl
    | cons y r => rw [sput, if_pos (h1 y ((mem A y).1 (by rw [h]; simp)))]
  rw [show A ++ x :: B = (A ++ [x]) ++ B by simp, ssort_append hw, e1, ssort_append hw]
  cases h : ssort lt B with
  | nil => rw [smrg_nil, smrg_nil]
  | cons y r => rw [smrg_cons, if_neg (by simp [h2 y ((mem B y).1 (by rw [h]; simp))])]
/-- the ones that are left -/
def leftOf (idx O : List Nat) : List Nat := idx.filter fun i => decide (i ∉ O)
theorem left_pick {lt : Nat → Nat → Bool} (hw : WO lt) {idx O : List Nat} (hn : idx.Nodup) {x : Nat} (h : pickL lt (leftOf idx O) = some x) (hs : ssort lt idx = O ++ ssort lt (leftOf idx O)) :
    x ∈ idx ∧ x ∉ O ∧ ssort lt idx = (O ++ [x]) ++ ssort lt (leftOf idx (O ++ [x])) := by
  obtain ⟨A, B, h1, h2, h3⟩ := pickL_some hw (leftOf idx O).reverse (x := x) (by rw [List.reverse_reverse]; exact h)
  rw [List.reverse_reverse] at h1
  have hx : x ∈ leftOf idx O := by rw [h1]; simp
  have hx' := List.mem_filter.1 hx
  have hnd : (leftOf idx O).Nodup := hn.filter _
  have e : leftOf idx (O ++ [x]) = A ++ B := by
    have e1 : leftOf idx (O ++ [x]) = (leftOf idx O).filter fun i => decide (i ≠ x) := by
      unfold leftOf
      rw [List.filter_filter]
      congr 1
      funext i
      simp [Bool.and_comm, not_or]
    rw [e1, h1, List.filter_append, List.filter_cons]
    rw [h1] at hnd
    have h4 := List.nodup_append.1 hnd
    have hA : A.filter (fun i => decide (i ≠ x)) = A := List.filter_eq_self.2 fun a ha => by
      have := h4.2.2 a ha x (by simp)
      simpa using this
    have hB : B.filter (fun i => decide (i ≠ x)) = B := List.filter_eq_self.2 fun b hb => by
      have := (List.nodup_cons.1 h4.2.1).1
      simp only [decide_eq_true_eq]
      intro e; subst e; exact this hb
    rw [hA, hB]; simp
  refine ⟨hx'.1, by simpa using hx'.2, ?_⟩
  rw [hs, h1, ssort_pick hw h2 h3, e]; simp
end Go.Proofs.Ytdjmejdfcceknaa
/- Who is protected, plain: one by one the first of those that are left. No condition. -/
namespace Go.Proofs.Ytdjmejdfcceknaa

def atF (big : Nat) (A : List Nat) (k : Nat) : Nat := A[k]?.getD big
theorem atF_at {big : Nat} {A : List Nat} {k i : Nat} (h : A[k]? = some i) : atF big A k = i := by unfold atF; rw [h]; rfl
/-- places without some of them -/
def dropK (A G : List Nat) (k : Nat) : List Nat := ((List.range k).filter fun j => decide (j ∉ G)).map (atF 0 A)
def dropL (A G : List Nat) : List Nat := dropK A G A.length
theorem dropK_succ {A G : List Nat} {k i : Nat} (h : A[k]? = some i) : dropK A G (k + 1) = dropK A G k ++ (if k ∈ G then [] else [i]) := by
  unfold dropK
  rw [List.range_succ, List.filter_append, List.map_append]
  congr 1
  by_cases hk : k ∈ G
  · simp [hk]
  · simp [hk, atF_at h]
theorem range_atF (big : Nat) (A : List Nat) : (List.range A.length).map (atF big A) = A := by
  apply List.ext_getElem?
  intro i
  rw [List.getElem?_map]
  by_cases h : i < A.length
  · rw [List.getElem?_range h, List.getElem?_eq_getElem h]
    simp [atF, List.getElem?_eq_getElem h]
  · rw [List.getElem?_eq_none (by simp; omega), List.getElem?_eq_none (by omega)]; rfl
theorem atF_inj {big : Nat} {A : List Nat} (hn : A.Nodup) {i j : Nat} (hi : i < A.length) (hj : j < A.length) (h : atF big A i = atF big A j) : i = j := by
  rw [atF_at (List.getElem?_eq_getElem hi), atF_at (List.getElem?_eq_getElem hj)] at h
  rcases Nat.lt_trichotomy i j with q | q | q
  · exact absurd h (List.pairwise_iff_getElem.1 hn i j hi hj q)
  · exact q
  · exact absurd h.symm (List.pairwise_iff_getElem.1 hn j i hj hi q)
theorem dropL_is {big : Nat} {A G : List Nat} (hn : A.Nodup) (hG : ∀ g ∈ G, g < A.length) : dropL A G = A.filter fun i => decide (i ∉ G.map (atF big A)) := by
  conv => rhs; rw [← range_atF big A]
  rw [List.filter_map]
  unfold dropL dropK
  have e : ∀ k ∈ List.range A.length, (decide (k ∉ G)) = ((fun i => decide (i ∉ G.map (atF big A))) ∘ atF big A) k := by
    intro k hk
    have hk := List.mem_range.1 hk
    simp only [Function.comp]
    refine decide_eq_decide.2 (not_congr ⟨fun h => List.mem_map.2 ⟨k, h, rfl⟩, fun h => ?_⟩)
    obtain ⟨g, hg, he⟩ := List.mem_map.1 h
    rw [← atF_inj hn (hG g hg) hk he]; exact hg
  rw [List.filter_congr e, range_atF]
  refine List.map_congr_left fun k hk => ?_
  have hk := List.mem_range.1 (List.mem_filter.1 hk).1
  rw [atF_at (List.getElem?_eq_getElem hk), atF_at (List.getElem?_eq_getElem hk)]
theorem left_app (idx O T : List Nat) : leftOf (leftOf idx O) T = leftOf idx (O ++ T) := by
  unfold leftOf
  rw [List.filter_filter]
  congr 1
  funext i
  simp [Bool.and_comm, not_or]
theorem left_filter (idx O : List Nat) (c : Nat → Bool) : (leftOf idx O).filter c = leftOf (idx.filter c) O := by
  unfold leftOf
  rw [List.filter_filter, List.filter_filter]
  congr 1
  funext i
  rw [Bool.and_comm]
theorem left_mem {idx O : List Nat} {i : Nat} : i ∈ leftOf idx O ↔ i ∈ idx ∧ i ∉ O := by
  unfold leftOf; rw [List.mem_filter, decide_eq_true_eq]
/-- protected behind an order -/
def svStep (m : Nat) (lt : Nat → Nat → Bool) (cn : Nat → Bool) (n : Nat) (O : List Nat) : List Nat := O ++ (ssort lt (leftOf ((List.range m).filter cn) O)).take n
theorem svStep_nodup {m n : Nat} {lt : Nat → Nat → Bool} {cn : Nat → Bool} {O : List Nat} (h : O.Nodup) : (svStep m lt cn n O).Nodup := by
  unfold svStep
  have h1 : (ssort lt (leftOf ((List.range m).filter cn) O)).Nodup := (ssort_perm _).nodup_iff.2 ((List.nodup_range.filter _).filter _)
  refine List.nodup_append.2 ⟨h, h1.sublist (List.take_sublist _ _), fun a ha b hb e => ?_⟩
  subst e
  have := (ssort_mem _).1 (List.mem_of_mem_take hb)
  exact (left_mem.1 this).2 ha
theorem svStep_lt {m n : Nat} {lt : Nat → Nat → Bool} {cn : Nat → Bool} {O : List Nat} (h : ∀ i ∈ O, i < m) : ∀ i ∈ svStep m lt cn n O, i < m := by
  intro i hi
  rcases List.mem_append.1 hi with hi | hi
  · exact h i hi
  · have := (ssort_mem _).1 (List.mem_of_mem_take hi)
    exact List.mem_range.1 (List.mem_filter.1 (left_mem.1 this).1).1
theorem svStep_sub {m n : Nat} {lt : Nat → Nat → Bool} {cn : Nat → Bool} {O : List Nat} {i : Nat} (h : i ∈ O) : i ∈ svStep m lt cn n O := List.mem_append_left _ h
/-- the list without the first ones -/
theorem left_step' {m n : Nat} {lt : Nat → Nat → Bool} {cn : Nat → Bool} {O S : List Nat} (hS : S = (ssort lt (leftOf ((List.range m).filter cn) O)).take n) : (leftOf (List.range m) O).filter (fun i => decide (i ∉ S)) = leftOf (List.range m) (svStep m lt cn n O) := by
  subst hS; exact left_app _ _ _
theorem left_step {m n : Nat} {lt : Nat → Nat → Bool} {cn : Nat → Bool} {O : List Nat} : (leftOf (List.range m) O).filter (fun i => decide (i ∉ (ssort lt ((leftOf (List.range m) O).filter cn)).take n)) = leftOf (List.range m) (svStep m lt cn n O) := by
  refine left_step' ?_
  rw [left_filter]
/-- whose place is below the number is protected -/
theorem svStep_in {m n : Nat} {lt : Nat → Nat → Bool} {cn : Nat → Bool} {O : List Nat} (hw : WO lt) (ht : ((List.range m).filter cn).Pairwise fun a b => lt a b = true ∨ lt b a = true) {i : Nat} (hi : i < m) (hc : cn i = true)
    (hr : (((List.range m).filter cn).filter fun y => lt y i).length < n) : i ∈ svStep m lt cn n O := by
  by_cases hO : i ∈ O
  · exact svStep_sub hO
  · refine List.mem_append_right _ ((first_iff hw (ht.filter _) n (left_mem.2 ⟨List.mem_filter.2 ⟨List.mem_range.2 hi, hc⟩, hO⟩)).2 (Nat.lt_of_le_of_lt ?_ hr))
    exact (List.filter_sublist.filter _).length_le
theorem svStep_len (m n : Nat) (lt : Nat → Nat → Bool) (cn : Nat → Bool) (O : List Nat) : (svStep m lt cn n O).length ≤ O.length + n := by
  unfold svStep
  rw [List.length_append, List.length_take]; omega
theorem filter_mem_len {m : Nat} {O : List Nat} (hn : O.Nodup) (hl : ∀ i ∈ O, i < m) : ((List.range m).filter fun i => decide (i ∈ O)).length = O.length := by
  refine List.Perm.length_eq ?_
  refine (List.perm_ext_iff_of_nodup (List.nodup_range.filter _) hn).2 fun a => ?_
  rw [List.mem_filter, List.mem_range, decide_eq_true_eq]
  exact ⟨fun h => h.2, fun h => ⟨hl a h, h⟩⟩
theorem left_len {m : Nat} {O : List Nat} (hn : O.Nodup) (hl : ∀ i ∈ O, i < m) : (leftOf (List.range m) O).length + O.length = m := by
  have h1 := filter_mem_len hn hl
  have h2 : ((List.range m).filter fun i => decide (i ∈ O)).length + ((List.range m).filter fun i => !decide (i ∈ O)).length = (List.range m).length := by
    rw [← List.length_append]; exact (List.filter_append_perm _ _).length_eq
  have e : leftOf (List.range m) O = (List.range m).filter fun i => !decide (i ∈ O) := by
    unfold leftOf; congr 1; funext i; simp
  rw [e]
  rw [List.length_range] at h2
  omega
/-- everybody counts: so many are protected -/
theorem svStep_all {m n : Nat} {lt : Nat → Nat → Bool} {cn : Nat → Bool} {O : List Nat} (hn : O.Nodup) (hl : ∀ i ∈ O, i < m) (hc : ∀ i, cn i = true) : (svStep m lt cn n O).length = min (O.length + n) m := by
  unfold svStep
  have e : (List.range m).filter cn = List.range m := List.filter_eq_self.2 fun a _ => hc a
  have := left_len hn hl
  rw [List.length_append, List.length_take, ssort_len, e]
  omega
end Go.Proofs.Ytdjmejdfcceknaa
/- Who is left, of whatever turn of a list: plain. Conditions: no two alike. -/
namespace Go.Proofs.Ytdjmejdfcceknaa
section
variable {α β : Type}
theorem sput_mapP (f : α → β) (lt : α → α → Bool) (lt' : β → β → Bool) (h : ∀ x y, lt x y = lt' (f x) (f y)) (x : α) : ∀ l : List α, (sput lt x l).map f = sput lt' (f x) (l.map f)
  | [] => rfl
  | y :: r => by
    simp only [sput, List.map_cons, h x y]
    split
    · rfl
    · rw [List.map_cons, sput_mapP f lt lt' h x r]
theorem ssort_mapP (f : α → β) (lt : α → α → Bool) (lt' : β → β → Bool) (h : ∀ x y, lt x y = lt' (f x) (f y)) (l : List α) : (ssort lt l).map f = ssort lt' (l.map f) := by
  rw [← List.reverse_reverse l]
  induction l.reverse with
  | nil => rfl
  | cons x r ih => rw [List.reverse_cons, ssort_snoc, sput_mapP f lt lt' h, ih, List.map_append, List.map_cons, List.map_nil, ssort_snoc]
/-- two strict rows with the same members are one -/
theorem strict_eq {lt : α → α → Bool} (hw : WO lt) : ∀ {A B : List α}, A.Pairwise (fun a b => lt a b = true) → B.Pairwise (fun a b => lt a b = true) → A.Perm B → A = B
  | [], B, _, _, hp => (hp.symm.eq_nil).symm ▸ rfl
  | a :: A, [], _, _, hp => absurd hp.eq_nil (by simp)
  | a :: A, b :: B, hA, hB, hp => by
    have h1 := List.pairwise_cons.1 hA
    have h2 := List.pairwise_cons.1 hB
    have e : a = b := by
      have ha : a ∈ b :: B := hp.mem_iff.1 (by simp)
      have hb : b ∈ a :: A := hp.mem_iff.2 (by simp)
      rcases List.mem_cons.1 ha with ha | ha
      · exact ha
      · rcases List.mem_cons.1 hb with hb | hb
        · exact hb.symm
        · have q1 := h2.1 a ha
          have q2 := hw.as (h1.1 b hb)
          rw [q1] at q2; cases q2
    subst e
    rw [strict_eq hw h1.2 h2.2 (List.Perm.cons_inv hp)]
/-- the order of a row that is turned -/
theorem ssort_turn {lt : α → α → Bool} (hw : WO lt) {A B : List α} (h : A.Pairwise fun a b => lt a b = true ∨ lt b a = true) (hp : A.Perm B) : ssort lt A = ssort lt B := by
  have hB : B.Pairwise fun a b => lt a b = true ∨ lt b a = true := hp.pairwise h (fun h => h.symm)
  exact strict_eq hw (ssort_strict' hw A h) (ssort_strict' hw B hB) ((ssort_perm A).trans (hp.trans (ssort_perm B).symm))
variable [DecidableEq β]
/-- who is left behind an order -/
def lfP (lt : β → β → Bool) (cn : β → Bool) (n : Nat) (L : List β) : List β := L.filter fun p => decide (p ∉ (ssort lt (L.filter cn)).take n)
theorem lfP_perm {lt : β → β → Bool} (hw : WO lt) {cn : β → Bool} {n : Nat} {L M : List β} (h : L.Pairwise fun a b => lt a b = true ∨ lt b a = true) (hp : L.Perm M) : (lfP lt cn n L).Perm (lfP lt cn n M) := by
  unfold lfP
  rw [ssort_turn hw (h.filter cn) (hp.filter cn)]
  exact hp.filter _
theorem lfP_sub {lt : β → β → Bool} {cn : β → Bool} {n : Nat} {L : List β} : (lfP lt cn n L).Sublist L := List.filter_sublist
/-- .. and by places -/
theorem lfP_is (f : Nat → β) {m : Nat} (hf : ∀ i j, i < m → j < m → f i = f j → i = j) {lt : Nat → Nat → Bool} {lt' : β → β → Bool} (h : ∀ x y, lt x y = lt' (f x) (f y)) {cn : Nat → Bool} {cn' : β → Bool} (hc : ∀ x, cn x = cn' (f x)) (n : Nat) (O : List Nat) :
    lfP lt' cn' n ((leftOf (List.range m) O).map f) = (leftOf (List.range m) (svStep m lt cn n O)).map f := by
  have e : (ssort lt' (((leftOf (List.range m) O).map f).filter cn')).take n = ((ssort lt ((leftOf (List.range m) O).filter cn)).take n).map f := by
    rw [List.map_take, ssort_mapP f lt lt' h, List.filter_map]
    congr 3
    exact List.filter_congr fun x _ => (hc x).symm
  unfold lfP
  rw [e, List.filter_map, ← left_step]
  congr 1
  refine List.filter_congr fun i hi => ?_
  refine decide_eq_decide.2 (not_congr ⟨fun hm => ?_, fun hm => List.mem_map.2 ⟨i, hm, rfl⟩⟩)
  obtain ⟨j, hj, e2⟩ := List.mem_map.1 hm
  have hj' := (ssort_mem _).1 (List.mem_of_mem_take hj)
  have := hf j i (List.mem_range.1 (left_mem.1 (List.mem_filter.1 hj').1).1) (List.mem_range.1 (left_mem.1 hi).1) e2
  rw [← this]; exact hj
end
end Go.Proofs.Ytdjmejdfcceknaa
