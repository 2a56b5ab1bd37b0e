/- Texts put together: PlSort, PlSortB, PeSet. No condition. -/
import Derived.Sort.Defs
import Derived.Test.YtnplgagaoeckoaaGreatRsemyekvhto
import Derived.Test.YtnplgagaoeckoaaGreatRrloyafqzcj
import Derived.Laws.OwnMore
set_option linter.unusedSimpArgs false
set_option linter.unusedVariables false
namespace Go.Proofs.YtnplgagaoeckoaaGreat
open Go.Sort
section
variable {α : Type}
/-- one more, ahead of the first that it stands ahead of -/
def sput (lt : α → α → Bool) (x : α) : List α → List α
 | [] => [x]
 | y :: r => if lt x y then x :: y :: r else y :: sput lt x r
/-- as they stand: one by one -/
def ssort (lt : α → α → Bool) (l : List α) : List α := l.foldl (fun o x => sput lt x o) []
def smrg (lt : α → α → Bool) : List α → List α → List α
 | [], B => B
 | A, [] => A
 | x :: A, y :: B => if lt y x then y :: smrg lt (x :: A) B else x :: smrg lt A (y :: B)
termination_by A B => A.length + B.length
/-- a weak order -/
structure WO (lt : α → α → Bool) : Prop where
 tr : ∀ {a b c}, lt a b = true → lt b c = true → lt a c = true
 nt : ∀ {a b c}, lt a b = false → lt b c = false → lt a c = false
 asy : ∀ {a b}, lt a b = true → lt b a = false
def Rising (lt : α → α → Bool) (l : List α) : Prop := l.Pairwise (fun x y => lt y x = false)
variable {lt : α → α → Bool}
theorem smrg_nil (A : List α) : smrg lt A [] = A := by cases A <;> simp [smrg]
theorem smrg_nil' (B : List α) : smrg lt [] B = B := by simp [smrg]
theorem smrg_cons (x y : α) (A B : List α) : smrg lt (x :: A) (y :: B) = if lt y x then y :: smrg lt (x :: A) B else x :: smrg lt A (y :: B) := by rw [smrg]
theorem sput_mem {x y : α} {l : List α} : y ∈ sput lt x l ↔ y = x ∨ y ∈ l := by
 induction l with
 | nil => simp [sput]
 | cons z r ih =>
  unfold sput; split
  ·simp
  ·simp [ih]; constructor
   ·rintro (h | h | h) <;> simp [h]
   ·rintro (h | h | h) <;> simp [h]
theorem sput_len (x : α) (l : List α) : (sput lt x l).length = l.length + 1 := by
 induction l with
 | nil => rfl
 | cons z r ih => unfold sput; split <;> simp [ih]
theorem WO.lt_of (h : WO lt) {a b c : α} (h1 : lt a b = true) (h2 : lt c b = false) : lt a c = true := by
 cases h3 : lt a c with
 | true => rfl
 | false => have := h.nt h3 h2; rw [h1] at this; cases this
theorem WO.lt_of' (h : WO lt) {a b c : α} (h1 : lt a b = true) (h2 : lt a c = false) : lt c b = true := by
 cases h3 : lt c b with
 | true => rfl
 | false => have := h.nt h2 h3; rw [h1] at this; cases this
theorem rising_sput (h : WO lt) (x : α) {l : List α} (hl : Rising lt l) : Rising lt (sput lt x l) := by
 induction l with
 | nil => simp [sput, Rising]
 | cons y r ih =>
  have h1 := List.pairwise_cons.1 hl
  unfold sput; split
  next hxy =>
   refine List.pairwise_cons.2 ⟨fun z hz => ?_, hl⟩
   rcases List.mem_cons.1 hz with rfl | hz
   ·exact h.asy hxy
   ·exact h.asy (h.lt_of hxy (h1.1 z hz))
  next hxy =>
   refine List.pairwise_cons.2 ⟨fun z hz => ?_, ih h1.2⟩
   rcases sput_mem.1 hz with rfl | hz
   ·simpa using hxy
   ·exact h1.1 z hz
theorem ssort_snoc (l : List α) (x : α) : ssort lt (l ++ [x]) = sput lt x (ssort lt l) := by simp [ssort]
theorem rising_ssort (h : WO lt) (l : List α) : Rising lt (ssort lt l) := by
 rw [← List.reverse_reverse l]
 induction l.reverse with
 | nil => exact List.Pairwise.nil
 | cons x r ih => rw [List.reverse_cons, ssort_snoc]; exact rising_sput h x ih
theorem ssort_len (l : List α) : (ssort lt l).length = l.length := by
 rw [← List.reverse_reverse l]
 induction l.reverse with
 | nil => rfl
 | cons x r ih => rw [List.reverse_cons, ssort_snoc, sput_len, ih]; simp
theorem sput_smrg (h : WO lt) (y : α) : ∀ (n : Nat) (A B : List α), A.length + B.length ≤ n → sput lt y (smrg lt A B) = smrg lt A (sput lt y B)
 | n, [], B, _ => by simp [smrg_nil']
 | 0, a :: A, B, hn => by simp at hn
 | n + 1, a :: A, [], hn => by
  have ih := fun A B => sput_smrg h y n A B
  rw [smrg_nil]
  show _ = smrg lt (a :: A) [y]
  rw [smrg_cons, smrg_nil]
  unfold sput; split
  ·rfl
  ·have := ih A [] (by simp at hn ⊢; omega)
   rw [smrg_nil] at this; rw [this]; rfl
 | n + 1, a :: A, b :: B, hn => by
  have ih := fun A B => sput_smrg h y n A B
  simp only [List.length_cons] at hn
  rw [smrg_cons]
  by_cases hba : lt b a = true
  ·rw [if_pos hba]
   show _ = smrg lt (a :: A) (if lt y b then y :: b :: B else b :: sput lt y B)
   by_cases hyb : lt y b = true
   ·rw [if_pos hyb, smrg_cons, if_pos (h.tr hyb hba), smrg_cons, if_pos hba, sput, if_pos hyb]
   ·rw [if_neg hyb, smrg_cons, if_pos hba, sput, if_neg hyb, ih _ _ (by simp; omega)]
  ·rw [if_neg hba]
   have hba' : lt b a = false := by simpa using hba
   by_cases hyb : lt y b = true
   ·have e1 : sput lt y (b :: B) = y :: b :: B := by rw [sput, if_pos hyb]
    have e2 := ih A (b :: B) (by simp; omega)
    rw [e1] at e2 ⊢
    rw [smrg_cons, sput, e2, smrg_cons, if_neg hba]
   ·have hya : lt y a = false := h.nt (by simpa using hyb) hba'
    have e1 : sput lt y (b :: B) = b :: sput lt y B := by rw [sput, if_neg hyb]
    have e2 := ih A (b :: B) (by simp; omega)
    rw [e1] at e2 ⊢
    rw [smrg_cons, if_neg hba, sput, if_neg (by simp [hya]), e2]
theorem ssort_append (h : WO lt) (A B : List α) : ssort lt (A ++ B) = smrg lt (ssort lt A) (ssort lt B) := by
 rw [← List.reverse_reverse B]
 induction B.reverse with
 | nil => simp [smrg_nil, ssort]
 | cons x r ih =>
  rw [List.reverse_cons, ← List.append_assoc, ssort_snoc, ssort_snoc, ih, sput_smrg h x _ _ _ (Nat.le_refl _)]
theorem smrg_len : ∀ (n : Nat) (A B : List α), A.length + B.length ≤ n → (smrg lt A B).length = A.length + B.length
 | n, [], B, _ => by simp [smrg_nil']
 | n, a :: A, [], _ => by simp [smrg_nil]
 | 0, a :: A, b :: B, hn => by simp at hn
 | n + 1, a :: A, b :: B, hn => by
  have ih := fun A B => smrg_len n A B
  simp only [List.length_cons] at hn
  rw [smrg_cons]; split
  ·rw [List.length_cons, ih _ _ (by simp; omega)]; simp; omega
  ·rw [List.length_cons, ih _ _ (by simp; omega)]; simp; omega
/-- a merge in two parts -/
theorem smrg_split : ∀ (n : Nat) (A1 A2 B1 B2 : List α), A1.length + B1.length ≤ n → (∀ x ∈ A1, ∀ y ∈ B2, lt y x = false) → (∀ x ∈ A2, ∀ y ∈ B1, lt y x = true) → smrg lt (A1 ++ A2) (B1 ++ B2) = smrg lt A1 B1 ++ smrg lt A2 B2
 | n, [], A2, [], B2, _, _, _ => by simp [smrg_nil]
 | n, [], [], b :: B1, B2, hn, h1, h2 => by simp [smrg_nil']
 | 0, [], x :: A2, b :: B1, B2, hn, h1, h2 => by simp at hn
 | 0, a :: A1, A2, B1, B2, hn, h1, h2 => by simp at hn
 | n + 1, [], x :: A2, b :: B1, B2, hn, h1, h2 => by
  have ih := smrg_split n [] (x :: A2) B1 B2 (by simp at hn ⊢; omega) (by simp) (fun x hx y hy => h2 x hx y (by simp [hy]))
  simp only [List.nil_append, smrg_nil'] at ih
  simp only [List.nil_append, List.cons_append, smrg_nil']
  rw [smrg_cons, if_pos (h2 x (by simp) b (by simp)), ih]
 | n + 1, a :: A1, A2, [], [], hn, h1, h2 => by simp [smrg_nil]
 | n + 1, a :: A1, A2, [], y :: B2, hn, h1, h2 => by
  have ih := smrg_split n A1 A2 [] (y :: B2) (by simp at hn ⊢; omega) (fun x hx y hy => h1 x (by simp [hx]) y hy) (by simp)
  simp only [List.nil_append, smrg_nil] at ih
  simp only [List.nil_append, List.cons_append, smrg_nil]
  rw [smrg_cons, if_neg (by simp [h1 a (by simp) y (by simp)]), ih]
 | n + 1, a :: A1, A2, b :: B1, B2, hn, h1, h2 => by
  have ih := fun A1 B1 => smrg_split n A1 A2 B1 B2
  simp only [List.length_cons] at hn
  simp only [List.cons_append]
  rw [smrg_cons, smrg_cons]
  split
  ·have := ih (a :: A1) B1 (by simp; omega) h1 (fun x hx y hy => h2 x hx y (by simp [hy]))
   simp only [List.cons_append] at this
   rw [this]; rfl
  ·have := ih A1 (b :: B1) (by simp; omega) (fun x hx y hy => h1 x (by simp [hx]) y hy) h2
   simp only [List.cons_append] at this
   rw [this]; rfl
end

section
variable {α : Type} [Inhabited α]
/-! ### the steps on an array -/
def swpR (a b : Nat) : Nat → Nat → Array α → Array α
 | 0, _, d => d
 | n + 1, i, d => swpR a b n (i + 1) (swp d (a + i) (b + i))
def rotA (m : Nat) : Nat → Nat → Nat → Array α → Array α
 | 0, _, _, d => d
 | f + 1, i, j, d => if i = j then swpR (m - i) m i 0 d else if j < i then rotA m f (i - j) j (swpR (m - i) m j 0 d) else rotA m f i (j - i) (swpR (m - i) (m + j - i) i 0 d)
/-- the first place at which p does not hold -/
def bsr (p : Nat → Bool) : Nat → Nat → Nat → Nat
 | 0, i, _ => i
 | f + 1, i, j => if i < j then (if p ((i + j) / 2) then bsr p f ((i + j) / 2 + 1) j else bsr p f i ((i + j) / 2)) else i
def upA : Nat → Nat → Array α → Array α
 | 0, _, d => d
 | n + 1, k, d => upA n (k + 1) (swp d k (k + 1))
def downA : Nat → Nat → Array α → Array α
 | 0, _, d => d
 | n + 1, k, d => downA n (k - 1) (swp d k (k - 1))
variable (lt : α → α → Bool)
def symS0 (a m b : Nat) : Nat := if (a + b) / 2 < m then (a + b) / 2 + m - b else a
def symR0 (a m b : Nat) : Nat := if (a + b) / 2 < m then (a + b) / 2 else m
def symSt (d : Array α) (a m b : Nat) : Nat := bsr (fun c => !lt d[(a + b) / 2 + m - 1 - c]! d[c]!) (b - a) (symS0 a m b) (symR0 a m b)
def symM : Nat → Nat → Nat → Nat → Array α → Array α
 | 0, _, _, _, d => d
 | f + 1, a, m, b, d =>
  if m - a = 1 then upA (bsr (fun h => lt d[h]! d[a]!) (b - a) m b - 1 - a) a d
  else if b - m = 1 then downA (m - bsr (fun h => !lt d[m]! d[h]!) (b - a) a m) m d
  else
   let s := symSt lt d a m b
   let e := (a + b) / 2 + m - s
   let d1 := if s < m ∧ m < e then rotA m (e - s) (m - s) (e - m) d else d
   let d2 := if a < s ∧ s < (a + b) / 2 then symM f a s ((a + b) / 2) d1 else d1
   if (a + b) / 2 < e ∧ e < b then symM f ((a + b) / 2) e b d2 else d2
def insB (n : Nat) : Nat → Nat → Array α → Array α
 | 0, _, d => d
 | f + 1, a, d => if a + 20 ≤ n then insB n f (a + 20) (insertionSort lt d a (a + 20)) else insertionSort lt d a n
def mrgB (n k : Nat) : Nat → Nat → Array α → Array α
 | 0, _, d => d
 | f + 1, a, d => if a + 2 * k ≤ n then mrgB n k f (a + 2 * k) (symM lt (2 * k) a (a + k) (a + 2 * k) d) else if a + k < n then symM lt (2 * k) a (a + k) n d else d
def passA (n : Nat) : Nat → Nat → Array α → Array α
 | 0, _, d => d
 | f + 1, k, d => if k < n then passA n f (2 * k) (mrgB lt n k (n + 1) 0 d) else d
def stableA (d : Array α) : Array α := passA lt d.size (d.size + 1) 20 (insB lt d.size (d.size + 1) 0 d)
end
section
variable {α : Type} [Inhabited α]
theorem arr_get (d : Array α) (i : Nat) : d[i]! = d.toList[i]?.getD default := by
 simp [getElem!_def, Array.getD_eq_getD_getElem?]
 cases d[i]? <;> rfl
theorem at_mid {d : Array α} {P S : List α} {x : α} (h : d.toList = P ++ x :: S) {i : Nat} (hi : i = P.length) : d[i]! = x := by
 subst hi; rw [arr_get, h]; simp
end
section
variable {α : Type} {lt : α → α → Bool}
theorem set_mid {P S : List α} {x y : α} {i : Nat} (hi : i = P.length) : (P ++ x :: S).set i y = P ++ y :: S := by
 subst hi; simp
end
section
variable {α : Type} [Inhabited α]
theorem swp_at {d : Array α} {P M S : List α} {x y : α} (h : d.toList = P ++ x :: (M ++ y :: S)) {i j : Nat} (hi : i = P.length) (hj : j = P.length + 1 + M.length) : (swp d i j).toList = P ++ y :: (M ++ x :: S) := by
 have e1 : d[i]! = x := at_mid h hi
 have e2 : d[j]! = y := at_mid (P := P ++ x :: M) (S := S) (by rw [h]; simp) (by simp; omega)
 unfold swp
 rw [e1, e2, Array.toList_setIfInBounds, Array.toList_setIfInBounds, h, set_mid hi, show P ++ y :: (M ++ y :: S) = (P ++ y :: M) ++ y :: S by simp, set_mid (by simp; omega)]
 simp
theorem swp_at' {d : Array α} {P M S : List α} {x y : α} (h : d.toList = P ++ x :: (M ++ y :: S)) {i j : Nat} (hi : i = P.length) (hj : j = P.length + 1 + M.length) : (swp d j i).toList = P ++ y :: (M ++ x :: S) := by
 have e1 : d[i]! = x := at_mid h hi
 have e2 : d[j]! = y := at_mid (P := P ++ x :: M) (S := S) (by rw [h]; simp) (by simp; omega)
 unfold swp
 rw [e1, e2, Array.toList_setIfInBounds, Array.toList_setIfInBounds, h, show P ++ x :: (M ++ y :: S) = (P ++ x :: M) ++ y :: S by simp, set_mid (by simp; omega), show (P ++ x :: M) ++ x :: S = P ++ x :: (M ++ x :: S) by simp, set_mid hi]
theorem swpR_is {a b : Nat} : ∀ (n i : Nat) (d : Array α) (P X M Y S : List α), d.toList = P ++ X ++ M ++ Y ++ S → X.length = n → Y.length = n → P.length = a + i → P.length + n + M.length = b + i →
  (swpR a b n i d).toList = P ++ Y ++ M ++ X ++ S
 | 0, i, d, P, X, M, Y, S, h, hX, hY, h1, h2 => by
  obtain rfl := List.length_eq_zero_iff.1 hX
  obtain rfl := List.length_eq_zero_iff.1 hY
  exact h
 | n + 1, i, d, P, x :: X, M, y :: Y, S, h, hX, hY, h1, h2 => by
  have hs := swp_at (d := d) (P := P) (M := X ++ M) (S := Y ++ S) (x := x) (y := y) (by rw [h]; simp) (i := a + i) (j := b + i) (by omega) (by simp at hX ⊢; omega)
  have := swpR_is (a := a) (b := b) n (i + 1) (swp d (a + i) (b + i)) (P ++ [y]) X (M ++ [x]) Y S (by rw [hs]; simp) (by simpa using hX) (by simpa using hY) (by simp; omega) (by simp; omega)
  unfold swpR; rw [this]; simp
theorem rotA_is {m : Nat} : ∀ (f i j : Nat) (d : Array α) (P X Y S : List α), d.toList = P ++ X ++ Y ++ S → X.length = i → Y.length = j → 0 < i → 0 < j → m = P.length + i → i + j ≤ f + 1 →
  (rotA m f i j d).toList = P ++ Y ++ X ++ S
 | 0, i, j, d, P, X, Y, S, h, hX, hY, hi, hj, hm, hf => by omega
 | f + 1, i, j, d, P, X, Y, S, h, hX, hY, hi, hj, hm, hf => by
  unfold rotA
  by_cases hij : i = j
  ·rw [if_pos hij]
   have := swpR_is (a := m - i) (b := m) i 0 d P X [] Y S (by rw [h]; simp) hX (by omega) (by omega) (by simp; omega)
   rw [this]; simp
  ·rw [if_neg hij]
   by_cases hji : j < i
   ·rw [if_pos hji]
    have e := List.take_append_drop j X
    have l1 : (X.take j).length = j := by simp; omega
    have l2 : (X.drop j).length = i - j := by simp; omega
    generalize X.take j = X1 at *
    generalize X.drop j = X2 at *
    subst e
    have h1 := swpR_is (a := m - i) (b := m) j 0 d P X1 X2 Y S (by rw [h]; simp) l1 hY (by omega) (by omega)
    have := rotA_is (m := m) f (i - j) j (swpR (m - i) m j 0 d) (P ++ Y) X2 X1 S (by rw [h1]) l2 l1 (by omega) hj (by simp; omega) (by omega)
    rw [this]; simp
   ·rw [if_neg hji]
    have e := List.take_append_drop (j - i) Y
    have l1 : (Y.take (j - i)).length = j - i := by simp; omega
    have l2 : (Y.drop (j - i)).length = i := by simp; omega
    generalize Y.take (j - i) = Y1 at *
    generalize Y.drop (j - i) = Y2 at *
    subst e
    have h1 := swpR_is (a := m - i) (b := m + j - i) i 0 d P X Y1 Y2 S (by rw [h]; simp) hX l2 (by omega) (by omega)
    have := rotA_is (m := m) f i (j - i) (swpR (m - i) (m + j - i) i 0 d) P Y2 Y1 (X ++ S) (by rw [h1]; simp) l2 l1 hi (by omega) (by omega) (by omega)
    rw [this]; simp
theorem bsr_is (p : Nat → Bool) : ∀ (f i j : Nat), i ≤ j → j - i ≤ f → (∀ x y, i ≤ x → x ≤ y → y < j → p y = true → p x = true) →
  i ≤ bsr p f i j ∧ bsr p f i j ≤ j ∧ (∀ x, i ≤ x → x < bsr p f i j → p x = true) ∧ (∀ x, bsr p f i j ≤ x → x < j → p x = false)
 | 0, i, j, hij, hf, hp => by
  unfold bsr
  exact ⟨Nat.le_refl _, hij, fun x h1 h2 => by omega, fun x h1 h2 => by omega⟩
 | f + 1, i, j, hij, hf, hp => by
  unfold bsr
  by_cases h : i < j
  ·rw [if_pos h]
   by_cases hq : p ((i + j) / 2) = true
   ·rw [if_pos hq]
    obtain ⟨a1, a2, a3, a4⟩ := bsr_is p f ((i + j) / 2 + 1) j (by omega) (by omega) (fun x y h1 h2 h3 => hp x y (by omega) h2 h3)
    refine ⟨by omega, a2, fun x h1 h2 => ?_, a4⟩
    by_cases hx : x ≤ (i + j) / 2
    ·exact hp x _ h1 hx (by omega) hq
    ·exact a3 x (by omega) h2
   ·rw [if_neg hq]
    obtain ⟨a1, a2, a3, a4⟩ := bsr_is p f i ((i + j) / 2) (by omega) (by omega) (fun x y h1 h2 h3 => hp x y h1 h2 (by omega))
    refine ⟨a1, by omega, a3, fun x h1 h2 => ?_⟩
    by_cases hx : x < (i + j) / 2
    ·exact a4 x h1 hx
    ·cases hpx : p x with
     | false => rfl
     | true => exact absurd (hp _ x (by omega) (by omega) h2 hpx) hq
  ·rw [if_neg h]
   exact ⟨Nat.le_refl _, hij, fun x h1 h2 => by omega, fun x h1 h2 => by omega⟩
theorem upA_is : ∀ (n k : Nat) (d : Array α) (P Z S : List α) (x : α), d.toList = P ++ x :: (Z ++ S) → P.length = k → Z.length = n → (upA n k d).toList = P ++ Z ++ x :: S
 | 0, k, d, P, Z, S, x, h, h1, h2 => by
  obtain rfl := List.length_eq_zero_iff.1 h2
  unfold upA; rw [h]; simp
 | n + 1, k, d, P, z :: Z, S, x, h, h1, h2 => by
  have hs := swp_at (d := d) (P := P) (M := []) (S := Z ++ S) (x := x) (y := z) (by rw [h]; simp) (i := k) (j := k + 1) (by omega) (by simp; omega)
  have := upA_is n (k + 1) (swp d k (k + 1)) (P ++ [z]) Z S x (by rw [hs]; simp) (by simp; omega) (by simpa using h2)
  unfold upA; rw [this]; simp
theorem downA_is : ∀ (n k : Nat) (d : Array α) (P Z S : List α) (x : α), d.toList = P ++ Z ++ x :: S → P.length + n = k → Z.length = n → (downA n k d).toList = P ++ x :: (Z ++ S)
 | 0, k, d, P, Z, S, x, h, h1, h2 => by
  obtain rfl := List.length_eq_zero_iff.1 h2
  unfold downA; rw [h]; simp
 | n + 1, k, d, P, Z, S, x, h, h1, h2 => by
  obtain ⟨Z', z, rfl⟩ : ∃ Z' z, Z = Z' ++ [z] := ⟨Z.dropLast, Z.getLast (by intro e; subst e; simp at h2), (List.dropLast_concat_getLast _).symm⟩
  simp at h2
  have hs := swp_at' (d := d) (P := P ++ Z') (M := []) (S := S) (x := z) (y := x) (by rw [h]; simp) (i := k - 1) (j := k) (by simp; omega) (by simp; omega)
  have := downA_is n (k - 1) (swp d k (k - 1)) P Z' (z :: S) x (by rw [hs]; simp) (by omega) h2
  unfold downA; rw [this]; simp
variable {lt : α → α → Bool}
end
section
variable {α : Type} {lt : α → α → Bool}
theorem WO.irr (h : WO lt) (a : α) : lt a a = false := by
 cases e : lt a a with
 | false => rfl
 | true => have := h.asy e; rw [e] at this; cases this
end
section
variable {α : Type} [Inhabited α] {lt : α → α → Bool}
theorem seg_get {d : Array α} {P A S : List α} (h : d.toList = P ++ A ++ S) {c : Nat} (h1 : P.length ≤ c) (h2 : c < P.length + A.length) : A[c - P.length]? = some d[c]! := by
 have e : d.toList[c]? = A[c - P.length]? := by
  rw [h, List.append_assoc, List.getElem?_append_right h1, List.getElem?_append_left (by omega)]
 rw [arr_get, e, List.getElem?_eq_getElem (by omega)]; rfl
theorem seg_mem {d : Array α} {P A S : List α} (h : d.toList = P ++ A ++ S) {x : α} (hx : x ∈ A) : ∃ c, P.length ≤ c ∧ c < P.length + A.length ∧ x = d[c]! := by
 obtain ⟨i, hi, rfl⟩ := List.getElem_of_mem hx
 refine ⟨P.length + i, by omega, by omega, ?_⟩
 have := seg_get h (c := P.length + i) (by omega) (by omega)
 rw [Nat.add_sub_cancel_left, List.getElem?_eq_getElem hi] at this
 exact Option.some.inj this
theorem seg_rising (hw : WO lt) {d : Array α} {P A S : List α} (h : d.toList = P ++ A ++ S) (hA : Rising lt A) {x y : Nat} (h1 : P.length ≤ x) (h2 : x ≤ y) (h3 : y < P.length + A.length) : lt d[y]! d[x]! = false := by
 rcases Nat.lt_or_ge x y with hxy | hxy
 ·have e1 := seg_get h h1 (by omega)
  have e2 := seg_get h (c := y) (by omega) h3
  have := List.pairwise_iff_getElem.1 hA (x - P.length) (y - P.length) (by omega) (by omega) (by omega)
  rw [List.getElem?_eq_getElem (by omega)] at e1 e2
  rw [Option.some.inj e1, Option.some.inj e2] at this
  exact this
 ·obtain rfl : x = y := by omega
  exact hw.irr _
set_option maxHeartbeats 1600000 in
theorem symM_is (hw : WO lt) : ∀ (f a m b : Nat) (d : Array α) (P A B S : List α), d.toList = P ++ A ++ B ++ S → P.length = a → P.length + A.length = m → P.length + A.length + B.length = b → a < m → m < b → b - a ≤ f → Rising lt A → Rising lt B →
  (symM lt f a m b d).toList = P ++ smrg lt A B ++ S
 | 0, a, m, b, d, P, A, B, S, h, ha, hm, hb, h1, h2, hf, hA, hB => by omega
 | f + 1, a, m, b, d, P, A, B, S, h, ha, hm, hb, h1, h2, hf, hA, hB => by
  have hPA : d.toList = P ++ A ++ (B ++ S) := by rw [h]; simp
  have hPB : d.toList = (P ++ A) ++ B ++ S := h
  have rA := fun {x y : Nat} => seg_rising hw hPA hA (x := x) (y := y)
  have rB := fun {x y : Nat} => seg_rising hw hPB hB (x := x) (y := y)
  simp only [List.length_append] at rB
  unfold symM
  by_cases c1 : m - a = 1
  ·rw [if_pos c1]
   have hlA : A.length = 1 := by omega
   obtain ⟨x, rfl⟩ := List.length_eq_one_iff.1 hlA
   have ex : d[a]! = x := at_mid (P := P) (S := B ++ S) (by rw [hPA]; simp) ha.symm
   obtain ⟨b1, b2, b3, b4⟩ := bsr_is (fun h => lt d[h]! d[a]!) (b - a) m b (by omega) (by omega) (fun u v h3 h4 h5 h6 => by
    have := rB (x := u) (y := v) (by omega) h4 (by omega)
    cases e : lt d[u]! d[a]! with
    | true => rfl
    | false => have := hw.nt this e; rw [h6] at this; cases this)
   generalize bsr (fun h => lt d[h]! d[a]!) (b - a) m b = r at *
   have e := List.take_append_drop (r - m) B
   have l1 : (B.take (r - m)).length = r - m := by simp; omega
   generalize hZ : B.take (r - m) = Z at *
   generalize hT : B.drop (r - m) = T at *
   have hz : ∀ y ∈ Z, lt y x = true := fun y hy => by
    obtain ⟨c, hc1, hc2, rfl⟩ := seg_mem (d := d) (P := P ++ [x]) (A := Z) (S := T ++ S) (by rw [h, ← e]; simp) hy
    try simp at hc1 hc2
    have := b3 c (by omega) (by omega)
    rwa [ex] at this
   have ht : ∀ y ∈ T, lt y x = false := fun y hy => by
    obtain ⟨c, hc1, hc2, rfl⟩ := seg_mem (d := d) (P := P ++ [x] ++ Z) (A := T) (S := S) (by rw [h, ← e]; simp) hy
    try simp at hc1 hc2
    have hl : T.length = B.length - (r - m) := by rw [← hT]; simp
    have := b4 c (by omega) (by omega)
    rwa [ex] at this
   rw [upA_is (r - 1 - a) a d P Z (T ++ S) x (by rw [h, ← e]; simp) ha (by omega)]
   have k1 := smrg_split (lt := lt) _ [] [x] Z T (Nat.le_refl _) (by simp) (fun u hu y hy => by rw [List.mem_singleton.1 hu]; exact hz y hy)
   have k2 := smrg_split (lt := lt) _ [x] [] [] T (Nat.le_refl _) (fun u hu y hy => by rw [List.mem_singleton.1 hu]; exact ht y hy) (by simp)
   simp only [List.append_nil, List.nil_append, smrg_nil, smrg_nil'] at k1 k2
   rw [← e, k1, k2]; simp
  ·rw [if_neg c1]
   by_cases c2 : b - m = 1
   ·rw [if_pos c2]
    have hlB : B.length = 1 := by omega
    obtain ⟨y, rfl⟩ := List.length_eq_one_iff.1 hlB
    have ey : d[m]! = y := at_mid (P := P ++ A) (S := S) (by rw [h]; simp) (by simp; omega)
    obtain ⟨b1, b2, b3, b4⟩ := bsr_is (fun h => !lt d[m]! d[h]!) (b - a) a m (by omega) (by omega) (fun u v h3 h4 h5 h6 => by
     have := rA (x := u) (y := v) (by omega) h4 (by omega)
     simp only [Bool.not_eq_true'] at h6 ⊢
     exact hw.nt h6 this)
    generalize bsr (fun h => !lt d[m]! d[h]!) (b - a) a m = r at *
    have e := List.take_append_drop (r - a) A
    have l1 : (A.take (r - a)).length = r - a := by simp; omega
    have l2 : (A.drop (r - a)).length = m - r := by simp; omega
    generalize hZ : A.take (r - a) = Z at *
    generalize hT : A.drop (r - a) = T at *
    have hz : ∀ x ∈ Z, lt y x = false := fun x hx => by
     obtain ⟨c, hc1, hc2, rfl⟩ := seg_mem (d := d) (P := P) (A := Z) (S := T ++ [y] ++ S) (by rw [h, ← e]; simp) hx
     have := b3 c (by omega) (by omega)
     rw [ey] at this; simpa using this
    have ht : ∀ x ∈ T, lt y x = true := fun x hx => by
     obtain ⟨c, hc1, hc2, rfl⟩ := seg_mem (d := d) (P := P ++ Z) (A := T) (S := [y] ++ S) (by rw [h, ← e]; simp) hx
     try simp at hc1 hc2
     have := b4 c (by omega) (by omega)
     rw [ey] at this; simpa using this
    rw [downA_is (m - r) m d (P ++ Z) T S y (by rw [h, ← e]; simp) (by simp; omega) l2]
    have k1 := smrg_split (lt := lt) _ Z T [] [y] (Nat.le_refl _) (fun u hu v hv => by rw [List.mem_singleton.1 hv]; exact hz u hu) (by simp)
    have k2 := smrg_split (lt := lt) _ [] T [y] [] (Nat.le_refl _) (by simp) (fun u hu v hv => by rw [List.mem_singleton.1 hv]; exact ht u hu)
    simp only [List.append_nil, List.nil_append, smrg_nil, smrg_nil'] at k1 k2
    rw [← e, k1, k2]; simp
   ·rw [if_neg c2]
    obtain ⟨mid, hmid⟩ : ∃ mid, mid = (a + b) / 2 := ⟨_, rfl⟩
    have hs0 : symS0 a m b = if mid < m then mid + m - b else a := by unfold symS0; rw [hmid]
    have hr0 : symR0 a m b = if mid < m then mid else m := by unfold symR0; rw [hmid]
    have hst : symSt lt d a m b = bsr (fun c => !lt d[mid + m - 1 - c]! d[c]!) (b - a) (symS0 a m b) (symR0 a m b) := by unfold symSt; rw [hmid]
    simp only [← hmid]
    obtain ⟨s0, hs0', r0, hr0'⟩ := nz2 (symS0 a m b) (symR0 a m b)
    rw [← hs0'] at hs0 hst
    rw [← hr0'] at hr0 hst
    have q1 : a ≤ s0 ∧ s0 ≤ r0 ∧ r0 ≤ m ∧ r0 ≤ mid ∧ mid + m - b ≤ s0 := by
     rw [hs0, hr0]; split <;> omega
    have hmono : ∀ x y, s0 ≤ x → x ≤ y → y < r0 → (!lt d[mid + m - 1 - y]! d[y]!) = true → (!lt d[mid + m - 1 - x]! d[x]!) = true := fun u v h3 h4 h5 h6 => by
     have f1 := rA (x := u) (y := v) (by omega) h4 (by omega)
     have f2 := rB (x := mid + m - 1 - v) (y := mid + m - 1 - u) (by omega) (by omega) (by omega)
     simp only [Bool.not_eq_true'] at h6 ⊢
     exact hw.nt (hw.nt f2 h6) f1
    obtain ⟨b1, b2, b3, b4⟩ := bsr_is (fun c => !lt d[mid + m - 1 - c]! d[c]!) (b - a) s0 r0 q1.2.1 (by omega) hmono
    rw [← hst] at b1 b2 b3 b4
    generalize symSt lt d a m b = s at *
    obtain ⟨e, he⟩ : ∃ e, e = mid + m - s := ⟨_, rfl⟩
    simp only [← he]
    have q2 : m ≤ e ∧ e ≤ b := by omega
    have eA := List.take_append_drop (s - a) A
    have lA1 : (A.take (s - a)).length = s - a := by simp; omega
    have lA2 : (A.drop (s - a)).length = m - s := by simp; omega
    have eB := List.take_append_drop (e - m) B
    have lB1 : (B.take (e - m)).length = e - m := by simp; omega
    have lB2 : (B.drop (e - m)).length = b - e := by simp; omega
    generalize A.take (s - a) = A1 at *
    generalize A.drop (s - a) = A2 at *
    generalize B.take (e - m) = B1 at *
    generalize B.drop (e - m) = B2 at *
    have g1 : ∀ x ∈ A1, ∀ y ∈ B2, lt y x = false := fun x hx y hy => by
     obtain ⟨u, hu1, hu2, rfl⟩ := seg_mem (d := d) (P := P) (A := A1) (S := A2 ++ B ++ S) (by rw [h, ← eA]; simp) hx
     obtain ⟨v, hv1, hv2, rfl⟩ := seg_mem (d := d) (P := P ++ A ++ B1) (A := B2) (S := S) (by rw [h, ← eB]; simp) hy
     simp at hv1 hv2
     have hlt : s0 < s := by
      rcases Nat.lt_or_ge s0 s with hh | hh
      ·exact hh
      ·exfalso
       have : s = s0 := by omega
       by_cases hc : mid < m
       ·rw [if_pos hc] at hs0; omega
       ·rw [if_neg hc] at hs0; omega
     have p1 := b3 (s - 1) (by omega) (by omega)
     simp only [Bool.not_eq_true'] at p1
     rw [show mid + m - 1 - (s - 1) = e by omega] at p1
     have f1 := rA (x := u) (y := s - 1) (by omega) (by omega) (by omega)
     have f2 := rB (x := e) (y := v) (by omega) (by omega) (by omega)
     exact hw.nt (hw.nt f2 p1) f1
    have g2 : ∀ x ∈ A2, ∀ y ∈ B1, lt y x = true := fun x hx y hy => by
     obtain ⟨u, hu1, hu2, rfl⟩ := seg_mem (d := d) (P := P ++ A1) (A := A2) (S := B ++ S) (by rw [h, ← eA]; simp) hx
     obtain ⟨v, hv1, hv2, rfl⟩ := seg_mem (d := d) (P := P ++ A) (A := B1) (S := B2 ++ S) (by rw [h, ← eB]; simp) hy
     simp at hv1 hv2 hu1 hu2
     have hlt : s < r0 := by
      rcases Nat.lt_or_ge s r0 with hh | hh
      ·exact hh
      ·exfalso
       have : s = r0 := by omega
       by_cases hc : mid < m
       ·rw [if_pos hc] at hr0; omega
       ·rw [if_neg hc] at hr0; omega
     have p1 := b4 s (by omega) hlt
     simp only [Bool.not_eq_false'] at p1
     rw [show mid + m - 1 - s = e - 1 by omega] at p1
     have f1 := rA (x := s) (y := u) (by omega) (by omega) (by omega)
     have f2 := rB (x := v) (y := e - 1) (by omega) (by omega) (by omega)
     exact hw.lt_of (hw.lt_of' p1 f2) f1
    have rA1 : Rising lt A1 := by rw [← eA] at hA; exact (List.pairwise_append.1 hA).1
    have rA2 : Rising lt A2 := by rw [← eA] at hA; exact (List.pairwise_append.1 hA).2.1
    have rB1 : Rising lt B1 := by rw [← eB] at hB; exact (List.pairwise_append.1 hB).1
    have rB2 : Rising lt B2 := by rw [← eB] at hB; exact (List.pairwise_append.1 hB).2.1
    have hd1 : (if s < m ∧ m < e then rotA m (e - s) (m - s) (e - m) d else d).toList = P ++ A1 ++ B1 ++ A2 ++ B2 ++ S := by
     by_cases hc : s < m ∧ m < e
     ·rw [if_pos hc, rotA_is (e - s) (m - s) (e - m) d (P ++ A1) A2 B1 (B2 ++ S) (by rw [h, ← eA, ← eB]; simp) lA2 lB1 (by omega) (by omega) (by simp; omega) (by omega)]; simp
     ·rw [if_neg hc, h, ← eA, ← eB]
      rcases Nat.lt_or_ge s m with hh | hh
      ·obtain rfl := List.length_eq_zero_iff.1 (show B1.length = 0 by omega); simp
      ·obtain rfl := List.length_eq_zero_iff.1 (show A2.length = 0 by omega); simp
    generalize (if s < m ∧ m < e then rotA m (e - s) (m - s) (e - m) d else d) = d1 at *
    have hd2 : (if a < s ∧ s < mid then symM lt f a s mid d1 else d1).toList = P ++ smrg lt A1 B1 ++ A2 ++ B2 ++ S := by
     by_cases hc : a < s ∧ s < mid
     ·rw [if_pos hc, symM_is hw f a s mid d1 P A1 B1 (A2 ++ B2 ++ S) (by rw [hd1]; simp) ha (by omega) (by omega) hc.1 hc.2 (by omega) rA1 rB1]; simp
     ·rw [if_neg hc, hd1]
      rcases Nat.lt_or_ge a s with hh | hh
      ·obtain rfl := List.length_eq_zero_iff.1 (show B1.length = 0 by omega); simp [smrg_nil]
      ·obtain rfl := List.length_eq_zero_iff.1 (show A1.length = 0 by omega); simp [smrg_nil']
    generalize (if a < s ∧ s < mid then symM lt f a s mid d1 else d1) = d2 at *
    have lm : (smrg lt A1 B1).length = A1.length + B1.length := smrg_len _ _ _ (Nat.le_refl _)
    rw [← eA, ← eB, smrg_split _ A1 A2 B1 B2 (Nat.le_refl _) g1 g2]
    by_cases hc : mid < e ∧ e < b
    ·rw [if_pos hc, symM_is hw f mid e b d2 (P ++ smrg lt A1 B1) A2 B2 S (by rw [hd2]) (by simp; omega) (by simp; omega) (by simp; omega) hc.1 hc.2 (by omega) rA2 rB2]; simp
    ·rw [if_neg hc, hd2]
     rcases Nat.lt_or_ge mid e with hh | hh
     ·obtain rfl := List.length_eq_zero_iff.1 (show B2.length = 0 by omega); simp [smrg_nil]
     ·obtain rfl := List.length_eq_zero_iff.1 (show A2.length = 0 by omega); simp [smrg_nil']
/-! ### the insertion sort of a part -/
end
section
variable {α : Type} {lt : α → α → Bool}
theorem sput_snoc_lt (U : List α) {x u : α} (h : lt x u = true) : sput lt x (U ++ [u]) = sput lt x U ++ [u] := by
 induction U with
 | nil => simp [sput, h]
 | cons y r ih => simp only [List.cons_append, sput]; split <;> simp [ih]
end
section
variable {α : Type} [Inhabited α] {lt : α → α → Bool}
end
section
variable {α : Type} {lt : α → α → Bool}
theorem sput_last (U : List α) {x : α} (h : ∀ y ∈ U, lt x y = false) : sput lt x U = U ++ [x] := by
 induction U with
 | nil => rfl
 | cons y r ih => rw [sput, if_neg (by simp [h y (by simp)]), ih (fun z hz => h z (by simp [hz]))]; rfl
end
section
variable {α : Type} [Inhabited α] {lt : α → α → Bool}
theorem insInner_is (hw : WO lt) (a : Nat) : ∀ (n j : Nat) (d : Array α) (P U S : List α) (x : α), d.toList = P ++ U ++ x :: S → P.length = a → U.length = n → a + n = j → Rising lt U → (insInner lt a j d).toList = P ++ sput lt x U ++ S
 | 0, j, d, P, U, S, x, h, ha, hU, hj, hR => by
  obtain rfl := List.length_eq_zero_iff.1 hU
  cases j with
  | zero => unfold insInner; rw [h]; simp [sput]
  | succ j => unfold insInner; rw [if_neg (by simp; intro; omega), h]; simp [sput]
 | n + 1, 0, d, P, U, S, x, h, ha, hU, hj, hR => by omega
 | n + 1, j + 1, d, P, U, S, x, h, ha, hU, hj, hR => by
  obtain ⟨Z, z, rfl⟩ : ∃ Z' z, U = Z' ++ [z] := ⟨U.dropLast, U.getLast (by intro e; subst e; simp at hU), (List.dropLast_concat_getLast _).symm⟩
  simp at hU
  have e1 : d[j + 1]! = x := at_mid h (by simp; omega)
  have e2 : d[j]! = z := at_mid (P := P ++ Z) (S := x :: S) (by rw [h]; simp) (by simp; omega)
  have hR' := List.pairwise_append.1 hR
  unfold insInner
  rw [e1, e2]
  by_cases hl : lt x z = true
  ·rw [if_pos (by simp [hl]; omega)]
   have hs := swp_at' (d := d) (P := P ++ Z) (M := []) (S := S) (x := z) (y := x) (by rw [h]; simp) (i := j) (j := j + 1) (by simp; omega) (by simp; omega)
   rw [insInner_is hw a n j (swp d (j + 1) j) P Z (z :: S) x (by rw [hs]; simp) ha hU (by omega) hR'.1, sput_snoc_lt Z hl]; simp
  ·have hl' : lt x z = false := by simpa using hl
   rw [if_neg (by simp [hl']), h, sput_last _ (fun y hy => by
    rcases List.mem_append.1 hy with hy | hy
    ·exact hw.nt hl' (hR'.2.2 y hy z (by simp))
    ·rw [List.mem_singleton.1 hy]; exact hl')]
   simp
theorem insOuter_is (hw : WO lt) (a b : Nat) : ∀ (n i : Nat) (d : Array α) (P U X S : List α), d.toList = P ++ U ++ X ++ S → P.length = a → X.length = n → a + U.length = i → i + n = b → Rising lt U → (insOuter lt a b i d).toList = P ++ X.foldl (fun o x => sput lt x o) U ++ S
 | 0, i, d, P, U, X, S, h, ha, hX, hi, hb, hR => by
  obtain rfl := List.length_eq_zero_iff.1 hX
  unfold insOuter; rw [if_neg (by omega), h]; simp
 | n + 1, i, d, P, U, x :: X, S, h, ha, hX, hi, hb, hR => by
  unfold insOuter; rw [if_pos (by omega)]
  have e := insInner_is hw a U.length i d P U (X ++ S) x (by rw [h]; simp) ha rfl hi hR
  rw [insOuter_is hw a b n (i + 1) _ P (sput lt x U) X S (by rw [e]; simp) ha (by simpa using hX) (by rw [sput_len]; omega) (by omega) (rising_sput hw x hR)]
  rfl
theorem insertionSort_is (hw : WO lt) {a b : Nat} {d : Array α} {P X S : List α} (h : d.toList = P ++ X ++ S) (ha : P.length = a) (hb : a + X.length = b) : (insertionSort lt d a b).toList = P ++ ssort lt X ++ S := by
 unfold insertionSort
 cases X with
 | nil => unfold insOuter; rw [if_neg (by simp at hb; omega), h]; rfl
 | cons x X =>
  rw [insOuter_is hw a b X.length (a + 1) d P [x] X S (by rw [h]; simp) ha rfl (by simp) (by simp at hb; omega) (List.pairwise_singleton _ _)]
  rfl
/-! ### blocks -/
def chs (lt : α → α → Bool) (k : Nat) : Nat → List α → List α
 | 0, L => L
 | f + 1, L => if L.length < k then ssort lt L else ssort lt (L.take k) ++ chs lt k f (L.drop k)
end
section
variable {α : Type} {lt : α → α → Bool}
end
section
variable {α : Type} [Inhabited α] {lt : α → α → Bool}
end
section
variable {α : Type} {lt : α → α → Bool}
end
section
variable {α : Type} [Inhabited α] {lt : α → α → Bool}
theorem insB_is (hw : WO lt) (n : Nat) : ∀ (f a : Nat) (d : Array α) (P L : List α), d.toList = P ++ L → P.length = a → a + L.length = n → L.length < f → (insB lt n f a d).toList = P ++ chs lt 20 f L
 | 0, a, d, P, L, h, ha, hn, hf => by omega
 | f + 1, a, d, P, L, h, ha, hn, hf => by
  unfold insB chs
  by_cases hc : a + 20 ≤ n
  ·have e := List.take_append_drop 20 L
   have l1 : (L.take 20).length = 20 := by simp; omega
   have l2 : (L.drop 20).length = L.length - 20 := by simp
   have h1 := insertionSort_is hw (d := d) (P := P) (X := L.take 20) (S := L.drop 20) (by rw [h, List.append_assoc, e]) ha (b := a + 20) (by omega)
   rw [if_pos hc, if_neg (by omega), insB_is hw n f (a + 20) _ (P ++ ssort lt (L.take 20)) (L.drop 20) (by rw [h1]) (by simp [ssort_len]; omega) (by omega) (by omega)]
   simp
  ·have h1 := insertionSort_is hw (d := d) (P := P) (X := L) (S := []) (by rw [h]; simp) ha (b := n) (by omega)
   rw [if_neg hc, if_pos (by omega), h1]; simp
theorem mrgB_is (hw : WO lt) (n k : Nat) (hk : 0 < k) : ∀ (f g a : Nat) (d : Array α) (P L : List α), d.toList = P ++ chs lt k g L → P.length = a → a + L.length = n → L.length < f → L.length < g → (mrgB lt n k f a d).toList = P ++ chs lt (2 * k) f L
 | 0, g, a, d, P, L, h, ha, hn, hf, hg => by omega
 | f + 1, 0, a, d, P, L, h, ha, hn, hf, hg => by omega
 | f + 1, g + 1, a, d, P, L, h, ha, hn, hf, hg => by
  unfold mrgB
  rw [chs] at h ⊢
  by_cases hc : a + 2 * k ≤ n
  ·rw [if_pos hc, if_neg (by omega)]
   rw [if_neg (by omega)] at h
   cases g with
   | zero => omega
   | succ g =>
    rw [chs, if_neg (by simp; omega)] at h
    have l1 : (ssort lt (L.take k)).length = k := by rw [ssort_len]; simp; omega
    have l2 : (ssort lt ((L.drop k).take k)).length = k := by rw [ssort_len]; simp; omega
    have h1 := symM_is hw (2 * k) a (a + k) (a + 2 * k) d P _ _ (chs lt k g ((L.drop k).drop k)) (by rw [h]; simp) ha (by omega) (by omega) (by omega) (by omega) (by omega) (rising_ssort hw (L.take k)) (rising_ssort hw ((L.drop k).take k))
    rw [← ssort_append hw] at h1
    have e : L.take k ++ (L.drop k).take k = L.take (2 * k) := by
     rw [show 2 * k = k + k by omega, List.take_add]
    rw [e, List.drop_drop, show k + k = 2 * k by omega] at h1
    rw [mrgB_is hw n k hk f g (a + 2 * k) _ (P ++ ssort lt (L.take (2 * k))) (L.drop (2 * k)) (by rw [h1]) (by simp [ssort_len]; omega) (by simp; omega) (by simp; omega) (by simp; omega)]
    simp
  ·rw [if_neg hc, if_pos (show L.length < 2 * k by omega)]
   by_cases hd : a + k < n
   ·rw [if_pos hd]
    rw [if_neg (by omega)] at h
    cases g with
    | zero => omega
    | succ g =>
     rw [chs, if_pos (by simp; omega)] at h
     have l1 : (ssort lt (L.take k)).length = k := by rw [ssort_len]; simp; omega
     have l2 : (ssort lt (L.drop k)).length = L.length - k := by rw [ssort_len]; simp
     rw [symM_is hw (2 * k) a (a + k) n d P _ _ [] (by rw [h]; simp) ha (by omega) (by omega) (by omega) hd (by omega) (rising_ssort hw (L.take k)) (rising_ssort hw (L.drop k)), ← ssort_append hw, List.take_append_drop]
     simp
   ·rw [if_neg hd, h]
    split
    ·rfl
    ·have e : L.length = k := by omega
     rw [List.take_of_length_le (by omega), List.drop_of_length_le (by omega)]
     cases g with
     | zero => simp [chs]
     | succ g => rw [chs]; split <;> simp_all [ssort]
end
section
variable {α : Type} {lt : α → α → Bool}
theorem chs_all (k : Nat) : ∀ (f : Nat) (L : List α), L.length ≤ k → L.length < f → 0 < k → chs lt k f L = ssort lt L
 | 0, L, _, h, _ => by omega
 | f + 1, L, h1, h2, h3 => by
  unfold chs; split
  ·rfl
  ·rw [List.take_of_length_le (by omega), List.drop_of_length_le (by omega)]
   cases f with
   | zero => simp [chs]
   | succ g => rw [chs]; simp [h3, ssort]
end
section
variable {α : Type} [Inhabited α] {lt : α → α → Bool}
theorem passA_is (hw : WO lt) (n : Nat) (L : List α) (hn : L.length = n) : ∀ (f k : Nat) (d : Array α), d.toList = chs lt k (n + 1) L → 0 < k → n ≤ k * 2 ^ f → (passA lt n f k d).toList = ssort lt L
 | 0, k, d, h, hk, hf => by
  unfold passA; rw [h, chs_all k _ L (by simp at hf; omega) (by omega) hk]
 | f + 1, k, d, h, hk, hf => by
  unfold passA; split
  ·have h1 := mrgB_is hw n k hk (n + 1) (n + 1) 0 d [] L (by rw [h]; rfl) rfl (by omega) (by omega) (by omega)
   exact passA_is hw n L hn f (2 * k) _ (by rw [h1]; rfl) (by omega) (by rw [Nat.pow_succ] at hf; rw [Nat.mul_comm 2 k, Nat.mul_assoc, Nat.mul_comm 2]; exact hf)
  ·rw [h, chs_all k _ L (by omega) (by omega) hk]
/-- THE STABLE SORT: as they stand -/
theorem stableA_is (hw : WO lt) (d : Array α) : (stableA lt d).toList = ssort lt d.toList := by
 unfold stableA
 refine passA_is hw d.size d.toList (by simp) _ 20 _ ?_ (by omega) ?_
 ·have := insB_is hw d.size (d.size + 1) 0 d [] d.toList rfl rfl (by simp) (by simp)
  rw [this]; rfl
 ·have : d.size + 1 ≤ 2 ^ (d.size + 1) := Nat.le_of_lt Nat.lt_two_pow_self
  omega
end
end Go.Proofs.YtnplgagaoeckoaaGreat
namespace Go.Proofs.YtnplgagaoeckoaaGreat
open Go.RowKit
def setManyP (xs : List Value) (k : Nat) : List Value → List Value
 | [] => xs
 | u :: us => setManyP (xs.set k u) (k + 1) us
theorem setManyP_get (us : List Value) : ∀ (xs : List Value) (k j : Nat), k + us.length ≤ xs.length → (setManyP xs k us)[j]? = if k ≤ j ∧ j < k + us.length then us[j - k]? else xs[j]? := by
 induction us with
 | nil => intro xs k j _; unfold setManyP; rw [if_neg (by simp only [List.length_nil]; omega)]
 | cons u us ih =>
  intro xs k j h
  simp only [List.length_cons] at h ⊢
  unfold setManyP
  rw [ih _ _ _ (by simp; omega)]
  by_cases h1 : k + 1 ≤ j ∧ j < k + 1 + us.length
  ·rw [if_pos h1, if_pos (by omega), show j - k = (j - (k + 1)) + 1 from by omega, List.getElem?_cons_succ]
  ·rw [if_neg h1]
   by_cases h2 : j = k
   ·subst h2; rw [if_pos (by omega), List.getElem?_set_self (by omega)]; simp
   ·rw [if_neg (by omega), List.getElem?_set_ne (fun e => h2 e.symm)]
theorem pe_set (l : List Pe) (i : Nat) (x : Pe) (hi : i < l.length) : (l.set i x).flatMap peV = setManyP (l.flatMap peV) (i * 10) (peV x) := by
 apply List.ext_getElem?
 intro j
 have hle : i * 10 + 10 ≤ l.length * 10 := by omega
 rw [setManyP_get _ _ _ _ (by rw [peV_len, pes_len]; exact hle), peV_len]
 have hj : j = (j / 10) * 10 + j % 10 := by omega
 have hm : j % 10 < 10 := Nat.mod_lt _ (by omega)
 by_cases h1 : i * 10 ≤ j ∧ j < i * 10 + 10
 ·rw [if_pos h1]
  have hq : j / 10 = i := by omega
  rw [hq] at hj
  conv => lhs; rw [hj]
  rw [flat_get peV 10 peV_len (l.set i x) i x (by simp [hi]) _ hm]
  congr 1; omega
 ·rw [if_neg h1]
  have hq : j / 10 ≠ i := by omega
  rcases Nat.lt_or_ge (j / 10) l.length with hl | hl
  ·conv => lhs; rw [hj]
   conv => rhs; rw [hj]
   rw [flat_get peV 10 peV_len (l.set i x) (j / 10) (l[j / 10]'hl) (by rw [List.getElem?_set_ne (fun e => hq e.symm)]; exact List.getElem?_eq_getElem hl) _ hm, flat_get peV 10 peV_len l (j / 10) _ (List.getElem?_eq_getElem hl) _ hm]
  ·have hge : l.length * 10 ≤ j := by omega
   rw [List.getElem?_eq_none (by rw [pes_len]; simpa using hge), List.getElem?_eq_none (by rw [pes_len]; exact hge)]
theorem own_setP {w : World} {base g n cap : Nat} {e : TypeId} {l : List Pe} (h : w.ownsRow base e 10 (.slice (some ⟨g, 0, none⟩) n cap) n (l.flatMap peV)) (i : Nat) (p : Pe) (hi : i < l.length) :
  ((((((((((w.setCell ⟨g, i * 10, none⟩ (.bool p.en.ad.v6)).setCell ⟨g, i * 10 + 1, none⟩ (.int .u64 p.en.ad.hi)).setCell ⟨g, i * 10 + 2, none⟩ (.int .u64 p.en.ad.lo)).setCell ⟨g, i * 10 + 3, none⟩ (.int .i64 p.en.port)).setCell ⟨g, i * 10 + 4, none⟩ (.bool p.came)).setCell ⟨g, i * 10 + 5, none⟩ (.int .i64 p.since)).setCell ⟨g, i * 10 + 6, none⟩ (.int .i64 p.pts)).setCell ⟨g, i * 10 + 7, none⟩ (.int .i64 p.at_)).setCell ⟨g, i * 10 + 8, none⟩ (.int .i64 p.ping)).setCell ⟨g, i * 10 + 9, none⟩ (.int .i64 p.work)).ownsRow base e 10 (.slice (some ⟨g, 0, none⟩) n cap) n ((l.set i p).flatMap peV) ∧
  w.grownBy ((((((((((w.setCell ⟨g, i * 10, none⟩ (.bool p.en.ad.v6)).setCell ⟨g, i * 10 + 1, none⟩ (.int .u64 p.en.ad.hi)).setCell ⟨g, i * 10 + 2, none⟩ (.int .u64 p.en.ad.lo)).setCell ⟨g, i * 10 + 3, none⟩ (.int .i64 p.en.port)).setCell ⟨g, i * 10 + 4, none⟩ (.bool p.came)).setCell ⟨g, i * 10 + 5, none⟩ (.int .i64 p.since)).setCell ⟨g, i * 10 + 6, none⟩ (.int .i64 p.pts)).setCell ⟨g, i * 10 + 7, none⟩ (.int .i64 p.at_)).setCell ⟨g, i * 10 + 8, none⟩ (.int .i64 p.ping)).setCell ⟨g, i * 10 + 9, none⟩ (.int .i64 p.work)) (some g) := by
 rw [pe_set l i p hi]
 obtain ⟨h0, g0⟩ := h.stored (i * 10) (.bool p.en.ad.v6)
 obtain ⟨h1, g1⟩ := h0.stored (i * 10 + 1) (.int .u64 p.en.ad.hi)
 obtain ⟨h2, g2⟩ := h1.stored (i * 10 + 2) (.int .u64 p.en.ad.lo)
 obtain ⟨h3, g3⟩ := h2.stored (i * 10 + 3) (.int .i64 p.en.port)
 obtain ⟨h4, g4⟩ := h3.stored (i * 10 + 4) (.bool p.came)
 obtain ⟨h5, g5⟩ := h4.stored (i * 10 + 5) (.int .i64 p.since)
 obtain ⟨h6, g6⟩ := h5.stored (i * 10 + 6) (.int .i64 p.pts)
 obtain ⟨h7, g7⟩ := h6.stored (i * 10 + 7) (.int .i64 p.at_)
 obtain ⟨h8, g8⟩ := h7.stored (i * 10 + 8) (.int .i64 p.ping)
 obtain ⟨h9, g9⟩ := h8.stored (i * 10 + 9) (.int .i64 p.work)
 exact ⟨h9, (((((((((g0.trans g1).trans g2).trans g3).trans g4).trans g5).trans g6).trans g7).trans g8).trans g9)⟩
theorem own_pe {w : World} {base g n cap : Nat} {e : TypeId} {l : List Pe} (h : w.ownsRow base e 10 (.slice (some ⟨g, 0, none⟩) n cap) n (l.flatMap peV)) {i : Nat} {x : Pe} (hx : l[i]? = some x) : PeIn w g (i * 10) x := by
 have hn : n * 10 = l.length * 10 := by rw [← h.1, pes_len]
 have hi := (List.getElem?_eq_some_iff.1 hx).1
 have c := fun (j : Nat) (u : Value) (hj : j < 10) (hu : (peV x)[j]? = some u) => (h.cellAt (i * 10 + j) (by omega)).trans ((flat_get peV 10 peV_len l i x hx j hj).trans hu)
 exact ⟨c 0 _ (by omega) rfl, c 1 _ (by omega) rfl, c 2 _ (by omega) rfl, c 3 _ (by omega) rfl, c 4 _ (by omega) rfl, c 5 _ (by omega) rfl, c 6 _ (by omega) rfl, c 7 _ (by omega) rfl, c 8 _ (by omega) rfl, c 9 _ (by omega) rfl⟩
theorem own_blk {w : World} {base g n cap : Nat} {e : TypeId} {size : Nat} {xs : List Value} (h : w.ownsRow base e size (.slice (some ⟨g, 0, none⟩) n cap) n xs) : ∃ arr, BlockIs w g arr e := by
 rcases h.2 with ⟨h1, _⟩ | ⟨g', cap', cur, h1, _, hh, _⟩
 ·cases h1
 ·injection h1 with e1 _ _
  injection e1 with e1
  injection e1 with e1
  subst e1
  exact ⟨cur.toList, by unfold BlockIs; rw [hh]⟩
theorem blk_far {w w' : World} {B g : Nat} {arr : List Value} {T : TypeId} (h : BlockIs w B arr T) (hg : w.grownBy w' (some g)) (hne : B ≠ g) : BlockIs w' B arr T := by
 unfold BlockIs at *
 rw [hg.block B (BlockIs.lt (show BlockIs w B arr T from h)) (fun e => hne (by injection e))]; exact h
theorem below_far {w0 w w' : World} {base g : Nat} (h : Below base w0 w) (hg : w.grownBy w' (some g)) (hb : base ≤ g) (hl : g < w.heap.size) : Below base w0 w' :=
 ⟨hg.os.trans h.os, hg.tape.trans h.tape, hg.output.trans h.output, Nat.le_trans h.size hg.size, fun k hk => by
  rw [hg.block k (by omega) (fun e => by injection e with e; omega)]; exact h.block k hk⟩
end Go.Proofs.YtnplgagaoeckoaaGreat
