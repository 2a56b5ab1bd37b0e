/- Texts put together: PlSort, PlSortB, PlRank, PlTurn, PlShield, PlShieldB, PlEvict. No condition. -/
import Derived.Sort.Defs
/- The stable sort, plain: its steps on an array, and what they come to. No condition. -/
namespace Go.Proofs.Ytppmjbnhghaffaa
open Go.Sort

section
variable {α : Type}
/-- one more, ahead of the first that it stands ahead of -/
def sput (lt : α → α → Bool) (x : α) : List α → List α
  | [] => [x]
  | y :: r => if lt x y then x :: y :: r else y :: sput lt x r
/-- as they stand: one by one -/
def ssort (lt : α → α → Bool) (l : List α) : List α := l.foldl (fun o x => sput lt x o) []
def smrg (lt : α → α → Bool) : List α → List α → List α
  | [], B => B
  | A, [] => A
  | x :: A, y :: B => if lt y x then y :: smrg lt (x :: A) B else x :: smrg lt A (y :: B)
termination_by A B => A.length + B.length
/-- a weak order -/
structure WO (lt : α → α → Bool) : Prop where
  tr : ∀ {a b c}, lt a b = true → lt b c = true → lt a c = true
  nt : ∀ {a b c}, lt a b = false → lt b c = false → lt a c = false
  as : ∀ {a b}, lt a b = true → lt b a = false
def Rising (lt : α → α → Bool) (l : List α) : Prop := l.Pairwise (fun x y => lt y x = false)
variable {lt : α → α → Bool}
theorem smrg_nil (A : List α) : smrg lt A [] = A := by cases A <;> simp [smrg]
theorem smrg_nil' (B : List α) : smrg lt [] B = B := by simp [smrg]
theorem smrg_cons (x y : α) (A B : List α) : smrg lt (x :: A) (y :: B) = if lt y x then y :: smrg lt (x :: A) B else x :: smrg lt A (y :: B) := by rw [smrg]
theorem sput_mem {x y : α} {l : List α} : y ∈ sput lt x l ↔ y = x ∨ y ∈ l := by
  induction l with
  | nil => simp [sput]
  | cons z r ih =>
    unfold sput; split
    · simp
    · simp [ih]; constructor
      · rintro (h | h | h) <;> simp [h]
      · rintro (h | h | h) <;> simp [h]
theorem sput_len (x : α) (l : List α) : (sput lt x l).length = l.length + 1 := by
  induction l with
  | nil => rfl
  | cons z r ih => unfold sput; split <;> simp [ih]
theorem WO.lt_of (h : WO lt) {a b c : α} (h1 : lt a b = true) (h2 : lt c b = false) : lt a c = true := by
  cases h3 : lt a c with
  | true => rfl
  | false => have := h.nt h3 h2; rw [h1] at this; cases this
theorem WO.lt_of' (h : WO lt) {a b c : α} (h1 : lt a b = true) (h2 : lt a c = false) : lt c b = true := by
  cases h3 : lt c b with
  | true => rfl
  | false => have := h.nt h2 h3; rw [h1] at this; cases this
theorem rising_sput (h : WO lt) (x : α) {l : List α} (hl : Rising lt l) : Rising lt (sput lt x l) := by
  induction l with
  | nil => simp [sput, Rising]
  | cons y r ih =>
    have h1 := List.pairwise_cons.1 hl
    unfold sput; split
    next hxy =>
      refine List.pairwise_cons.2 ⟨fun z hz => ?_, hl⟩
      rcases List.mem_cons.1 hz with rfl | hz
      · exact h.as hxy
      · exact h.as (h.lt_of hxy (h1.1 z hz))
    next hxy =>
      refine List.pairwise_cons.2 ⟨fun z hz => ?_, ih h1.2⟩
      rcases sput_mem.1 hz with rfl | hz
      · simpa using hxy
      · exact h1.1 z hz
theorem ssort_snoc (l : List α) (x : α) : ssort lt (l ++ [x]) = sput lt x (ssort lt l) := by simp [ssort]
theorem rising_ssort (h : WO lt) (l : List α) : Rising lt (ssort lt l) := by
  rw [← List.reverse_reverse l]
  induction l.reverse with
  | nil => exact List.Pairwise.nil
  | cons x r ih => rw [List.reverse_cons, ssort_snoc]; exact rising_sput h x ih
theorem ssort_len (l : List α) : (ssort lt l).length = l.length := by
  rw [← List.reverse_reverse l]
  induction l.reverse with
  | nil => rfl
  | cons x r ih => rw [List.reverse_cons, ssort_snoc, sput_len, ih]; simp
theorem sput_smrg (h : WO lt) (y : α) : ∀ (n : Nat) (A B : List α), A.length + B.length ≤ n → sput lt y (smrg lt A B) = smrg lt A (sput lt y B)
  | n, [], B, _ => by simp [smrg_nil']
  | 0, a :: A, B, hn => by simp at hn
  | n + 1, a :: A, [], hn => by
    have ih := fun A B => sput_smrg h y n A B
    rw [smrg_nil]
    show _ = smrg lt (a :: A) [y]
    rw [smrg_cons, smrg_nil]
    unfold sput; split
    · rfl
    · have := ih A [] (by simp at hn ⊢; omega)
      rw [smrg_nil] at this; rw [this]; rfl
  | n + 1, a :: A, b :: B, hn => by
    have ih := fun A B => sput_smrg h y n A B
    simp only [List.length_cons] at hn
    rw [smrg_cons]
    by_cases hba : lt b a = true
    · rw [if_pos hba]
      show _ = smrg lt (a :: A) (if lt y b then y :: b :: B else b :: sput lt y B)
      by_cases hyb : lt y b = true
      · rw [if_pos hyb, smrg_cons, if_pos (h.tr hyb hba), smrg_cons, if_pos hba, sput, if_pos hyb]
      · rw [if_neg hyb, smrg_cons, if_pos hba, sput, if_neg hyb, ih _ _ (by simp; omega)]
    · rw [if_neg hba]
      have hba' : lt b a = false := by simpa using hba
      by_cases hyb : lt y b = true
      · have e1 : sput lt y (b :: B) = y :: b :: B := by rw [sput, if_pos hyb]
        have e2 := ih A (b :: B) (by simp; omega)
        rw [e1] at e2 ⊢
        rw [smrg_cons, sput, e2, smrg_cons, if_neg hba]
      · have hya : lt y a = false := h.nt (by simpa using hyb) hba'
        have e1 : sput lt y (b :: B) = b :: sput lt y B := by rw [sput, if_neg hyb]
        have e2 := ih A (b :: B) (by simp; omega)
        rw [e1] at e2 ⊢
        rw [smrg_cons, if_neg hba, sput, if_neg (by simp [hya]), e2]
theorem ssort_append (h : WO lt) (A B : List α) : ssort lt (A ++ B) = smrg lt (ssort lt A) (ssort lt B) := by
  rw [← List.reverse_reverse B]
  induction B.reverse with
  | nil => simp [smrg_nil, ssort]
  | cons x r ih =>
    rw [List.reverse_cons, ← List.append_assoc, ssort_snoc, ssort_snoc, ih, sput_smrg h x _ _ _ (Nat.le_refl _)]
theorem smrg_len : ∀ (n : Nat) (A B : List α), A.length + B.length ≤ n → (smrg lt A B).length = A.length + B.length
  | n, [], B, _ => by simp [smrg_nil']
  | n, a :: A, [], _ => by simp [smrg_nil]
  | 0, a :: A, b :: B, hn => by simp at hn
  | n + 1, a :: A, b :: B, hn => by
    have ih := fun A B => smrg_len n A B
    simp only [List.length_cons] at hn
    rw [smrg_cons]; split
    · rw [List.length_cons, ih _ _ (by simp; omega)]; simp; omega
    · rw [List.length_cons, ih _ _ (by simp; omega)]; simp; omega
theorem smrg_mem {z : α} : ∀ (n : Nat) (A B : List α), A.length + B.length ≤ n → (z ∈ smrg lt A B ↔ z ∈ A ∨ z ∈ B)
  | n, [], B, _ => by simp [smrg_nil']
  | n, a :: A, [], _ => by simp [smrg_nil]
  | 0, a :: A, b :: B, hn => by simp at hn
  | n + 1, a :: A, b :: B, hn => by
    have ih := fun A B => smrg_mem (z := z) n A B
    simp only [List.length_cons] at hn
    rw [smrg_cons]; split
    · rw [List.mem_cons, ih _ _ (by simp; omega)]; simp only [List.mem_cons]; constructor
      · rintro (h | (h | h) | h) <;> simp [h]
      · rintro ((h | h) | (h | h)) <;> simp [h]
    · rw [List.mem_cons, ih _ _ (by simp; omega)]; simp only [List.mem_cons]; constructor
      · rintro (h | h | h | h) <;> simp [h]
      · rintro ((h | h) | (h | h)) <;> simp [h]
/-- a merge in two parts -/
theorem smrg_split : ∀ (n : Nat) (A1 A2 B1 B2 : List α), A1.length + B1.length ≤ n → (∀ x ∈ A1, ∀ y ∈ B2, lt y x = false) → (∀ x ∈ A2, ∀ y ∈ B1, lt y x = true) → smrg lt (A1 ++ A2) (B1 ++ B2) = smrg lt A1 B1 ++ smrg lt A2 B2
  | n, [], A2, [], B2, _, _, _ => by simp [smrg_nil]
  | n, [], [], b :: B1, B2, hn, h1, h2 => by simp [smrg_nil']
  | 0, [], x :: A2, b :: B1, B2, hn, h1, h2 => by simp at hn
  | 0, a :: A1, A2, B1, B2, hn, h1, h2 => by simp at hn
  | n + 1, [], x :: A2, b :: B1, B2, hn, h1, h2 => by
    have ih := smrg_split n [] (x :: A2) B1 B2 (by simp at hn ⊢; omega) (by simp) (fun x hx y hy => h2 x hx y (by simp [hy]))
    simp only [List.nil_append, smrg_nil'] at ih
    simp only [List.nil_append, List.cons_append, smrg_nil']
    rw [smrg_cons, if_pos (h2 x (by simp) b (by simp)), ih]
  | n + 1, a :: A1, A2, [], [], hn, h1, h2 => by simp [smrg_nil]
  | n + 1, a :: A1, A2, [], y :: B2, hn, h1, h2 => by
    have ih := smrg_split n A1 A2 [] (y :: B2) (by simp at hn ⊢; omega) (fun x hx y hy => h1 x (by simp [hx]) y hy) (by simp)
    simp only [List.nil_append, smrg_nil] at ih
    simp only [List.nil_append, List.cons_append, smrg_nil]
    rw [smrg_cons, if_neg (by simp [h1 a (by simp) y (by simp)]), ih]
  | n + 1, a :: A1, A2, b :: B1, B2, hn, h1, h2 => by
    have ih := fun A1 B1 => smrg_split n A1 A2 B1 B2
    simp only [List.length_cons] at hn
    simp only [List.cons_append]
    rw [smrg_cons, smrg_cons]
    split
    · have := ih (a :: A1) B1 (by simp; omega) h1 (fun x hx y hy => h2 x hx y (by simp [hy]))
      simp only [List.cons_append] at this
      rw [this]; rfl
    · have := ih A1 (b :: B1) (by simp; omega) (fun x hx y hy => h1 x (by simp [hx]) y hy) h2
      simp only [List.cons_append] at this
      rw [this]; rfl
end

section
variable {α : Type} [Inhabited α]
/-! ### the steps on an array -/
def swpR (a b : Nat) : Nat → Nat → Array α → Array α
  | 0, _, d => d
  | n + 1, i, d => swpR a b n (i + 1) (swp d (a + i) (b + i))
def rotA (m : Nat) : Nat → Nat → Nat → Array α → Array α
  | 0, _, _, d => d
  | f + 1, i, j, d => if i = j then swpR (m - i) m i 0 d else if j < i then rotA m f (i - j) j (swpR (m - i) m j 0 d) else rotA m f i (j - i) (swpR (m - i) (m + j - i) i 0 d)
/-- the first place at which p does not hold -/
def bsr (p : Nat → Bool) : Nat → Nat → Nat → Nat
  | 0, i, _ => i
  | f + 1, i, j => if i < j then (if p ((i + j) / 2) then bsr p f ((i + j) / 2 + 1) j else bsr p f i ((i + j) / 2)) else i
def upA : Nat → Nat → Array α → Array α
  | 0, _, d => d
  | n + 1, k, d => upA n (k + 1) (swp d k (k + 1))
def downA : Nat → Nat → Array α → Array α
  | 0, _, d => d
  | n + 1, k, d => downA n (k - 1) (swp d k (k - 1))
variable (lt : α → α → Bool)
def symS0 (a m b : Nat) : Nat := if (a + b) / 2 < m then (a + b) / 2 + m - b else a
def symR0 (a m b : Nat) : Nat := if (a + b) / 2 < m then (a + b) / 2 else m
def symSt (d : Array α) (a m b : Nat) : Nat := bsr (fun c => !lt d[(a + b) / 2 + m - 1 - c]! d[c]!) (b - a) (symS0 a m b) (symR0 a m b)
def symM : Nat → Nat → Nat → Nat → Array α → Array α
  | 0, _, _, _, d => d
  | f + 1, a, m, b, d =>
    if m - a = 1 then upA (bsr (fun h => lt d[h]! d[a]!) (b - a) m b - 1 - a) a d
    else if b - m = 1 then downA (m - bsr (fun h => !lt d[m]! d[h]!) (b - a) a m) m d
    else
      let s := symSt lt d a m b
      let e := (a + b) / 2 + m - s
      let d1 := if s < m ∧ m < e then rotA m (e - s) (m - s) (e - m) d else d
      let d2 := if a < s ∧ s < (a + b) / 2 then symM f a s ((a + b) / 2) d1 else d1
      if (a + b) / 2 < e ∧ e < b then symM f ((a + b) / 2) e b d2 else d2
def insB (n : Nat) : Nat → Nat → Array α → Array α
  | 0, _, d => d
  | f + 1, a, d => if a + 20 ≤ n then insB n f (a + 20) (insertionSort lt d a (a + 20)) else insertionSort lt d a n
def mrgB (n k : Nat) : Nat → Nat → Array α → Array α
  | 0, _, d => d
  | f + 1, a, d => if a + 2 * k ≤ n then mrgB n k f (a + 2 * k) (symM lt (2 * k) a (a + k) (a + 2 * k) d) else if a + k < n then symM lt (2 * k) a (a + k) n d else d
def passA (n : Nat) : Nat → Nat → Array α → Array α
  | 0, _, d => d
  | f + 1, k, d => if k < n then passA n f (2 * k) (mrgB lt n k (n + 1) 0 d) else d
def stableA (d : Array α) : Array α := passA lt d.size (d.size + 1) 20 (insB lt d.size (d.size + 1) 0 d)
end
end Go.Proofs.Ytppmjbnhghaffaa
/- The stable sort, plain: what its steps on an array come to. No condition. -/
namespace Go.Proofs.Ytppmjbnhghaffaa
open Go.Sort

section
variable {α : Type} [Inhabited α]
theorem arr_get (d : Array α) (i : Nat) : d[i]! = d.toList[i]?.getD default := by
  simp [getElem!_def, Array.getD_eq_getD_getElem?]
  cases d[i]? <;> rfl
theorem at_mid {d : Array α} {P S : List α} {x : α} (h : d.toList = P ++ x :: S) {i : Nat} (hi : i = P.length) : d[i]! = x := by
  subst hi; rw [arr_get, h]; simp
end
section
variable {α : Type} {lt : α → α → Bool}
theorem set_mid {P S : List α} {x y : α} {i : Nat} (hi : i = P.length) : (P ++ x :: S).set i y = P ++ y :: S := by
  subst hi; simp
end
section
variable {α : Type} [Inhabited α]
theorem swp_at {d : Array α} {P M S : List α} {x y : α} (h : d.toList = P ++ x :: (M ++ y :: S)) {i j : Nat} (hi : i = P.length) (hj : j = P.length + 1 + M.length) : (swp d i j).toList = P ++ y :: (M ++ x :: S) := by
  have e1 : d[i]! = x := at_mid h hi
  have e2 : d[j]! = y := at_mid (P := P ++ x :: M) (S := S) (by rw [h]; simp) (by simp; omega)
  unfold swp
  rw [e1, e2, Array.toList_setIfInBounds, Array.toList_setIfInBounds, h, set_mid hi, show P ++ y :: (M ++ y :: S) = (P ++ y :: M) ++ y :: S by simp, set_mid (by simp; omega)]
  simp
theorem swp_at' {d : Array α} {P M S : List α} {x y : α} (h : d.toList = P ++ x :: (M ++ y :: S)) {i j : Nat} (hi : i = P.length) (hj : j = P.length + 1 + M.length) : (swp d j i).toList = P ++ y :: (M ++ x :: S) := by
  have e1 : d[i]! = x := at_mid h hi
  have e2 : d[j]! = y := at_mid (P := P ++ x :: M) (S := S) (by rw [h]; simp) (by simp; omega)
  unfold swp
  rw [e1, e2, Array.toList_setIfInBounds, Array.toList_setIfInBounds, h, show P ++ x :: (M ++ y :: S) = (P ++ x :: M) ++ y :: S by simp, set_mid (by simp; omega), show (P ++ x :: M) ++ x :: S = P ++ x :: (M ++ x :: S) by simp, set_mid hi]
theorem swpR_is {a b : Nat} : ∀ (n i : Nat) (d : Array α) (P X M Y S : List α), d.toList = P ++ X ++ M ++ Y ++ S → X.length = n → Y.length = n → P.length = a + i → P.length + n + M.length = b + i →
    (swpR a b n i d).toList = P ++ Y ++ M ++ X ++ S
  | 0, i, d, P, X, M, Y, S, h, hX, hY, h1, h2 => by
    obtain rfl := List.length_eq_zero_iff.1 hX
    obtain rfl := List.length_eq_zero_iff.1 hY
    exact h
  | n + 1, i, d, P, x :: X, M, y :: Y, S, h, hX, hY, h1, h2 => by
    have hs := swp_at (d := d) (P := P) (M := X ++ M) (S := Y ++ S) (x := x) (y := y) (by rw [h]; simp) (i := a + i) (j := b + i) (by omega) (by simp at hX ⊢; omega)
    have := swpR_is (a := a) (b := b) n (i + 1) (swp d (a + i) (b + i)) (P ++ [y]) X (M ++ [x]) Y S (by rw [hs]; simp) (by simpa using hX) (by simpa using hY) (by simp; omega) (by simp; omega)
    unfold swpR; rw [this]; simp
theorem rotA_is {m : Nat} : ∀ (f i j : Nat) (d : Array α) (P X Y S : List α), d.toList = P ++ X ++ Y ++ S → X.length = i → Y.length = j → 0 < i → 0 < j → m = P.length + i → i + j ≤ f + 1 →
    (rotA m f i j d).toList = P ++ Y ++ X ++ S
  | 0, i, j, d, P, X, Y, S, h, hX, hY, hi, hj, hm, hf => by omega
  | f + 1, i, j, d, P, X, Y, S, h, hX, hY, hi, hj, hm, hf => by
    unfold rotA
    by_cases hij : i = j
    · rw [if_pos hij]
      have := swpR_is (a := m - i) (b := m) i 0 d P X [] Y S (by rw [h]; simp) hX (by omega) (by omega) (by simp; omega)
      rw [this]; simp
    · rw [if_neg hij]
      by_cases hji : j < i
      · rw [if_pos hji]
        have e := List.take_append_drop j X
        have l1 : (X.take j).length = j := by simp; omega
        have l2 : (X.drop j).length = i - j := by simp; omega
        generalize X.take j = X1 at *
        generalize X.drop j = X2 at *
        subst e
        have h1 := swpR_is (a := m - i) (b := m) j 0 d P X1 X2 Y S (by rw [h]; simp) l1 hY (by omega) (by omega)
        have := rotA_is (m := m) f (i - j) j (swpR (m - i) m j 0 d) (P ++ Y) X2 X1 S (by rw [h1]) l2 l1 (by omega) hj (by simp; omega) (by omega)
        rw [this]; simp
      · rw [if_neg hji]
        have e := List.take_append_drop (j - i) Y
        have l1 : (Y.take (j - i)).length = j - i := by simp; omega
        have l2 : (Y.drop (j - i)).length = i := by simp; omega
        generalize Y.take (j - i) = Y1 at *
        generalize Y.drop (j - i) = Y2 at *
        subst e
        have h1 := swpR_is (a := m - i) (b := m + j - i) i 0 d P X Y1 Y2 S (by rw [h]; simp) hX l2 (by omega) (by omega)
        have := rotA_is (m := m) f i (j - i) (swpR (m - i) (m + j - i) i 0 d) P Y2 Y1 (X ++ S) (by rw [h1]; simp) l2 l1 hi (by omega) (by omega) (by omega)
        rw [this]; simp
theorem bsr_is (p : Nat → Bool) : ∀ (f i j : Nat), i ≤ j → j - i ≤ f → (∀ x y, i ≤ x → x ≤ y → y < j → p y = true → p x = true) →
    i ≤ bsr p f i j ∧ bsr p f i j ≤ j ∧ (∀ x, i ≤ x → x < bsr p f i j → p x = true) ∧ (∀ x, bsr p f i j ≤ x → x < j → p x = false)
  | 0, i, j, hij, hf, hp => by
    unfold bsr
    exact ⟨Nat.le_refl _, hij, fun x h1 h2 => by omega, fun x h1 h2 => by omega⟩
  | f + 1, i, j, hij, hf, hp => by
    unfold bsr
    by_cases h : i < j
    · rw [if_pos h]
      by_cases hq : p ((i + j) / 2) = true
      · rw [if_pos hq]
        obtain ⟨a1, a2, a3, a4⟩ := bsr_is p f ((i + j) / 2 + 1) j (by omega) (by omega) (fun x y h1 h2 h3 => hp x y (by omega) h2 h3)
        refine ⟨by omega, a2, fun x h1 h2 => ?_, a4⟩
        by_cases hx : x ≤ (i + j) / 2
        · exact hp x _ h1 hx (by omega) hq
        · exact a3 x (by omega) h2
      · rw [if_neg hq]
        obtain ⟨a1, a2, a3, a4⟩ := bsr_is p f i ((i + j) / 2) (by omega) (by omega) (fun x y h1 h2 h3 => hp x y h1 h2 (by omega))
        refine ⟨a1, by omega, a3, fun x h1 h2 => ?_⟩
        by_cases hx : x < (i + j) / 2
        · exact a4 x h1 hx
        · cases hpx : p x with
          | false => rfl
          | true => exact absurd (hp _ x (by omega) (by omega) h2 hpx) hq
    · rw [if_neg h]
      exact ⟨Nat.le_refl _, hij, fun x h1 h2 => by omega, fun x h1 h2 => by omega⟩
theorem upA_is : ∀ (n k : Nat) (d : Array α) (P Z S : List α) (x : α), d.toList = P ++ x :: (Z ++ S) → P.length = k → Z.length = n → (upA n k d).toList = P ++ Z ++ x :: S
  | 0, k, d, P, Z, S, x, h, h1, h2 => by
    obtain rfl := List.length_eq_zero_iff.1 h2
    unfold upA; rw [h]; simp
  | n + 1, k, d, P, z :: Z, S, x, h, h1, h2 => by
    have hs := swp_at (d := d) (P := P) (M := []) (S := Z ++ S) (x := x) (y := z) (by rw [h]; simp) (i := k) (j := k + 1) (by omega) (by simp; omega)
    have := upA_is n (k + 1) (swp d k (k + 1)) (P ++ [z]) Z S x (by rw [hs]; simp) (by simp; omega) (by simpa using h2)
    unfold upA; rw [this]; simp
theorem downA_is : ∀ (n k : Nat) (d : Array α) (P Z S : List α) (x : α), d.toList = P ++ Z ++ x :: S → P.length + n = k → Z.length = n → (downA n k d).toList = P ++ x :: (Z ++ S)
  | 0, k, d, P, Z, S, x, h, h1, h2 => by
    obtain rfl := List.length_eq_zero_iff.1 h2
    unfold downA; rw [h]; simp
  | n + 1, k, d, P, Z, S, x, h, h1, h2 => by
    obtain ⟨Z', z, rfl⟩ : ∃ Z' z, Z = Z' ++ [z] := ⟨Z.dropLast, Z.getLast (by intro e; subst e; simp at h2), (List.dropLast_concat_getLast _).symm⟩
    simp at h2
    have hs := swp_at' (d := d) (P := P ++ Z') (M := []) (S := S) (x := z) (y := x) (by rw [h]; simp) (i := k - 1) (j := k) (by simp; omega) (by simp; omega)
    have := downA_is n (k - 1) (swp d k (k - 1)) P Z' (z :: S) x (by rw [hs]; simp) (by omega) h2
    unfold downA; rw [this]; simp
variable {lt : α → α → Bool}
end
section
variable {α : Type} {lt : α → α → Bool}
theorem WO.irr (h : WO lt) (a : α) : lt a a = false := by
  cases e : lt a a with
  | false => rfl
  | true => have := h.as e; rw [e] at this; cases this
end
section
variable {α : Type} [Inhabited α] {lt : α → α → Bool}
theorem seg_get {d : Array α} {P A S : List α} (h : d.toList = P ++ A ++ S) {c : Nat} (h1 : P.length ≤ c) (h2 : c < P.length + A.length) : A[c - P.length]? = some d[c]! := by
  have e : d.toList[c]? = A[c - P.length]? := by
    rw [h, List.append_assoc, List.getElem?_append_right h1, List.getElem?_append_left (by omega)]
  rw [arr_get, e, List.getElem?_eq_getElem (by omega)]; rfl
theorem seg_mem {d : Array α} {P A S : List α} (h : d.toList = P ++ A ++ S) {x : α} (hx : x ∈ A) : ∃ c, P.length ≤ c ∧ c < P.length + A.length ∧ x = d[c]! := by
  obtain ⟨i, hi, rfl⟩ := List.getElem_of_mem hx
  refine ⟨P.length + i, by omega, by omega, ?_⟩
  have := seg_get h (c := P.length + i) (by omega) (by omega)
  rw [Nat.add_sub_cancel_left, List.getElem?_eq_getElem hi] at this
  exact Option.some.inj this
theorem seg_rising (hw : WO lt) {d : Array α} {P A S : List α} (h : d.toList = P ++ A ++ S) (hA : Rising lt A) {x y : Nat} (h1 : P.length ≤ x) (h2 : x ≤ y) (h3 : y < P.length + A.length) : lt d[y]! d[x]! = false := by
  rcases Nat.lt_or_ge x y with hxy | hxy
  · have e1 := seg_get h h1 (by omega)
    have e2 := seg_get h (c := y) (by omega) h3
    have := List.pairwise_iff_getElem.1 hA (x - P.length) (y - P.length) (by omega) (by omega) (by omega)
    rw [List.getElem?_eq_getElem (by omega)] at e1 e2
    rw [Option.some.inj e1, Option.some.inj e2] at this
    exact this
  · obtain rfl : x = y := by omega
    exact hw.irr _
set_option maxHeartbeats 1600000 in
theorem symM_is (hw : WO lt) : ∀ (f a m b : Nat) (d : Array α) (P A B S : List α), d.toList = P ++ A ++ B ++ S → P.length = a → P.length + A.length = m → P.length + A.length + B.length = b → a < m → m < b → b - a ≤ f → Rising lt A → Rising lt B →
    (symM lt f a m b d).toList = P ++ smrg lt A B ++ S
  | 0, a, m, b, d, P, A, B, S, h, ha, hm, hb, h1, h2, hf, hA, hB => by omega
  | f + 1, a, m, b, d, P, A, B, S, h, ha, hm, hb, h1, h2, hf, hA, hB => by
    have hPA : d.toList = P ++ A ++ (B ++ S) := by rw [h]; simp
    have hPB : d.toList = (P ++ A) ++ B ++ S := h
    have rA := fun {x y : Nat} => seg_rising hw hPA hA (x := x) (y := y)
    have rB := fun {x y : Nat} => seg_rising hw hPB hB (x := x) (y := y)
    simp only [List.length_append] at rB
    unfold symM
    by_cases c1 : m - a = 1
    · rw [if_pos c1]
      have hlA : A.length = 1 := by omega
      obtain ⟨x, rfl⟩ := List.length_eq_one_iff.1 hlA
      have ex : d[a]! = x := at_mid (P := P) (S := B ++ S) (by rw [hPA]; simp) ha.symm
      obtain ⟨b1, b2, b3, b4⟩ := bsr_is (fun h => lt d[h]! d[a]!) (b - a) m b (by omega) (by omega) (fun u v h3 h4 h5 h6 => by
        have := rB (x := u) (y := v) (by omega) h4 (by omega)
        cases e : lt d[u]! d[a]! with
        | true => rfl
        | false => have := hw.nt this e; rw [h6] at this; cases this)
      generalize bsr (fun h => lt d[h]! d[a]!) (b - a) m b = r at *
      have e := List.take_append_drop (r - m) B
      have l1 : (B.take (r - m)).length = r - m := by simp; omega
      generalize hZ : B.take (r - m) = Z at *
      generalize hT : B.drop (r - m) = T at *
      have hz : ∀ y ∈ Z, lt y x = true := fun y hy => by
        obtain ⟨c, hc1, hc2, rfl⟩ := seg_mem (d := d) (P := P ++ [x]) (A := Z) (S := T ++ S) (by rw [h, ← e]; simp) hy
        try simp at hc1 hc2
        have := b3 c (by omega) (by omega)
        rwa [ex] at this
      have ht : ∀ y ∈ T, lt y x = false := fun y hy => by
        obtain ⟨c, hc1, hc2, rfl⟩ := seg_mem (d := d) (P := P ++ [x] ++ Z) (A := T) (S := S) (by rw [h, ← e]; simp) hy
        try simp at hc1 hc2
        have hl : T.length = B.length - (r - m) := by rw [← hT]; simp
        have := b4 c (by omega) (by omega)
        rwa [ex] at this
      rw [upA_is (r - 1 - a) a d P Z (T ++ S) x (by rw [h, ← e]; simp) ha (by omega)]
      have k1 := smrg_split (lt := lt) _ [] [x] Z T (Nat.le_refl _) (by simp) (fun u hu y hy => by rw [List.mem_singleton.1 hu]; exact hz y hy)
      have k2 := smrg_split (lt := lt) _ [x] [] [] T (Nat.le_refl _) (fun u hu y hy => by rw [List.mem_singleton.1 hu]; exact ht y hy) (by simp)
      simp only [List.append_nil, List.nil_append, smrg_nil, smrg_nil'] at k1 k2
      rw [← e, k1, k2]; simp
    · rw [if_neg c1]
      by_cases c2 : b - m = 1
      · rw [if_pos c2]
        have hlB : B.length = 1 := by omega
        obtain ⟨y, rfl⟩ := List.length_eq_one_iff.1 hlB
        have ey : d[m]! = y := at_mid (P := P ++ A) (S := S) (by rw [h]; simp) (by simp; omega)
        obtain ⟨b1, b2, b3, b4⟩ := bsr_is (fun h => !lt d[m]! d[h]!) (b - a) a m (by omega) (by omega) (fun u v h3 h4 h5 h6 => by
          have := rA (x := u) (y := v) (by omega) h4 (by omega)
          simp only [Bool.not_eq_true'] at h6 ⊢
          exact hw.nt h6 this)
        generalize bsr (fun h => !lt d[m]! d[h]!) (b - a) a m = r at *
        have e := List.take_append_drop (r - a) A
        have l1 : (A.take (r - a)).length = r - a := by simp; omega
        have l2 : (A.drop (r - a)).length = m - r := by simp; omega
        generalize hZ : A.take (r - a) = Z at *
        generalize hT : A.drop (r - a) = T at *
        have hz : ∀ x ∈ Z, lt y x = false := fun x hx => by
          obtain ⟨c, hc1, hc2, rfl⟩ := seg_mem (d := d) (P := P) (A := Z) (S := T ++ [y] ++ S) (by rw [h, ← e]; simp) hx
          have := b3 c (by omega) (by omega)
          rw [ey] at this; simpa using this
        have ht : ∀ x ∈ T, lt y x = true := fun x hx => by
          obtain ⟨c, hc1, hc2, rfl⟩ := seg_mem (d := d) (P := P ++ Z) (A := T) (S := [y] ++ S) (by rw [h, ← e]; simp) hx
          try simp at hc1 hc2
          have := b4 c (by omega) (by omega)
          rw [ey] at this; simpa using this
        rw [downA_is (m - r) m d (P ++ Z) T S y (by rw [h, ← e]; simp) (by simp; omega) l2]
        have k1 := smrg_split (lt := lt) _ Z T [] [y] (Nat.le_refl _) (fun u hu v hv => by rw [List.mem_singleton.1 hv]; exact hz u hu) (by simp)
        have k2 := smrg_split (lt := lt) _ [] T [y] [] (Nat.le_refl _) (by simp) (fun u hu v hv => by rw [List.mem_singleton.1 hv]; exact ht u hu)
        simp only [List.append_nil, List.nil_append, smrg_nil, smrg_nil'] at k1 k2
        rw [← e, k1, k2]; simp
      · rw [if_neg c2]
        obtain ⟨mid, hmid⟩ : ∃ mid, mid = (a + b) / 2 := ⟨_, rfl⟩
        have hs0 : symS0 a m b = if mid < m then mid + m - b else a := by unfold symS0; rw [hmid]
        have hr0 : symR0 a m b = if mid < m then mid else m := by unfold symR0; rw [hmid]
        have hst : symSt lt d a m b = bsr (fun c => !lt d[mid + m - 1 - c]! d[c]!) (b - a) (symS0 a m b) (symR0 a m b) := by unfold symSt; rw [hmid]
        simp only [← hmid]
        obtain ⟨s0, hs0'⟩ : ∃ s, s = symS0 a m b := ⟨_, rfl⟩
        obtain ⟨r0, hr0'⟩ : ∃ s, s = symR0 a m b := ⟨_, rfl⟩
        rw [← hs0'] at hs0 hst
        rw [← hr0'] at hr0 hst
        have q1 : a ≤ s0 ∧ s0 ≤ r0 ∧ r0 ≤ m ∧ r0 ≤ mid ∧ mid + m - b ≤ s0 := by
          rw [hs0, hr0]; split <;> omega
        have hmono : ∀ x y, s0 ≤ x → x ≤ y → y < r0 → (!lt d[mid + m - 1 - y]! d[y]!) = true → (!lt d[mid + m - 1 - x]! d[x]!) = true := fun u v h3 h4 h5 h6 => by
          have f1 := rA (x := u) (y := v) (by omega) h4 (by omega)
          have f2 := rB (x := mid + m - 1 - v) (y := mid + m - 1 - u) (by omega) (by omega) (by omega)
          simp only [Bool.not_eq_true'] at h6 ⊢
          exact hw.nt (hw.nt f2 h6) f1
        obtain ⟨b1, b2, b3, b4⟩ := bsr_is (fun c => !lt d[mid + m - 1 - c]! d[c]!) (b - a) s0 r0 q1.2.1 (by omega) hmono
        rw [← hst] at b1 b2 b3 b4
        generalize symSt lt d a m b = s at *
        obtain ⟨e, he⟩ : ∃ e, e = mid + m - s := ⟨_, rfl⟩
        simp only [← he]
        have q2 : m ≤ e ∧ e ≤ b := by omega
        have eA := List.take_append_drop (s - a) A
        have lA1 : (A.take (s - a)).length = s - a := by simp; omega
        have lA2 : (A.drop (s - a)).length = m - s := by simp; omega
        have eB := List.take_append_drop (e - m) B
        have lB1 : (B.take (e - m)).length = e - m := by simp; omega
        have lB2 : (B.drop (e - m)).length = b - e := by simp; omega
        generalize A.take (s - a) = A1 at *
        generalize A.drop (s - a) = A2 at *
        generalize B.take (e - m) = B1 at *
        generalize B.drop (e - m) = B2 at *
        have g1 : ∀ x ∈ A1, ∀ y ∈ B2, lt y x = false := fun x hx y hy => by
          obtain ⟨u, hu1, hu2, rfl⟩ := seg_mem (d := d) (P := P) (A := A1) (S := A2 ++ B ++ S) (by rw [h, ← eA]; simp) hx
          obtain ⟨v, hv1, hv2, rfl⟩ := seg_mem (d := d) (P := P ++ A ++ B1) (A := B2) (S := S) (by rw [h, ← eB]; simp) hy
          simp at hv1 hv2
          have hlt : s0 < s := by
            rcases Nat.lt_or_ge s0 s with hh | hh
            · exact hh
            · exfalso
              have : s = s0 := by omega
              by_cases hc : mid < m
              · rw [if_pos hc] at hs0; omega
              · rw [if_neg hc] at hs0; omega
          have p1 := b3 (s - 1) (by omega) (by omega)
          simp only [Bool.not_eq_true'] at p1
          rw [show mid + m - 1 - (s - 1) = e by omega] at p1
          have f1 := rA (x := u) (y := s - 1) (by omega) (by omega) (by omega)
          have f2 := rB (x := e) (y := v) (by omega) (by omega) (by omega)
          exact hw.nt (hw.nt f2 p1) f1
        have g2 : ∀ x ∈ A2, ∀ y ∈ B1, lt y x = true := fun x hx y hy => by
          obtain ⟨u, hu1, hu2, rfl⟩ := seg_mem (d := d) (P := P ++ A1) (A := A2) (S := B ++ S) (by rw [h, ← eA]; simp) hx
          obtain ⟨v, hv1, hv2, rfl⟩ := seg_mem (d := d) (P := P ++ A) (A := B1) (S := B2 ++ S) (by rw [h, ← eB]; simp) hy
          simp at hv1 hv2 hu1 hu2
          have hlt : s < r0 := by
            rcases Nat.lt_or_ge s r0 with hh | hh
            · exact hh
            · exfalso
              have : s = r0 := by omega
              by_cases hc : mid < m
              · rw [if_pos hc] at hr0; omega
              · rw [if_neg hc] at hr0; omega
          have p1 := b4 s (by omega) hlt
          simp only [Bool.not_eq_false'] at p1
          rw [show mid + m - 1 - s = e - 1 by omega] at p1
          have f1 := rA (x := s) (y := u) (by omega) (by omega) (by omega)
          have f2 := rB (x := v) (y := e - 1) (by omega) (by omega) (by omega)
          exact hw.lt_of (hw.lt_of' p1 f2) f1
        have rA1 : Rising lt A1 := by rw [← eA] at hA; exact (List.pairwise_append.1 hA).1
        have rA2 : Rising lt A2 := by rw [← eA] at hA; exact (List.pairwise_append.1 hA).2.1
        have rB1 : Rising lt B1 := by rw [← eB] at hB; exact (List.pairwise_append.1 hB).1
        have rB2 : Rising lt B2 := by rw [← eB] at hB; exact (List.pairwise_append.1 hB).2.1
        have hd1 : (if s < m ∧ m < e then rotA m (e - s) (m - s) (e - m) d else d).toList = P ++ A1 ++ B1 ++ A2 ++ B2 ++ S := by
          by_cases hc : s < m ∧ m < e
          · rw [if_pos hc, rotA_is (e - s) (m - s) (e - m) d (P ++ A1) A2 B1 (B2 ++ S) (by rw [h, ← eA, ← eB]; simp) lA2 lB1 (by omega) (by omega) (by simp; omega) (by omega)]; simp
          · rw [if_neg hc, h, ← eA, ← eB]
            rcases Nat.lt_or_ge s m with hh | hh
            · obtain rfl := List.length_eq_zero_iff.1 (show B1.length = 0 by omega); simp
            · obtain rfl := List.length_eq_zero_iff.1 (show A2.length = 0 by omega); simp
        generalize (if s < m ∧ m < e then rotA m (e - s) (m - s) (e - m) d else d) = d1 at *
        have hd2 : (if a < s ∧ s < mid then symM lt f a s mid d1 else d1).toList = P ++ smrg lt A1 B1 ++ A2 ++ B2 ++ S := by
          by_cases hc : a < s ∧ s < mid
          · rw [if_pos hc, symM_is hw f a s mid d1 P A1 B1 (A2 ++ B2 ++ S) (by rw [hd1]; simp) ha (by omega) (by omega) hc.1 hc.2 (by omega) rA1 rB1]; simp
          · rw [if_neg hc, hd1]
            rcases Nat.lt_or_ge a s with hh | hh
            · obtain rfl := List.length_eq_zero_iff.1 (show B1.length = 0 by omega); simp [smrg_nil]
            · obtain rfl := List.length_eq_zero_iff.1 (show A1.length = 0 by omega); simp [smrg_nil']
        generalize (if a < s ∧ s < mid then symM lt f a s mid d1 else d1) = d2 at *
        have lm : (smrg lt A1 B1).length = A1.length + B1.length := smrg_len _ _ _ (Nat.le_refl _)
        rw [← eA, ← eB, smrg_split _ A1 A2 B1 B2 (Nat.le_refl _) g1 g2]
        by_cases hc : mid < e ∧ e < b
        · rw [if_pos hc, symM_is hw f mid e b d2 (P ++ smrg lt A1 B1) A2 B2 S (by rw [hd2]) (by simp; omega) (by simp; omega) (by simp; omega) hc.1 hc.2 (by omega) rA2 rB2]; simp
        · rw [if_neg hc, hd2]
          rcases Nat.lt_or_ge mid e with hh | hh
          · obtain rfl := List.length_eq_zero_iff.1 (show B2.length = 0 by omega); simp [smrg_nil]
          · obtain rfl := List.length_eq_zero_iff.1 (show A2.length = 0 by omega); simp [smrg_nil']
/-! ### the insertion sort of a part -/
end
section
variable {α : Type} {lt : α → α → Bool}
theorem sput_snoc_lt (U : List α) {x u : α} (h : lt x u = true) : sput lt x (U ++ [u]) = sput lt x U ++ [u] := by
  induction U with
  | nil => simp [sput, h]
  | cons y r ih => simp only [List.cons_append, sput]; split <;> simp [ih]
end
section
variable {α : Type} [Inhabited α] {lt : α → α → Bool}
end
section
variable {α : Type} {lt : α → α → Bool}
theorem sput_last (U : List α) {x : α} (h : ∀ y ∈ U, lt x y = false) : sput lt x U = U ++ [x] := by
  induction U with
  | nil => rfl
  | cons y r ih => rw [sput, if_neg (by simp [h y (by simp)]), ih (fun z hz => h z (by simp [hz]))]; rfl
end
section
variable {α : Type} [Inhabited α] {lt : α → α → Bool}
theorem insInner_is (hw : WO lt) (a : Nat) : ∀ (n j : Nat) (d : Array α) (P U S : List α) (x : α), d.toList = P ++ U ++ x :: S → P.length = a → U.length = n → a + n = j → Rising lt U → (insInner lt a j d).toList = P ++ sput lt x U ++ S
  | 0, j, d, P, U, S, x, h, ha, hU, hj, hR => by
    obtain rfl := List.length_eq_zero_iff.1 hU
    cases j with
    | zero => unfold insInner; rw [h]; simp [sput]
    | succ j => unfold insInner; rw [if_neg (by simp; intro; omega), h]; simp [sput]
  | n + 1, 0, d, P, U, S, x, h, ha, hU, hj, hR => by omega
  | n + 1, j + 1, d, P, U, S, x, h, ha, hU, hj, hR => by
    obtain ⟨Z, z, rfl⟩ : ∃ Z' z, U = Z' ++ [z] := ⟨U.dropLast, U.getLast (by intro e; subst e; simp at hU), (List.dropLast_concat_getLast _).symm⟩
    simp at hU
    have e1 : d[j + 1]! = x := at_mid h (by simp; omega)
    have e2 : d[j]! = z := at_mid (P := P ++ Z) (S := x :: S) (by rw [h]; simp) (by simp; omega)
    have hR' := List.pairwise_append.1 hR
    unfold insInner
    rw [e1, e2]
    by_cases hl : lt x z = true
    · rw [if_pos (by simp [hl]; omega)]
      have hs := swp_at' (d := d) (P := P ++ Z) (M := []) (S := S) (x := z) (y := x) (by rw [h]; simp) (i := j) (j := j + 1) (by simp; omega) (by simp; omega)
      rw [insInner_is hw a n j (swp d (j + 1) j) P Z (z :: S) x (by rw [hs]; simp) ha hU (by omega) hR'.1, sput_snoc_lt Z hl]; simp
    · have hl' : lt x z = false := by simpa using hl
      rw [if_neg (by simp [hl']), h, sput_last _ (fun y hy => by
        rcases List.mem_append.1 hy with hy | hy
        · exact hw.nt hl' (hR'.2.2 y hy z (by simp))
        · rw [List.mem_singleton.1 hy]; exact hl')]
      simp
theorem insOuter_is (hw : WO lt) (a b : Nat) : ∀ (n i : Nat) (d : Array α) (P U X S : List α), d.toList = P ++ U ++ X ++ S → P.length = a → X.length = n → a + U.length = i → i + n = b → Rising lt U → (insOuter lt a b i d).toList = P ++ X.foldl (fun o x => sput lt x o) U ++ S
  | 0, i, d, P, U, X, S, h, ha, hX, hi, hb, hR => by
    obtain rfl := List.length_eq_zero_iff.1 hX
    unfold insOuter; rw [if_neg (by omega), h]; simp
  | n + 1, i, d, P, U, x :: X, S, h, ha, hX, hi, hb, hR => by
    unfold insOuter; rw [if_pos (by omega)]
    have e := insInner_is hw a U.length i d P U (X ++ S) x (by rw [h]; simp) ha rfl hi hR
    rw [insOuter_is hw a b n (i + 1) _ P (sput lt x U) X S (by rw [e]; simp) ha (by simpa using hX) (by rw [sput_len]; omega) (by omega) (rising_sput hw x hR)]
    rfl
theorem insertionSort_is (hw : WO lt) {a b : Nat} {d : Array α} {P X S : List α} (h : d.toList = P ++ X ++ S) (ha : P.length = a) (hb : a + X.length = b) : (insertionSort lt d a b).toList = P ++ ssort lt X ++ S := by
  unfold insertionSort
  cases X with
  | nil => unfold insOuter; rw [if_neg (by simp at hb; omega), h]; rfl
  | cons x X =>
    rw [insOuter_is hw a b X.length (a + 1) d P [x] X S (by rw [h]; simp) ha rfl (by simp) (by simp at hb; omega) (List.pairwise_singleton _ _)]
    rfl
/-! ### blocks -/
def chs (lt : α → α → Bool) (k : Nat) : Nat → List α → List α
  | 0, L => L
  | f + 1, L => if L.length < k then ssort lt L else ssort lt (L.take k) ++ chs lt k f (L.drop k)
end
section
variable {α : Type} {lt : α → α → Bool}
theorem chs_fuel (k : Nat) (hk : 0 < k) : ∀ (f g : Nat) (L : List α), L.length < f → L.length < g → chs lt k f L = chs lt k g L
  | 0, _, _, h, _ => by omega
  | _, 0, _, _, h => by omega
  | f + 1, g + 1, L, h1, h2 => by
    unfold chs; split
    · rfl
    · rw [chs_fuel k hk f g (L.drop k) (by simp; omega) (by simp; omega)]
end
section
variable {α : Type} [Inhabited α] {lt : α → α → Bool}
end
section
variable {α : Type} {lt : α → α → Bool}
theorem chs_len (k : Nat) (hk : 0 < k) : ∀ (f : Nat) (L : List α), (chs lt k f L).length = L.length
  | 0, _ => rfl
  | f + 1, L => by
    unfold chs; split
    · rw [ssort_len]
    · rw [List.length_append, ssort_len, chs_len k hk f]; simp; omega
end
section
variable {α : Type} [Inhabited α] {lt : α → α → Bool}
theorem insB_is (hw : WO lt) (n : Nat) : ∀ (f a : Nat) (d : Array α) (P L : List α), d.toList = P ++ L → P.length = a → a + L.length = n → L.length < f → (insB lt n f a d).toList = P ++ chs lt 20 f L
  | 0, a, d, P, L, h, ha, hn, hf => by omega
  | f + 1, a, d, P, L, h, ha, hn, hf => by
    unfold insB chs
    by_cases hc : a + 20 ≤ n
    · have e := List.take_append_drop 20 L
      have l1 : (L.take 20).length = 20 := by simp; omega
      have l2 : (L.drop 20).length = L.length - 20 := by simp
      have h1 := insertionSort_is hw (d := d) (P := P) (X := L.take 20) (S := L.drop 20) (by rw [h, List.append_assoc, e]) ha (b := a + 20) (by omega)
      rw [if_pos hc, if_neg (by omega), insB_is hw n f (a + 20) _ (P ++ ssort lt (L.take 20)) (L.drop 20) (by rw [h1]) (by simp [ssort_len]; omega) (by omega) (by omega)]
      simp
    · have h1 := insertionSort_is hw (d := d) (P := P) (X := L) (S := []) (by rw [h]; simp) ha (b := n) (by omega)
      rw [if_neg hc, if_pos (by omega), h1]; simp
theorem mrgB_is (hw : WO lt) (n k : Nat) (hk : 0 < k) : ∀ (f g a : Nat) (d : Array α) (P L : List α), d.toList = P ++ chs lt k g L → P.length = a → a + L.length = n → L.length < f → L.length < g → (mrgB lt n k f a d).toList = P ++ chs lt (2 * k) f L
  | 0, g, a, d, P, L, h, ha, hn, hf, hg => by omega
  | f + 1, 0, a, d, P, L, h, ha, hn, hf, hg => by omega
  | f + 1, g + 1, a, d, P, L, h, ha, hn, hf, hg => by
    unfold mrgB
    rw [chs] at h ⊢
    by_cases hc : a + 2 * k ≤ n
    · rw [if_pos hc, if_neg (by omega)]
      rw [if_neg (by omega)] at h
      cases g with
      | zero => omega
      | succ g =>
        rw [chs, if_neg (by simp; omega)] at h
        have l1 : (ssort lt (L.take k)).length = k := by rw [ssort_len]; simp; omega
        have l2 : (ssort lt ((L.drop k).take k)).length = k := by rw [ssort_len]; simp; omega
        have h1 := symM_is hw (2 * k) a (a + k) (a + 2 * k) d P _ _ (chs lt k g ((L.drop k).drop k)) (by rw [h]; simp) ha (by omega) (by omega) (by omega) (by omega) (by omega) (rising_ssort hw (L.take k)) (rising_ssort hw ((L.drop k).take k))
        rw [← ssort_append hw] at h1
        have e : L.take k ++ (L.drop k).take k = L.take (2 * k) := by
          rw [show 2 * k = k + k by omega, List.take_add]
        rw [e, List.drop_drop, show k + k = 2 * k by omega] at h1
        rw [mrgB_is hw n k hk f g (a + 2 * k) _ (P ++ ssort lt (L.take (2 * k))) (L.drop (2 * k)) (by rw [h1]) (by simp [ssort_len]; omega) (by simp; omega) (by simp; omega) (by simp; omega)]
        simp
    · rw [if_neg hc, if_pos (show L.length < 2 * k by omega)]
      by_cases hd : a + k < n
      · rw [if_pos hd]
        rw [if_neg (by omega)] at h
        cases g with
        | zero => omega
        | succ g =>
          rw [chs, if_pos (by simp; omega)] at h
          have l1 : (ssort lt (L.take k)).length = k := by rw [ssort_len]; simp; omega
          have l2 : (ssort lt (L.drop k)).length = L.length - k := by rw [ssort_len]; simp
          rw [symM_is hw (2 * k) a (a + k) n d P _ _ [] (by rw [h]; simp) ha (by omega) (by omega) (by omega) hd (by omega) (rising_ssort hw (L.take k)) (rising_ssort hw (L.drop k)), ← ssort_append hw, List.take_append_drop]
          simp
      · rw [if_neg hd, h]
        split
        · rfl
        · have e : L.length = k := by omega
          rw [List.take_of_length_le (by omega), List.drop_of_length_le (by omega)]
          cases g with
          | zero => simp [chs]
          | succ g => rw [chs]; split <;> simp_all [ssort]
end
section
variable {α : Type} {lt : α → α → Bool}
theorem chs_all (k : Nat) : ∀ (f : Nat) (L : List α), L.length ≤ k → L.length < f → 0 < k → chs lt k f L = ssort lt L
  | 0, L, _, h, _ => by omega
  | f + 1, L, h1, h2, h3 => by
    unfold chs; split
    · rfl
    · rw [List.take_of_length_le (by omega), List.drop_of_length_le (by omega)]
      cases f with
      | zero => simp [chs]
      | succ g => rw [chs]; simp [h3, ssort]
end
section
variable {α : Type} [Inhabited α] {lt : α → α → Bool}
theorem passA_is (hw : WO lt) (n : Nat) (L : List α) (hn : L.length = n) : ∀ (f k : Nat) (d : Array α), d.toList = chs lt k (n + 1) L → 0 < k → n ≤ k * 2 ^ f → (passA lt n f k d).toList = ssort lt L
  | 0, k, d, h, hk, hf => by
    unfold passA; rw [h, chs_all k _ L (by simp at hf; omega) (by omega) hk]
  | f + 1, k, d, h, hk, hf => by
    unfold passA; split
    · have h1 := mrgB_is hw n k hk (n + 1) (n + 1) 0 d [] L (by rw [h]; rfl) rfl (by omega) (by omega) (by omega)
      exact passA_is hw n L hn f (2 * k) _ (by rw [h1]; rfl) (by omega) (by rw [Nat.pow_succ] at hf; rw [Nat.mul_comm 2 k, Nat.mul_assoc, Nat.mul_comm 2]; exact hf)
    · rw [h, chs_all k _ L (by omega) (by omega) hk]
/-- THE STABLE SORT: as they stand -/
theorem stableA_is (hw : WO lt) (d : Array α) : (stableA lt d).toList = ssort lt d.toList := by
  unfold stableA
  refine passA_is hw d.size d.toList (by simp) _ 20 _ ?_ (by omega) ?_
  · have := insB_is hw d.size (d.size + 1) 0 d [] d.toList rfl rfl (by simp) (by simp)
    rw [this]; rfl
  · have : d.size + 1 ≤ 2 ^ (d.size + 1) := Nat.le_of_lt Nat.lt_two_pow_self
    omega
end
end Go.Proofs.Ytppmjbnhghaffaa
/- Picking the first again and again comes to the stable order. No condition. -/
namespace Go.Proofs.Ytppmjbnhghaffaa

def pickStep (lt : Nat → Nat → Bool) (a : Option Nat) (i : Nat) : Option Nat := match a with
  | none => some i
  | some j => if lt i j then some i else some j
def pickL (lt : Nat → Nat → Bool) (L : List Nat) : Option Nat := L.foldl (pickStep lt) none
theorem pickL_snoc (lt : Nat → Nat → Bool) (L : List Nat) (i : Nat) : pickL lt (L ++ [i]) = pickStep lt (pickL lt L) i := by simp [pickL]
theorem pickL_nil {lt : Nat → Nat → Bool} {L : List Nat} (h : pickL lt L = none) : L = [] := by
  rw [← List.reverse_reverse L] at h ⊢
  cases hr : L.reverse with
  | nil => rfl
  | cons x r =>
    rw [hr, List.reverse_cons, pickL_snoc] at h
    unfold pickStep at h
    split at h
    · cases h
    · split at h <;> cases h
theorem pickL_some {lt : Nat → Nat → Bool} (hw : WO lt) : ∀ (R : List Nat) {x : Nat}, pickL lt R.reverse = some x → ∃ A B, R.reverse = A ++ x :: B ∧ (∀ a ∈ A, lt x a = true) ∧ (∀ b ∈ B, lt b x = false)
  | [], x, h => by cases h
  | i :: R, x, h => by
    rw [List.reverse_cons, pickL_snoc] at h
    rw [List.reverse_cons]
    cases hp : pickL lt R.reverse with
    | none =>
      have e := pickL_nil hp
      rw [hp] at h
      injection h with h; subst h
      exact ⟨[], [], by rw [e], by simp, by simp⟩
    | some j =>
      obtain ⟨A, B, h1, h2, h3⟩ := pickL_some hw R hp
      rw [hp] at h
      unfold pickStep at h
      by_cases hl : lt i j = true
      · simp only [hl, if_true] at h
        injection h with h; subst h
        refine ⟨R.reverse, [], rfl, fun a ha => ?_, by simp⟩
        rw [h1] at ha
        rcases List.mem_append.1 ha with ha | ha
        · exact hw.tr hl (h2 a ha)
        · rcases List.mem_cons.1 ha with rfl | ha
          · exact hl
          · exact hw.lt_of hl (h3 a ha)
      · have hl' : lt i j = false := by simpa using hl
        simp only [hl'] at h
        simp only [Bool.false_eq_true, if_false] at h
        injection h with h; subst h
        refine ⟨A, B ++ [i], by rw [h1]; simp, h2, fun b hb => ?_⟩
        rcases List.mem_append.1 hb with hb | hb
        · exact h3 b hb
        · rw [List.mem_singleton.1 hb]; exact hl'
theorem ssort_pick {lt : Nat → Nat → Bool} (hw : WO lt) {A B : List Nat} {x : Nat} (h1 : ∀ a ∈ A, lt x a = true) (h2 : ∀ b ∈ B, lt b x = false) : ssort lt (A ++ x :: B) = x :: ssort lt (A ++ B) := by
  have mem : ∀ (L : List Nat) z, z ∈ ssort lt L ↔ z ∈ L := by
    intro L z
    rw [← List.reverse_reverse L]
    induction L.reverse with
    | nil => simp [ssort]
    | cons y r ih => rw [List.reverse_cons, ssort_snoc, sput_mem, ih]; simp [or_comm]
  have e1 : ssort lt (A ++ [x]) = x :: ssort lt A := by
    rw [ssort_snoc]
    cases h : ssort lt A with
    | nil => rfl
    | cons y r => rw [sput, if_pos (h1 y ((mem A y).1 (by rw [h]; simp)))]
  rw [show A ++ x :: B = (A ++ [x]) ++ B by simp, ssort_append hw, e1, ssort_append hw]
  cases h : ssort lt B with
  | nil => rw [smrg_nil, smrg_nil]
  | cons y r => rw [smrg_cons, if_neg (by simp [h2 y ((mem B y).1 (by rw [h]; simp))])]
/-- the ones that are left -/
def leftOf (idx O : List Nat) : List Nat := idx.filter fun i => decide (i ∉ O)
theorem left_pick {lt : Nat → Nat → Bool} (hw : WO lt) {idx O : List Nat} (hn : idx.Nodup) {x : Nat} (h : pickL lt (leftOf idx O) = some x) (hs : ssort lt idx = O ++ ssort lt (leftOf idx O)) :
    x ∈ idx ∧ x ∉ O ∧ ssort lt idx = (O ++ [x]) ++ ssort lt (leftOf idx (O ++ [x])) := by
  obtain ⟨A, B, h1, h2, h3⟩ := pickL_some hw (leftOf idx O).reverse (x := x) (by rw [List.reverse_reverse]; exact h)
  rw [List.reverse_reverse] at h1
  have hx : x ∈ leftOf idx O := by rw [h1]; simp
  have hx' := List.mem_filter.1 hx
  have hnd : (leftOf idx O).Nodup := hn.filter _
  have e : leftOf idx (O ++ [x]) = A ++ B := by
    have e1 : leftOf idx (O ++ [x]) = (leftOf idx O).filter fun i => decide (i ≠ x) := by
      unfold leftOf
      rw [List.filter_filter]
      congr 1
      funext i
      simp [Bool.and_comm, not_or]
    rw [e1, h1, List.filter_append, List.filter_cons]
    rw [h1] at hnd
    have h4 := List.nodup_append.1 hnd
    have hA : A.filter (fun i => decide (i ≠ x)) = A := List.filter_eq_self.2 fun a ha => by
      have := h4.2.2 a ha x (by simp)
      simpa using this
    have hB : B.filter (fun i => decide (i ≠ x)) = B := List.filter_eq_self.2 fun b hb => by
      have := (List.nodup_cons.1 h4.2.1).1
      simp only [decide_eq_true_eq]
      intro e; subst e; exact this hb
    rw [hA, hB]; simp
  refine ⟨hx'.1, by simpa using hx'.2, ?_⟩
  rw [hs, h1, ssort_pick hw h2 h3, e]; simp
end Go.Proofs.Ytppmjbnhghaffaa
/- A list turned stands as it stood, if no two are alike; and a place in the order is how many stand ahead. No condition. -/
namespace Go.Proofs.Ytppmjbnhghaffaa

section
variable {α : Type} {lt : α → α → Bool}
theorem smrg_comm (hw : WO lt) : ∀ (n : Nat) (A B : List α), A.length + B.length ≤ n → (∀ x ∈ A, ∀ y ∈ B, lt x y = true ∨ lt y x = true) → smrg lt A B = smrg lt B A
  | n, [], B, _, _ => by rw [smrg_nil, smrg_nil']
  | n, a :: A, [], _, _ => by rw [smrg_nil, smrg_nil']
  | 0, a :: A, b :: B, hn, _ => by simp at hn
  | n + 1, a :: A, b :: B, hn, h => by
    simp only [List.length_cons] at hn
    rw [smrg_cons, smrg_cons]
    by_cases h1 : lt b a = true
    · rw [if_pos h1, if_neg (by rw [hw.as h1]; decide), smrg_comm hw n (a :: A) B (by simp; omega) (fun x hx y hy => h x hx y (by simp [hy]))]
    · have h2 : lt a b = true := (h a (by simp) b (by simp)).resolve_right h1
      rw [if_neg h1, if_pos h2, smrg_comm hw n A (b :: B) (by simp; omega) (fun x hx y hy => h x (by simp [hx]) y hy)]
theorem ssort_mem {z : α} (L : List α) : z ∈ ssort lt L ↔ z ∈ L := by
  rw [← List.reverse_reverse L]
  induction L.reverse with
  | nil => simp [ssort]
  | cons y r ih => rw [List.reverse_cons, ssort_snoc, sput_mem, ih]; simp [or_comm]
theorem ssort_comm (hw : WO lt) (A B : List α) (h : ∀ x ∈ A, ∀ y ∈ B, lt x y = true ∨ lt y x = true) : ssort lt (A ++ B) = ssort lt (B ++ A) := by
  rw [ssort_append hw, ssort_append hw, smrg_comm hw _ _ _ (Nat.le_refl _) (fun x hx y hy => h x ((ssort_mem A).1 hx) y ((ssort_mem B).1 hy))]
theorem sput_strict (hw : WO lt) (x : α) : ∀ {U : List α}, U.Pairwise (fun a b => lt a b = true) → (∀ y ∈ U, lt x y = true ∨ lt y x = true) → (sput lt x U).Pairwise (fun a b => lt a b = true)
  | [], _, _ => by simp [sput]
  | y :: r, hU, h => by
    have h1 := List.pairwise_cons.1 hU
    unfold sput; split
    next hxy =>
      refine List.pairwise_cons.2 ⟨fun z hz => ?_, hU⟩
      rcases List.mem_cons.1 hz with rfl | hz
      · exact hxy
      · exact hw.tr hxy (h1.1 z hz)
    next hxy =>
      have hyx : lt y x = true := (h y (by simp)).resolve_left hxy
      refine List.pairwise_cons.2 ⟨fun z hz => ?_, sput_strict hw x h1.2 (fun z hz => h z (by simp [hz]))⟩
      rcases sput_mem.1 hz with rfl | hz
      · exact hyx
      · exact h1.1 z hz
theorem ssort_strict (hw : WO lt) : ∀ (R : List α), R.reverse.Pairwise (fun a b => lt a b = true ∨ lt b a = true) → (ssort lt R.reverse).Pairwise (fun a b => lt a b = true)
  | [], _ => by simp [ssort]
  | x :: R, h => by
    rw [List.reverse_cons] at h ⊢
    have h1 := List.pairwise_append.1 h
    rw [ssort_snoc]
    refine sput_strict hw x (ssort_strict hw R h1.1) (fun y hy => ?_)
    have := h1.2.2 y ((ssort_mem _).1 hy) x (by simp)
    exact this.symm
theorem ssort_strict' (hw : WO lt) (L : List α) (h : L.Pairwise (fun a b => lt a b = true ∨ lt b a = true)) : (ssort lt L).Pairwise (fun a b => lt a b = true) := by
  have := ssort_strict hw L.reverse (by rw [List.reverse_reverse]; exact h)
  rwa [List.reverse_reverse] at this
/-- a place in the order: how many stand ahead -/
theorem strict_pos (hw : WO lt) {S : List α} (hS : S.Pairwise (fun a b => lt a b = true)) {j : Nat} {x : α} (h : S[j]? = some x) : (S.filter fun y => lt y x).length = j := by
  have hj := (List.getElem?_eq_some_iff.1 h).1
  have e : S = S.take j ++ x :: S.drop (j + 1) := by
    conv => lhs; rw [← List.take_append_drop j S]
    rw [List.drop_eq_getElem_cons hj]
    have := (List.getElem?_eq_some_iff.1 h).2
    rw [this]
  have hp := hS
  rw [e] at hp
  have h1 := List.pairwise_append.1 hp
  have h2 := List.pairwise_cons.1 h1.2.1
  have hx : lt x x = false := by
    cases q : lt x x with
    | false => rfl
    | true => have := hw.as q; rw [q] at this; cases this
  rw [e, List.filter_append, List.filter_cons, List.filter_eq_self.2 (fun a ha => h1.2.2 a ha x (by simp)), List.filter_eq_nil_iff.2 (fun a ha => by rw [hw.as (h2.1 a ha)]; decide)]
  simp only [hx]
  simp
  omega
theorem ssort_perm (L : List α) : (ssort lt L).Perm L := by
  rw [← List.reverse_reverse L]
  induction L.reverse with
  | nil => simp [ssort]
  | cons y r ih =>
    rw [List.reverse_cons, ssort_snoc]
    have hp : ∀ U : List α, (sput lt y U).Perm (y :: U) := by
      intro U
      induction U with
      | nil => exact List.Perm.refl _
      | cons z U ihU =>
        unfold sput; split
        · exact List.Perm.refl _
        · exact (List.Perm.cons z ihU).trans (List.Perm.swap y z U)
    exact (hp _).trans ((List.Perm.cons y ih).trans (List.perm_append_comm (l₁ := [y]) (l₂ := r.reverse)))
/-- who is among the first n: whose place, how many stand ahead, is below n -/
theorem first_iff (hw : WO lt) {L : List α} (h : L.Pairwise (fun a b => lt a b = true ∨ lt b a = true)) (n : Nat) {x : α} (hx : x ∈ L) : x ∈ (ssort lt L).take n ↔ (L.filter fun y => lt y x).length < n := by
  have hS := ssort_strict' hw L h
  have hc : (L.filter fun y => lt y x).length = ((ssort lt L).filter fun y => lt y x).length := ((ssort_perm L).filter _).length_eq.symm
  rw [hc]
  constructor
  · intro hm
    obtain ⟨j, hj, e⟩ := List.getElem_of_mem hm
    rw [List.length_take] at hj
    have : (ssort lt L)[j]? = some x := by
      rw [List.getElem_take] at e
      rw [List.getElem?_eq_getElem (by omega), e]
    rw [strict_pos hw hS this]; omega
  · intro hlt
    obtain ⟨j, hj, e⟩ := List.getElem_of_mem ((ssort_mem (lt := lt) L).2 hx)
    have : (ssort lt L)[j]? = some x := by rw [List.getElem?_eq_getElem hj, e]
    rw [strict_pos hw hS this] at hlt
    rw [List.mem_iff_getElem?]
    exact ⟨j, by rw [List.getElem?_take, if_pos hlt]; exact this⟩
end
end Go.Proofs.Ytppmjbnhghaffaa
/- Who is protected, plain: one by one the first of those that are left. No condition. -/
namespace Go.Proofs.Ytppmjbnhghaffaa

def atF (big : Nat) (A : List Nat) (k : Nat) : Nat := A[k]?.getD big
theorem atF_at {big : Nat} {A : List Nat} {k i : Nat} (h : A[k]? = some i) : atF big A k = i := by unfold atF; rw [h]; rfl
/-- places without some of them -/
def dropK (A G : List Nat) (k : Nat) : List Nat := ((List.range k).filter fun j => decide (j ∉ G)).map (atF 0 A)
def dropL (A G : List Nat) : List Nat := dropK A G A.length
theorem dropK_succ {A G : List Nat} {k i : Nat} (h : A[k]? = some i) : dropK A G (k + 1) = dropK A G k ++ (if k ∈ G then [] else [i]) := by
  unfold dropK
  rw [List.range_succ, List.filter_append, List.map_append]
  congr 1
  by_cases hk : k ∈ G
  · simp [hk]
  · simp [hk, atF_at h]
theorem range_atF (big : Nat) (A : List Nat) : (List.range A.length).map (atF big A) = A := by
  apply List.ext_getElem?
  intro i
  rw [List.getElem?_map]
  by_cases h : i < A.length
  · rw [List.getElem?_range h, List.getElem?_eq_getElem h]
    simp [atF, List.getElem?_eq_getElem h]
  · rw [List.getElem?_eq_none (by simp; omega), List.getElem?_eq_none (by omega)]; rfl
theorem atF_inj {big : Nat} {A : List Nat} (hn : A.Nodup) {i j : Nat} (hi : i < A.length) (hj : j < A.length) (h : atF big A i = atF big A j) : i = j := by
  rw [atF_at (List.getElem?_eq_getElem hi), atF_at (List.getElem?_eq_getElem hj)] at h
  rcases Nat.lt_trichotomy i j with q | q | q
  · exact absurd h (List.pairwise_iff_getElem.1 hn i j hi hj q)
  · exact q
  · exact absurd h.symm (List.pairwise_iff_getElem.1 hn j i hj hi q)
theorem dropL_is {big : Nat} {A G : List Nat} (hn : A.Nodup) (hG : ∀ g ∈ G, g < A.length) : dropL A G = A.filter fun i => decide (i ∉ G.map (atF big A)) := by
  conv => rhs; rw [← range_atF big A]
  rw [List.filter_map]
  unfold dropL dropK
  have e : ∀ k ∈ List.range A.length, (decide (k ∉ G)) = ((fun i => decide (i ∉ G.map (atF big A))) ∘ atF big A) k := by
    intro k hk
    have hk := List.mem_range.1 hk
    simp only [Function.comp]
    refine decide_eq_decide.2 (not_congr ⟨fun h => List.mem_map.2 ⟨k, h, rfl⟩, fun h => ?_⟩)
    obtain ⟨g, hg, he⟩ := List.mem_map.1 h
    rw [← atF_inj hn (hG g hg) hk he]; exact hg
  rw [List.filter_congr e, range_atF]
  refine List.map_congr_left fun k hk => ?_
  have hk := List.mem_range.1 (List.mem_filter.1 hk).1
  rw [atF_at (List.getElem?_eq_getElem hk), atF_at (List.getElem?_eq_getElem hk)]
theorem left_app (idx O T : List Nat) : leftOf (leftOf idx O) T = leftOf idx (O ++ T) := by
  unfold leftOf
  rw [List.filter_filter]
  congr 1
  funext i
  simp [Bool.and_comm, not_or]
theorem left_filter (idx O : List Nat) (c : Nat → Bool) : (leftOf idx O).filter c = leftOf (idx.filter c) O := by
  unfold leftOf
  rw [List.filter_filter, List.filter_filter]
  congr 1
  funext i
  rw [Bool.and_comm]
theorem left_mem {idx O : List Nat} {i : Nat} : i ∈ leftOf idx O ↔ i ∈ idx ∧ i ∉ O := by
  unfold leftOf; rw [List.mem_filter, decide_eq_true_eq]
/-- protected behind an order -/
def svStep (m : Nat) (lt : Nat → Nat → Bool) (cn : Nat → Bool) (n : Nat) (O : List Nat) : List Nat := O ++ (ssort lt (leftOf ((List.range m).filter cn) O)).take n
theorem svStep_nodup {m n : Nat} {lt : Nat → Nat → Bool} {cn : Nat → Bool} {O : List Nat} (h : O.Nodup) : (svStep m lt cn n O).Nodup := by
  unfold svStep
  have h1 : (ssort lt (leftOf ((List.range m).filter cn) O)).Nodup := (ssort_perm _).nodup_iff.2 ((List.nodup_range.filter _).filter _)
  refine List.nodup_append.2 ⟨h, h1.sublist (List.take_sublist _ _), fun a ha b hb e => ?_⟩
  subst e
  have := (ssort_mem _).1 (List.mem_of_mem_take hb)
  exact (left_mem.1 this).2 ha
theorem svStep_lt {m n : Nat} {lt : Nat → Nat → Bool} {cn : Nat → Bool} {O : List Nat} (h : ∀ i ∈ O, i < m) : ∀ i ∈ svStep m lt cn n O, i < m := by
  intro i hi
  rcases List.mem_append.1 hi with hi | hi
  · exact h i hi
  · have := (ssort_mem _).1 (List.mem_of_mem_take hi)
    exact List.mem_range.1 (List.mem_filter.1 (left_mem.1 this).1).1
theorem svStep_sub {m n : Nat} {lt : Nat → Nat → Bool} {cn : Nat → Bool} {O : List Nat} {i : Nat} (h : i ∈ O) : i ∈ svStep m lt cn n O := List.mem_append_left _ h
/-- the list without the first ones -/
theorem left_step' {m n : Nat} {lt : Nat → Nat → Bool} {cn : Nat → Bool} {O S : List Nat} (hS : S = (ssort lt (leftOf ((List.range m).filter cn) O)).take n) : (leftOf (List.range m) O).filter (fun i => decide (i ∉ S)) = leftOf (List.range m) (svStep m lt cn n O) := by
  subst hS; exact left_app _ _ _
theorem left_step {m n : Nat} {lt : Nat → Nat → Bool} {cn : Nat → Bool} {O : List Nat} : (leftOf (List.range m) O).filter (fun i => decide (i ∉ (ssort lt ((leftOf (List.range m) O).filter cn)).take n)) = leftOf (List.range m) (svStep m lt cn n O) := by
  refine left_step' ?_
  rw [left_filter]
/-- whose place is below the number is protected -/
theorem svStep_in {m n : Nat} {lt : Nat → Nat → Bool} {cn : Nat → Bool} {O : List Nat} (hw : WO lt) (ht : ((List.range m).filter cn).Pairwise fun a b => lt a b = true ∨ lt b a = true) {i : Nat} (hi : i < m) (hc : cn i = true)
    (hr : (((List.range m).filter cn).filter fun y => lt y i).length < n) : i ∈ svStep m lt cn n O := by
  by_cases hO : i ∈ O
  · exact svStep_sub hO
  · refine List.mem_append_right _ ((first_iff hw (ht.filter _) n (left_mem.2 ⟨List.mem_filter.2 ⟨List.mem_range.2 hi, hc⟩, hO⟩)).2 (Nat.lt_of_le_of_lt ?_ hr))
    exact (List.filter_sublist.filter _).length_le
theorem svStep_len (m n : Nat) (lt : Nat → Nat → Bool) (cn : Nat → Bool) (O : List Nat) : (svStep m lt cn n O).length ≤ O.length + n := by
  unfold svStep
  rw [List.length_append, List.length_take]; omega
theorem filter_mem_len {m : Nat} {O : List Nat} (hn : O.Nodup) (hl : ∀ i ∈ O, i < m) : ((List.range m).filter fun i => decide (i ∈ O)).length = O.length := by
  refine List.Perm.length_eq ?_
  refine (List.perm_ext_iff_of_nodup (List.nodup_range.filter _) hn).2 fun a => ?_
  rw [List.mem_filter, List.mem_range, decide_eq_true_eq]
  exact ⟨fun h => h.2, fun h => ⟨hl a h, h⟩⟩
theorem left_len {m : Nat} {O : List Nat} (hn : O.Nodup) (hl : ∀ i ∈ O, i < m) : (leftOf (List.range m) O).length + O.length = m := by
  have h1 := filter_mem_len hn hl
  have h2 : ((List.range m).filter fun i => decide (i ∈ O)).length + ((List.range m).filter fun i => !decide (i ∈ O)).length = (List.range m).length := by
    rw [← List.length_append]; exact (List.filter_append_perm _ _).length_eq
  have e : leftOf (List.range m) O = (List.range m).filter fun i => !decide (i ∈ O) := by
    unfold leftOf; congr 1; funext i; simp
  rw [e]
  rw [List.length_range] at h2
  omega
/-- everybody counts: so many are protected -/
theorem svStep_all {m n : Nat} {lt : Nat → Nat → Bool} {cn : Nat → Bool} {O : List Nat} (hn : O.Nodup) (hl : ∀ i ∈ O, i < m) (hc : ∀ i, cn i = true) : (svStep m lt cn n O).length = min (O.length + n) m := by
  unfold svStep
  have e : (List.range m).filter cn = List.range m := List.filter_eq_self.2 fun a _ => hc a
  have := left_len hn hl
  rw [List.length_append, List.length_take, ssort_len, e]
  omega
end Go.Proofs.Ytppmjbnhghaffaa
/- One by one the first of those that are left: when it is done. No condition. -/
namespace Go.Proofs.Ytppmjbnhghaffaa
theorem take_done {α : Type} {S T R : List α} {t n : Nat} (hS : S = T ++ R) (ht : T.length ≤ t) (hd : T.length = t ∨ R = []) (hn : t ≤ n) (he : t = n ∨ S.length ≤ t) : T = S.take n := by
  rcases hd with h | h
  · rcases he with e | e
    · rw [hS, List.take_append_of_le_length (by omega), List.take_of_length_le (by omega)]
    · rw [hS, List.length_append] at e
      have : R = [] := List.length_eq_zero_iff.1 (by omega)
      rw [hS, this, List.append_nil, List.take_of_length_le (by omega)]
  · rw [hS, h, List.append_nil, List.take_of_length_le (by omega)]
end Go.Proofs.Ytppmjbnhghaffaa
/- Who is left, of whatever turn of a list: plain. Conditions: no two alike. -/
namespace Go.Proofs.Ytppmjbnhghaffaa
section
variable {α β : Type}
theorem sput_mapP (f : α → β) (lt : α → α → Bool) (lt' : β → β → Bool) (h : ∀ x y, lt x y = lt' (f x) (f y)) (x : α) : ∀ l : List α, (sput lt x l).map f = sput lt' (f x) (l.map f)
  | [] => rfl
  | y :: r => by
    simp only [sput, List.map_cons, h x y]
    split
    · rfl
    · rw [List.map_cons, sput_mapP f lt lt' h x r]
theorem ssort_mapP (f : α → β) (lt : α → α → Bool) (lt' : β → β → Bool) (h : ∀ x y, lt x y = lt' (f x) (f y)) (l : List α) : (ssort lt l).map f = ssort lt' (l.map f) := by
  rw [← List.reverse_reverse l]
  induction l.reverse with
  | nil => rfl
  | cons x r ih => rw [List.reverse_cons, ssort_snoc, sput_mapP f lt lt' h, ih, List.map_append, List.map_cons, List.map_nil, ssort_snoc]
/-- two strict rows with the same members are one -/
theorem strict_eq {lt : α → α → Bool} (hw : WO lt) : ∀ {A B : List α}, A.Pairwise (fun a b => lt a b = true) → B.Pairwise (fun a b => lt a b = true) → A.Perm B → A = B
  | [], B, _, _, hp => (hp.symm.eq_nil).symm ▸ rfl
  | a :: A, [], _, _, hp => absurd hp.eq_nil (by simp)
  | a :: A, b :: B, hA, hB, hp => by
    have h1 := List.pairwise_cons.1 hA
    have h2 := List.pairwise_cons.1 hB
    have e : a = b := by
      have ha : a ∈ b :: B := hp.mem_iff.1 (by simp)
      have hb : b ∈ a :: A := hp.mem_iff.2 (by simp)
      rcases List.mem_cons.1 ha with ha | ha
      · exact ha
      · rcases List.mem_cons.1 hb with hb | hb
        · exact hb.symm
        · have q1 := h2.1 a ha
          have q2 := hw.as (h1.1 b hb)
          rw [q1] at q2; cases q2
    subst e
    rw [strict_eq hw h1.2 h2.2 (List.Perm.cons_inv hp)]
/-- the order of a row that is turned -/
theorem ssort_turn {lt : α → α → Bool} (hw : WO lt) {A B : List α} (h : A.Pairwise fun a b => lt a b = true ∨ lt b a = true) (hp : A.Perm B) : ssort lt A = ssort lt B := by
  have hB : B.Pairwise fun a b => lt a b = true ∨ lt b a = true := hp.pairwise h (fun h => h.symm)
  exact strict_eq hw (ssort_strict' hw A h) (ssort_strict' hw B hB) ((ssort_perm A).trans (hp.trans (ssort_perm B).symm))
variable [DecidableEq β]
/-- who is left behind an order -/
def lfP (lt : β → β → Bool) (cn : β → Bool) (n : Nat) (L : List β) : List β := L.filter fun p => decide (p ∉ (ssort lt (L.filter cn)).take n)
theorem lfP_perm {lt : β → β → Bool} (hw : WO lt) {cn : β → Bool} {n : Nat} {L M : List β} (h : L.Pairwise fun a b => lt a b = true ∨ lt b a = true) (hp : L.Perm M) : (lfP lt cn n L).Perm (lfP lt cn n M) := by
  unfold lfP
  rw [ssort_turn hw (h.filter cn) (hp.filter cn)]
  exact hp.filter _
theorem lfP_sub {lt : β → β → Bool} {cn : β → Bool} {n : Nat} {L : List β} : (lfP lt cn n L).Sublist L := List.filter_sublist
/-- .. and by places -/
theorem lfP_is (f : Nat → β) {m : Nat} (hf : ∀ i j, i < m → j < m → f i = f j → i = j) {lt : Nat → Nat → Bool} {lt' : β → β → Bool} (h : ∀ x y, lt x y = lt' (f x) (f y)) {cn : Nat → Bool} {cn' : β → Bool} (hc : ∀ x, cn x = cn' (f x)) (n : Nat) (O : List Nat) :
    lfP lt' cn' n ((leftOf (List.range m) O).map f) = (leftOf (List.range m) (svStep m lt cn n O)).map f := by
  have e : (ssort lt' (((leftOf (List.range m) O).map f).filter cn')).take n = ((ssort lt ((leftOf (List.range m) O).filter cn)).take n).map f := by
    rw [List.map_take, ssort_mapP f lt lt' h, List.filter_map]
    congr 3
    exact List.filter_congr fun x _ => (hc x).symm
  unfold lfP
  rw [e, List.filter_map, ← left_step]
  congr 1
  refine List.filter_congr fun i hi => ?_
  refine decide_eq_decide.2 (not_congr ⟨fun hm => ?_, fun hm => List.mem_map.2 ⟨i, hm, rfl⟩⟩)
  obtain ⟨j, hj, e2⟩ := List.mem_map.1 hm
  have hj' := (ssort_mem _).1 (List.mem_of_mem_take hj)
  have := hf j i (List.mem_range.1 (left_mem.1 (List.mem_filter.1 hj').1).1) (List.mem_range.1 (left_mem.1 hi).1) e2
  rw [← this]; exact hj
end
end Go.Proofs.Ytppmjbnhghaffaa
