/- Texts put together: PlBanf. No condition. -/
import Derived.Test.YtdmobgdgeiiicaaRxdzbpsbbdx
namespace Go.Proofs.Ytdmobgdgeiiicaa
open Go.RowKit

theorem ntCmp_neg (a b : Nt) : ntCmp b a = -ntCmp a b := by
  have h2 : ∀ x y : Ad, adCmp y x = -adCmp x y := fun x y => by
    unfold adCmp
    rw [orI_three, orI_three, cmpI_neg (famI x) (famI y), cmpI_neg (x.hi : Int) y.hi, cmpI_neg (x.lo : Int) y.lo]
    repeat' split
    all_goals omega
  unfold ntCmp
  rw [orI_two, orI_two, h2 a.ad b.ad, cmpI_neg a.bits b.bits]
  repeat' split
  all_goals omega
theorem ntCmp_self (a : Nt) : ntCmp a a = 0 := by have := ntCmp_neg a a; omega
def bfHas (l : List Ba) (n : Nt) : Bool := l.any fun x => decide (x.nt = n)
/-- ahead of the first that is greater -/
def bfPut (b : Ba) : List Ba → List Ba
  | [] => [b]
  | x :: l => if 0 < ntCmp x.nt b.nt then b :: x :: l else x :: bfPut b l
def bfGo (most : Int) : List Ba → Nat → List (List UInt8) → List Ba × Int × Int
  | l, _, [] => (l, 0, 0)
  | l, i, x :: r => if (baParse x).2 = false then ([], i + 1, 2) else if bfHas l (baParse x).1.nt = true then ([], i + 1, 7) else if most ≤ l.length then ([], i + 1, 5) else bfGo most (bfPut (baParse x).1 l) (i + 1) r
def bfParse (s : List UInt8) (most : Int) : List Ba × Int × Int := if (linesL s).2 ≠ 0 then ([], 0, (linesL s).2) else bfGo most [] 0 (linesL s).1
def bfText (l : List Ba) : List UInt8 := fed ((l.filter baRight).map baText)
def bfRight (l : List Ba) : Prop := (∀ b ∈ l, b.nt.ad.fits ∧ baRight b = true) ∧ l.Pairwise fun a b => ntCmp a.nt b.nt < 0
theorem bfHas_no {l : List Ba} {n : Nt} (h : ∀ x ∈ l, x.nt ≠ n) : bfHas l n = false := by
  unfold bfHas
  rw [List.any_eq_false]
  intro x hx
  simpa using h x hx
theorem bfPut_end {b : Ba} : ∀ {l : List Ba}, (∀ x ∈ l, ntCmp x.nt b.nt < 0) → bfPut b l = l ++ [b]
  | [], _ => rfl
  | x :: l, h => by
    have h1 := h x (List.mem_cons_self ..)
    rw [bfPut, if_neg (by omega), bfPut_end fun y hy => h y (List.mem_cons_of_mem _ hy)]; rfl
theorem bfPut_front {b : Ba} {l : List Ba} (h : ∀ x ∈ l, ntCmp b.nt x.nt < 0) : bfPut b l = b :: l := by
  cases l with
  | nil => rfl
  | cons x l =>
    have h1 := h x (List.mem_cons_self ..)
    rw [bfPut, if_pos (by have := ntCmp_neg b.nt x.nt; omega)]
theorem ntNe_of {a b : Nt} (h : ntCmp a b < 0) : a ≠ b := fun e => by subst e; have := ntCmp_self a; omega
/-- the lines of a right list, as they stand -/
theorem bfGo_asc (most : Int) : ∀ (L acc : List Ba), bfRight (acc ++ L) → bfGo most acc acc.length (L.map baText) = if L = [] ∨ (acc.length : Int) + L.length ≤ most then (acc ++ L, 0, 0) else ([], max most acc.length + 1, 5)
  | [], acc, _ => by simp [bfGo]
  | x :: L, acc, h => by
    obtain ⟨h1, h2⟩ := h
    have hx := h1 x (by simp)
    have hlt : ∀ a ∈ acc, ntCmp a.nt x.nt < 0 := fun a ha => (List.pairwise_append.1 h2).2.2 a ha x (List.mem_cons_self ..)
    rw [List.map_cons, bfGo, baParse_text x hx.1 hx.2]
    simp only
    rw [if_neg (by simp), if_neg (by rw [bfHas_no fun a ha => ntNe_of (hlt a ha)]; simp), bfPut_end hlt]
    split
    · rename_i hm
      rw [if_neg (by rintro (e | e); · cases e
                     · simp at e; omega)]
      congr 2; omega
    · rename_i hm
      have ih := bfGo_asc most L (acc ++ [x]) (by rw [List.append_assoc]; exact ⟨h1, h2⟩)
      rw [show (acc ++ [x]).length = acc.length + 1 by simp] at ih
      rw [ih, List.append_assoc]
      by_cases hc : (acc.length : Int) + (x :: L).length ≤ most
      · rw [if_pos (Or.inr (by simp at hc; omega)), if_pos (Or.inr hc)]; rfl
      · rw [if_neg (by rintro (e | e)
                       · subst e; simp at hc; omega
                       · simp at hc; omega), if_neg (by rintro (e | e); · cases e
                                                        · exact hc e)]
        congr 2; omega
/-- and the other way round -/
theorem bfGo_desc (most : Int) : ∀ (M acc : List Ba), bfRight (M.reverse ++ acc) → (acc.length : Int) + M.length ≤ most → bfGo most acc acc.length (M.map baText) = (M.reverse ++ acc, 0, 0)
  | [], acc, _, _ => by simp [bfGo]
  | x :: M, acc, h, hm => by
    have hr : (x :: M).reverse ++ acc = M.reverse ++ (x :: acc) := by simp
    rw [hr] at h ⊢
    obtain ⟨h1, h2⟩ := h
    have hx := h1 x (by simp)
    have hlt : ∀ a ∈ acc, ntCmp x.nt a.nt < 0 := fun a ha => (List.pairwise_cons.1 (List.pairwise_append.1 h2).2.1).1 a ha
    rw [List.map_cons, bfGo, baParse_text x hx.1 hx.2]
    simp only
    simp only [List.length_cons] at hm
    rw [if_neg (by simp), if_neg (by rw [bfHas_no fun a ha => (ntNe_of (hlt a ha)).symm]; simp), if_neg (by omega), bfPut_front hlt]
    exact bfGo_desc most M (x :: acc) ⟨h1, h2⟩ (by simp only [List.length_cons]; omega)
end Go.Proofs.Ytdmobgdgeiiicaa
