/- slices.SortStableFunc and its fellows, at ints: what the row holds behind each. Conditions: as each theorem says (an order that lays blocks at most). -/
import Derived.Test.YtdjmejdfcceknaaSortI
import Derived.WalkSpells
import Derived.WalkLawsBesides
import Derived.Deep.DeepCutAuto
namespace Go.Proofs.Ytdjmejdfcceknaa
open Go.Shelf Go.RowKit Go.Lib Go.Sort

theorem size_rotA {α : Type} [Inhabited α] (m : Nat) : ∀ (f i j : Nat) (d : Array α), (rotA m f i j d).size = d.size
  | 0, _, _, _ => rfl
  | f + 1, i, j, d => by
    unfold rotA; split
    · rw [size_swpR]
    · split
      · rw [size_rotA m f, size_swpR]
      · rw [size_rotA m f, size_swpR]
theorem size_upA {α : Type} [Inhabited α] : ∀ (n k : Nat) (d : Array α), (upA n k d).size = d.size
  | 0, _, _ => rfl
  | n + 1, k, d => by unfold upA; rw [size_upA n, size_swp]
theorem size_downA {α : Type} [Inhabited α] : ∀ (n k : Nat) (d : Array α), (downA n k d).size = d.size
  | 0, _, _ => rfl
  | n + 1, k, d => by unfold downA; rw [size_downA n, size_swp]
theorem size_symM {α : Type} [Inhabited α] (lt : α → α → Bool) : ∀ (f a m b : Nat) (d : Array α), (symM lt f a m b d).size = d.size
  | 0, _, _, _, _ => rfl
  | f + 1, a, m, b, d => by
    unfold symM; split
    · rw [size_upA]
    · split
      · rw [size_downA]
      · simp only
        repeat' split
        all_goals simp only [size_symM lt f, size_rotA]
theorem symM_gen {α : Type} [Inhabited α] (lt : α → α → Bool) (f a m b : Nat) (d : Array α) (mid s e : Nat) (h1 : ¬ m - a = 1) (h2 : ¬ b - m = 1) (hm : mid = (a + b) / 2) (hs : symSt lt d a m b = s) (he : e = mid + m - s) :
    symM lt (f + 1) a m b d = if mid < e ∧ e < b then symM lt f mid e b (if a < s ∧ s < mid then symM lt f a s mid (if s < m ∧ m < e then rotA m (e - s) (m - s) (e - m) d else d) else (if s < m ∧ m < e then rotA m (e - s) (m - s) (e - m) d else d))
      else (if a < s ∧ s < mid then symM lt f a s mid (if s < m ∧ m < e then rotA m (e - s) (m - s) (e - m) d else d) else (if s < m ∧ m < e then rotA m (e - s) (m - s) (e - m) d else d)) := by
  conv => lhs; unfold symM
  subst he
  rw [if_neg h1, if_neg h2, hs, ← hm]

end Go.Proofs.Ytdjmejdfcceknaa
