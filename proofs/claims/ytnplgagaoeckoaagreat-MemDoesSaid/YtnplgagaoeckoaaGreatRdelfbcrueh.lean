/- Texts put together: SortW, SortI, SortJ, SortK. No condition. -/
import Derived.Test.YtnplgagaoeckoaaGreatRfnolrsgeod
import Derived.Shelf.SlSortCmp.Kit1
import Derived.Test.YtnplgagaoeckoaaGreatRqjngbjfvuz
import Derived.Test.YtnplgagaoeckoaaGreatRows
import Derived.WalkKit
import Derived.Sort.WalkA
import Derived.Sort.WalkB2
import Derived.Sort.WalkB12
import Derived.Deep.LoopGhost
import Derived.BigRegion
import Derived.WalkSpells
import Derived.WalkLawsBesides
import Derived.Deep.DeepCutAuto
set_option linter.unusedSimpArgs false
set_option linter.unusedVariables false
namespace Go.Proofs.YtnplgagaoeckoaaGreat
open Go.Shelf Go.RowKit Go.Lib Go.Sort
variable {P : Program} {α : Type} [Inhabited α] {enc : α → Value} {w0 W : World} {blk off : Nat} {dk d0 : Array α}

def redraw (w : World) (d : Nat) : World := { w with drawn := d }
def SB (enc : α → Value) (w0 : World) (blk off : Nat) (dk : Array α) (W : World) : Prop := ∃ d, SW enc w0 blk off dk (redraw W d)
theorem SB.below (h : SB enc w0 blk off dk W) {w' : World} (hb : Below W.heap.size W w') : SB enc w0 blk off dk w' := by
 obtain ⟨x, rfl⟩ := below_ext hb
 obtain ⟨d, hd⟩ := h
 exact ⟨d, hd.grown 0 x.xs⟩
theorem SB.ext (h : SB enc w0 blk off dk W) (x : Grow) : SB enc w0 blk off dk (Go.Proofs.YtnplgagaoeckoaaGreat.ext W x) := h.below (ext_below W x)
theorem SB.drew (h : SB enc w0 blk off dk W) : SB enc w0 blk off dk W.drew := by obtain ⟨d, hd⟩ := h; exact ⟨d, hd⟩
theorem SB.c1 (h : SB enc w0 blk off dk W) (R : Row1 enc w0 blk off d0) (hs : dk.size = d0.size) (i : Nat) (hi : i < dk.size) : W.cell? ⟨blk, off + i, none⟩ = some (enc dk[i]!) := by
 obtain ⟨d, hd⟩ := h; exact hd.c1 R hs i hi
theorem SB.f1 (h : SB enc w0 blk off dk W) (R : Row1 enc w0 blk off d0) (hs : dk.size = d0.size) (i : Nat) (hi : i < dk.size) : W.frozen? ⟨blk, off + i, none⟩ = false := by
 obtain ⟨d, hd⟩ := h; exact hd.f1 R hs i hi
theorem SB.cl (h : SB enc w0 blk off dk W) (R : Row1 enc w0 blk off d0) (hs : dk.size = d0.size) (i : Nat) (hi : i < dk.size) (Y : Grow) : (Go.Proofs.YtnplgagaoeckoaaGreat.ext W Y).cell? ⟨blk, off + i, none⟩ = some (enc dk[i]!) := (h.ext Y).c1 R hs i hi
theorem SB.c2 (h : SB enc w0 blk off dk W) (R : Row1 enc w0 blk off d0) (hs : dk.size = d0.size) (i j : Nat) (hi : i < dk.size) (hj : j < dk.size) (v : Value) :
  ∃ u, (W.setCell ⟨blk, off + i, none⟩ v).cell? ⟨blk, off + j, none⟩ = some u := by
 obtain ⟨d, hd⟩ := h; exact hd.c2 R hs i j hi hj v
/-- WHAT IS ASKED OF 'cmp': in every world of the sort it hands back 'cf x y', and makes memory of its own at most. -/
def CmpB (P : Program) (g : Nat) (cb : Array Value) (enc : α → Value) (cf : α → α → Int) (blk off size : Nat) (w : World) : Prop :=
 ∀ (W : World) (dk : Array α), dk.size = size → SB enc w blk off dk W → ∀ x y : α, Calls P g (#[enc x, enc y] ++ cb) W fun e w' => e = .returned (.int .i64 (cf x y)) ∧ Below W.heap.size W w'
theorem SB.cmp {g : Nat} {cb : Array Value} {cf : α → α → Int} {size : Nat} (h : SB enc w0 blk off dk W) (hC : CmpB P g cb enc cf blk off size w0) (hs : dk.size = size) (x y : α) (Y : Grow) :
  Calls P g (#[enc x, enc y] ++ cb) (Go.Proofs.YtnplgagaoeckoaaGreat.ext W Y) fun e w' => e = .returned (.int .i64 (cf x y)) ∧ Below (Go.Proofs.YtnplgagaoeckoaaGreat.ext W Y).heap.size (Go.Proofs.YtnplgagaoeckoaaGreat.ext W Y) w' := hC _ dk hs (h.ext Y) x y
/-- what lay in other blocks is as it was -/
theorem SB.other (h : SB enc w0 blk off dk W) {p : Addr} (hb : p.block ≠ blk) (hl : p.block < w0.heap.size) : W.cell? p = w0.cell? p := by
 obtain ⟨d, n, os, hw⟩ := h
 have e : W.cell? p = (redraw W d).cell? p := rfl
 rw [e, hw]
 unfold sortWorld
 rw [cell?_grow _ _ _ (by rw [size_putRow]; exact hl), cell?_putRow_other _ _ _ _ _ _ (Or.inl hb)]; rfl
theorem SB.size (h : SB enc w0 blk off dk W) : w0.heap.size ≤ W.heap.size := by
 obtain ⟨d, hd⟩ := h; exact hd.le
theorem size_swpR {α : Type} [Inhabited α] (a b : Nat) : ∀ (n i : Nat) (d : Array α), (swpR a b n i d).size = d.size
 | 0, _, _ => rfl
 | n + 1, i, d => by unfold swpR; rw [size_swpR a b n, size_swp]
theorem rotA_fuel {α : Type} [Inhabited α] (m : Nat) : ∀ (f f' i j : Nat) (d : Array α), 0 < i → 0 < j → i + j ≤ f → i + j ≤ f' → rotA m f i j d = rotA m f' i j d
 | 0, _, i, j, d, hi, hj, h1, h2 => by omega
 | _, 0, i, j, d, hi, hj, h1, h2 => by omega
 | f + 1, f' + 1, i, j, d, hi, hj, h1, h2 => by
  unfold rotA
  by_cases e : i = j
  ·rw [if_pos e, if_pos e]
  ·rw [if_neg e, if_neg e]
   by_cases e2 : j < i
   ·rw [if_pos e2, if_pos e2, rotA_fuel m f f' (i - j) j _ (by omega) hj (by omega) (by omega)]
   ·rw [if_neg e2, if_neg e2, rotA_fuel m f f' i (j - i) _ hi (by omega) (by omega) (by omega)]
theorem size_rotA {α : Type} [Inhabited α] (m : Nat) : ∀ (f i j : Nat) (d : Array α), (rotA m f i j d).size = d.size
 | 0, _, _, _ => rfl
 | f + 1, i, j, d => by
  unfold rotA; split
  ·rw [size_swpR]
  ·split
   ·rw [size_rotA m f, size_swpR]
   ·rw [size_rotA m f, size_swpR]
theorem size_upA {α : Type} [Inhabited α] : ∀ (n k : Nat) (d : Array α), (upA n k d).size = d.size
 | 0, _, _ => rfl
 | n + 1, k, d => by unfold upA; rw [size_upA n, size_swp]
theorem size_downA {α : Type} [Inhabited α] : ∀ (n k : Nat) (d : Array α), (downA n k d).size = d.size
 | 0, _, _ => rfl
 | n + 1, k, d => by unfold downA; rw [size_downA n, size_swp]
theorem size_symM {α : Type} [Inhabited α] (lt : α → α → Bool) : ∀ (f a m b : Nat) (d : Array α), (symM lt f a m b d).size = d.size
 | 0, _, _, _, _ => rfl
 | f + 1, a, m, b, d => by
  unfold symM; split
  ·rw [size_upA]
  ·split
   ·rw [size_downA]
   ·simp only
    repeat' split
    all_goals simp only [size_symM lt f, size_rotA]
theorem symM_gen {α : Type} [Inhabited α] (lt : α → α → Bool) (f a m b : Nat) (d : Array α) (mid s e : Nat) (h1 : ¬ m - a = 1) (h2 : ¬ b - m = 1) (hm : mid = (a + b) / 2) (hs : symSt lt d a m b = s) (he : e = mid + m - s) :
  symM lt (f + 1) a m b d = if mid < e ∧ e < b then symM lt f mid e b (if a < s ∧ s < mid then symM lt f a s mid (if s < m ∧ m < e then rotA m (e - s) (m - s) (e - m) d else d) else (if s < m ∧ m < e then rotA m (e - s) (m - s) (e - m) d else d))
   else (if a < s ∧ s < mid then symM lt f a s mid (if s < m ∧ m < e then rotA m (e - s) (m - s) (e - m) d else d) else (if s < m ∧ m < e then rotA m (e - s) (m - s) (e - m) d else d)) := by
 conv => lhs; unfold symM
 subst he
 rw [if_neg h1, if_neg h2, hs, ← hm]
theorem size_insInner {α : Type} [Inhabited α] (lt : α → α → Bool) (a : Nat) : ∀ (j : Nat) (d : Array α), (insInner lt a j d).size = d.size
 | 0, _ => rfl
 | j + 1, d => by unfold insInner; split
                  ·rw [size_insInner lt a j, size_swp]
                  ·rfl
theorem size_insOuter {α : Type} [Inhabited α] (lt : α → α → Bool) (a b : Nat) : ∀ (n i : Nat) (d : Array α), b - i ≤ n → (insOuter lt a b i d).size = d.size
 | 0, i, d, h => by unfold insOuter; rw [if_neg (by omega)]
 | n + 1, i, d, h => by
  unfold insOuter; split
  ·rw [size_insOuter lt a b n (i + 1) _ (by omega), size_insInner]
  ·rfl
theorem size_insertionSort {α : Type} [Inhabited α] (lt : α → α → Bool) (d : Array α) (a b : Nat) : (Sort.insertionSort lt d a b).size = d.size := size_insOuter lt a b _ _ d (Nat.le_refl _)
end Go.Proofs.YtnplgagaoeckoaaGreat
