/- The worlds of a sort: the row laid so, whatever was drawn, blocks of its own behind. No condition. -/
import Derived.Test.YtppmjbnhghaffaaWalk
import Derived.Shelf.SlSortCmp.Kit1
namespace Go.Proofs.Ytppmjbnhghaffaa
open Go.Shelf Go.RowKit Go.Lib Go.Sort
variable {P : Program} {α : Type} [Inhabited α] {enc : α → Value} {w0 W : World} {blk off : Nat} {dk d0 : Array α}

def redraw (w : World) (d : Nat) : World := { w with drawn := d }
def SB (enc : α → Value) (w0 : World) (blk off : Nat) (dk : Array α) (W : World) : Prop := ∃ d, SW enc w0 blk off dk (redraw W d)
theorem SB.start (h : Holds enc w0 blk off dk) : SB enc w0 blk off dk w0 := ⟨w0.drawn, SW.start h⟩
theorem SB.below (h : SB enc w0 blk off dk W) {w' : World} (hb : Below W.heap.size W w') : SB enc w0 blk off dk w' := by
  obtain ⟨x, rfl⟩ := below_ext hb
  obtain ⟨d, hd⟩ := h
  exact ⟨d, hd.grown 0 x.xs⟩
theorem SB.ext (h : SB enc w0 blk off dk W) (x : Grow) : SB enc w0 blk off dk (Go.Proofs.Ytppmjbnhghaffaa.ext W x) := h.below (ext_below W x)
theorem SB.drew (h : SB enc w0 blk off dk W) : SB enc w0 blk off dk W.drew := by obtain ⟨d, hd⟩ := h; exact ⟨d, hd⟩
theorem SB.c1 (h : SB enc w0 blk off dk W) (R : Row1 enc w0 blk off d0) (hs : dk.size = d0.size) (i : Nat) (hi : i < dk.size) : W.cell? ⟨blk, off + i, none⟩ = some (enc dk[i]!) := by
  obtain ⟨d, hd⟩ := h; exact hd.c1 R hs i hi
theorem SB.f1 (h : SB enc w0 blk off dk W) (R : Row1 enc w0 blk off d0) (hs : dk.size = d0.size) (i : Nat) (hi : i < dk.size) : W.frozen? ⟨blk, off + i, none⟩ = false := by
  obtain ⟨d, hd⟩ := h; exact hd.f1 R hs i hi
theorem SB.cl (h : SB enc w0 blk off dk W) (R : Row1 enc w0 blk off d0) (hs : dk.size = d0.size) (i : Nat) (hi : i < dk.size) (Y : Grow) : (Go.Proofs.Ytppmjbnhghaffaa.ext W Y).cell? ⟨blk, off + i, none⟩ = some (enc dk[i]!) := (h.ext Y).c1 R hs i hi
theorem SB.c2 (h : SB enc w0 blk off dk W) (R : Row1 enc w0 blk off d0) (hs : dk.size = d0.size) (i j : Nat) (hi : i < dk.size) (hj : j < dk.size) (v : Value) :
    ∃ u, (W.setCell ⟨blk, off + i, none⟩ v).cell? ⟨blk, off + j, none⟩ = some u := by
  obtain ⟨d, hd⟩ := h; exact hd.c2 R hs i j hi hj v
theorem SB.swapped (h : SB enc w0 blk off dk W) (R : Row1 enc w0 blk off d0) (i j : Nat) (hi : i < dk.size) (hj : j < dk.size) :
    SB enc w0 blk off (swp dk i j) ((W.setCell ⟨blk, off + i, none⟩ (enc dk[j]!)).setCell ⟨blk, off + j, none⟩ (enc dk[i]!)).drew := by
  obtain ⟨d, hd⟩ := h; exact ⟨d + 1, hd.swapped R i j hi hj⟩
/-- WHAT IS ASKED OF 'cmp': in every world of the sort it hands back 'cf x y', and makes memory of its own at most. -/
def CmpB (P : Program) (g : Nat) (cb : Array Value) (enc : α → Value) (cf : α → α → Int) (blk off size : Nat) (w : World) : Prop :=
  ∀ (W : World) (dk : Array α), dk.size = size → SB enc w blk off dk W → ∀ x y : α, Calls P g (#[enc x, enc y] ++ cb) W fun e w' => e = .returned (.int .i64 (cf x y)) ∧ Below W.heap.size W w'
theorem SB.cmp {g : Nat} {cb : Array Value} {cf : α → α → Int} {size : Nat} (h : SB enc w0 blk off dk W) (hC : CmpB P g cb enc cf blk off size w0) (hs : dk.size = size) (x y : α) (Y : Grow) :
    Calls P g (#[enc x, enc y] ++ cb) (Go.Proofs.Ytppmjbnhghaffaa.ext W Y) fun e w' => e = .returned (.int .i64 (cf x y)) ∧ Below (Go.Proofs.Ytppmjbnhghaffaa.ext W Y).heap.size (Go.Proofs.Ytppmjbnhghaffaa.ext W Y) w' := hC _ dk hs (h.ext Y) x y
/-- what lay in other blocks is as it was -/
theorem SB.other (h : SB enc w0 blk off dk W) {p : Addr} (hb : p.block ≠ blk) (hl : p.block < w0.heap.size) : W.cell? p = w0.cell? p := by
  obtain ⟨d, n, os, hw⟩ := h
  have e : W.cell? p = (redraw W d).cell? p := rfl
  rw [e, hw]
  unfold sortWorld
  rw [cell?_grow _ _ _ (by rw [size_putRow]; exact hl), cell?_putRow_other _ _ _ _ _ _ (Or.inl hb)]; rfl
theorem SB.size (h : SB enc w0 blk off dk W) : w0.heap.size ≤ W.heap.size := by
  obtain ⟨d, hd⟩ := h; exact hd.le
theorem SB.belowB (h : SB enc w0 blk off dk W) {B : Nat} (hB : B ≤ blk) (hB0 : B ≤ w0.heap.size) : Below B w0 W := by
  have hs := h.size
  obtain ⟨d, n, os, hw⟩ := h
  have e1 : (redraw W d).heap = W.heap := rfl
  have hh : W.heap = (putRow enc (Sort.ahead w0 n) blk off dk).heap ++ os := by rw [← e1, hw]; rfl
  have ho : (redraw W d).os = (sortWorld enc w0 blk off n dk os).os := by rw [hw]
  have ht : (redraw W d).tape = (sortWorld enc w0 blk off n dk os).tape := by rw [hw]
  have hu : (redraw W d).output = (sortWorld enc w0 blk off n dk os).output := by rw [hw]
  refine ⟨ho, ht, hu, hs, fun k hk => ?_⟩
  rw [hh, Array.getElem?_append_left (by rw [size_putRow]; exact Nat.lt_of_lt_of_le hk hB0)]
  unfold putRow mapBlock
  simp only [Array.getElem?_modify]
  rw [if_neg (by omega)]
  rfl
end Go.Proofs.Ytppmjbnhghaffaa
