/- Texts put together: Blk, BlkQ. No condition. -/
import Derived.Test.YtnplgagaoeckoaaGreatRluqwkbtqlq
import Derived.Laws.Rows
import Derived.Laws.Tables
import Derived.Laws.CopyOwn
import Derived.BigQuiet
set_option linter.unusedSimpArgs false
set_option linter.unusedVariables false
namespace Go.Proofs.YtnplgagaoeckoaaGreat
open Go.RowKit
theorem BlockIs.alloc' {w : World} {B : Nat} {arr : List Value} {T : TypeId} (h : BlockIs w B arr T) (o : Obj) : BlockIs (w.alloc o) B arr T := h.below ((Below.refl _ _).alloc (Nat.le_refl _) _)
theorem BlockIs.drew' {w : World} {B : Nat} {arr : List Value} {T : TypeId} (h : BlockIs w B arr T) : BlockIs w.drew B arr T := h
theorem BlockIs.newAt' (w : World) (arr : List Value) (T : TypeId) {n : Nat} (h : n = w.heap.size) : BlockIs (w.alloc (.cells arr.toArray T)) n arr T := h ▸ BlockIs.new w arr T
theorem BlockIs.loadVar {P : Program} {w : World} {B : Nat} {arr : List Value} {T : TypeId} (h : BlockIs w B arr T) {fs : Array Field} (hu : P.underlying T = some (.struct fs)) (hi : (P.info? T).map (·.size) = some arr.length) :
  (Go.loadVar T ⟨B, 0, none⟩).run P w = .ok (.agg arr.toArray) w :=
 run_loadVar_row w B T T arr.toArray (0, 0) _ h hu rfl (by simpa using hi)
section
variable {P : Program} {ops : Array Oper} {rest : List Oper} {o : Oper} {a : Act} {w : World} {Q : Exit → Act → World → Prop}
/-- a whole struct into a block: the new world by a name -/
theorem list_store_blk (hgd : o.guard = none) (ty : TypeId) (x y : Operand) (ho : o.op = .store ty x y) (g : Nat) (old cells : List Value) (t : TypeId) (hB : BlockIs w g old t)
  (hx : a.eval x = .pointer (some ⟨g, 0, none⟩)) (hy : a.eval y = .agg cells.toArray) (hi : (P.info? ty).map (·.size) = some cells.length) (hl : old.length = cells.length) (h1 : cells.all (·.oneCell') = true)
  (B : Nat) (w0 : World) (hbel : Below B w0 w) (hBg : B ≤ g)
  (h : ∀ w', BlockIs w' g cells t → (∀ k arr u, k ≠ g → BlockIs w k arr u → BlockIs w' k arr u) → w'.heap.size = w.heap.size → Below B w0 w' → wpList P ops Q rest (a.put o.dst undef) w') : wpList P ops Q (o :: rest) a w :=
 wpList_store_row hgd ty x y ho g cells.toArray hx hy t old.toArray hB (by simpa using hi) (by simpa using hl) (by simpa using h1)
  (h _ (setRow_heap w g _ _ t _ hB) (fun k arr u hk hb => by unfold BlockIs at *; rw [setRow_other w g k _ hk]; exact hb) (size_setRow _ _ _) (below_setRow hbel hBg _))
/-- a whole struct out of a block -/
theorem list_load_blk (hgd : o.guard = none) (ty : TypeId) (x : Operand) (ho : o.op = .load ty x) (g : Nat) (cells : List Value) (t : TypeId) (hB : BlockIs w g cells t)
  (hx : a.eval x = .pointer (some ⟨g, 0, none⟩)) {fs : Array Field} (hu : P.underlying ty = some (.struct fs)) (hi : (P.info? ty).map (·.size) = some cells.length)
  (h : wpList P ops Q rest (a.put o.dst (.agg cells.toArray)) w) : wpList P ops Q (o :: rest) a w :=
 wpList_load_row hgd ty x ho g hx t cells.toArray (0, 0) _ hB hu rfl (by simpa using hi) h
end
section
variable {P : Program} {ops : Array Oper} {rest : List Oper} {o : Oper} {a : Act} {w : World} {Q : Exit → Act → World → Prop}
/-- the same, of an operation that is wanted though it is guarded -/
theorem list_load_blk_w (hw : Region.wanted o (yielded ops a.tmps) = true) (ty : TypeId) (x : Operand) (ho : o.op = .load ty x) (g : Nat) (cells : List Value) (t : TypeId) (hB : BlockIs w g cells t)
  (hx : a.eval x = .pointer (some ⟨g, 0, none⟩)) {fs : Array Field} (hu : P.underlying ty = some (.struct fs)) (hi : (P.info? ty).map (·.size) = some cells.length)
  (h : wpList P ops Q rest (a.put o.dst (.agg cells.toArray)) w) : wpList P ops Q (o :: rest) a w :=
 wpList_step fun K hK => by rw [if_pos hw]; exact wp_load_row ty x ho g hx t cells.toArray (0, 0) _ hB hu rfl (by simpa using hi) (hK _ _ h)
end
theorem BlockIs.ext {w : World} {B : Nat} {arr : List Value} {T : TypeId} (h : BlockIs w B arr T) : ∀ w', (∃ x, w' = Go.Proofs.YtnplgagaoeckoaaGreat.ext w x) → BlockIs w' B arr T := fun w' ⟨x, e⟩ => by subst e; exact h.below (ext_below w x)
end Go.Proofs.YtnplgagaoeckoaaGreat
