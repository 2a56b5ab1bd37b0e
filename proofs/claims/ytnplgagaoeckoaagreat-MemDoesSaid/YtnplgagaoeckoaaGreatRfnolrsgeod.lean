/- Texts put together: Walk, PlHeap, PlDec, PlBits. No condition. -/
import Derived.WalkKit
import Derived.BigQuiet
import Derived.Deep.QuietTactic
import Derived.Lib.Hide
import Derived.Test.YtnplgagaoeckoaaGreatRhswffbbxtu
set_option linter.unusedSimpArgs false
set_option linter.unusedVariables false
namespace Go.Proofs.YtnplgagaoeckoaaGreat
open Go.RowKit
/-- what a world grows by: new blocks, draws -/
structure Grow where
 xs : Array Obj
 d : Nat
instance : Inhabited Grow := ⟨⟨#[], 0⟩⟩
/-- the world with new blocks behind the old ones -/
def ext (w : World) (x : Grow) : World := { w with heap := w.heap ++ x.xs, drawn := x.d }
theorem ext_below (w : World) (x : Grow) : Below w.heap.size w (ext w x) :=
 ⟨rfl, rfl, rfl, by simp [ext], fun k hk => by simp [ext, Array.getElem?_append, hk]⟩
theorem below_ext {w w' : World} (h : Below w.heap.size w w') : ∃ x, w' = ext w x := by
 refine ⟨⟨w'.heap.extract w.heap.size w'.heap.size, w'.drawn⟩, ?_⟩
 have hs := h.size
 have hh : w'.heap = w.heap ++ w'.heap.extract w.heap.size w'.heap.size := by
  apply Array.ext_getElem?
  intro i
  by_cases hi : i < w.heap.size
  ·rw [Array.getElem?_append, if_pos hi]; exact h.block i hi
  ·rw [Array.getElem?_append, if_neg hi, Array.getElem?_extract]
   by_cases hj : i < w'.heap.size
   ·rw [if_pos (by omega), show w.heap.size + (i - w.heap.size) = i from by omega]
   ·rw [if_neg (by omega)]; exact Array.getElem?_eq_none (by omega)
 obtain ⟨h1, h2, h3, _, _⟩ := h
 cases w; cases w'
 simp only [ext] at *
 subst h1 h2 h3
 rw [← hh]
theorem ext_cell (w : World) (x : Grow) {p : Addr} (h : p.block < w.heap.size) : (ext w x).cell? p = w.cell? p := (ext_below w x).cell h
theorem wp_region_ext {P : Program} {id : Nat} {Q : Exit → Act → World → Prop} {a : Act} {w : World} {l : List Oper} (hm : P.follows .mixedOrders = true) (hB : Region.lexB .any l.toArray = true)
  (h : wpQuiet P l.toArray (fun w' => ∃ x, w' = ext w x) (fun a' => ∀ w', (∃ x, w' = ext w x) → Q .normal a' w') l a) : (Code.region id l.toArray true).wp P Q a w :=
 wp_region_quiet (C := fun w' => ∃ x, w' = ext w x) hm hB ⟨⟨#[], w.drawn + 1⟩, by simp [ext]⟩ (by simpa using h)
theorem qe {P : Program} {f : FuncId} {args : Array Value} {w : World} {x : Grow} {v : Value}
  (h : Calls P f args (ext w x) fun e w' => e = .returned v ∧ Below (ext w x).heap.size (ext w x) w') : Calls P f args (ext w x) fun e w'' => e = .returned v ∧ ∃ x', w'' = ext w x' :=
 h.mono fun _ _ ⟨he, hb⟩ => ⟨he, below_ext ((ext_below w x).trans (hb.mono (ext_below w x).size))⟩
theorem qs {P : Program} {f : FuncId} {args : Array Value} {w : World} {x : Grow} {v : Value}
  (h : Calls P f args (ext w x) fun e w' => e = .returned v ∧ ext w x = w') : Calls P f args (ext w x) fun e w'' => e = .returned v ∧ ∃ x', w'' = ext w x' :=
 h.mono fun _ _ ⟨he, hb⟩ => ⟨he, x, hb.symm⟩
/-- behind a callee that makes memory: what the old cells hold -/
theorem bcell {W w1 : World} (hb : Below W.heap.size W w1) : (∀ b o, b < W.heap.size → w1.cell? ⟨b, o, none⟩ = W.cell? ⟨b, o, none⟩) ∧ (∀ b o, b < W.heap.size → w1.frozen? ⟨b, o, none⟩ = W.frozen? ⟨b, o, none⟩) :=
 ⟨fun b o h => hb.cell (p := ⟨b, o, none⟩) h, fun b o h => hb.frozen (p := ⟨b, o, none⟩) h⟩
theorem bcellB {B : Nat} {W w1 : World} (hb : Below B W w1) : (∀ b o, b < B → w1.cell? ⟨b, o, none⟩ = W.cell? ⟨b, o, none⟩) ∧ (∀ b o, b < B → w1.frozen? ⟨b, o, none⟩ = W.frozen? ⟨b, o, none⟩) :=
 ⟨fun b o h => hb.cell (p := ⟨b, o, none⟩) h, fun b o h => hb.frozen (p := ⟨b, o, none⟩) h⟩
theorem keep {B : Nat} {W W' : World} (hb : Below B W W') {b o : Nat} {v : Value} (h : b < B) (hc : W.cell? ⟨b, o, none⟩ = some v) : W'.cell? ⟨b, o, none⟩ = some v := by
 rw [hb.cell (p := ⟨b, o, none⟩) h]; exact hc
theorem below2 {w w1 w2 : World} (b1 : Below w.heap.size w w1) (b2 : Below w1.heap.size w1 w2) : Below w.heap.size w w2 := b1.trans (b2.mono b1.size)
/-- a block of cells, told whole -/
def BlockIs (w : World) (B : Nat) (arr : List Value) (T : TypeId) : Prop := w.heap[B]? = some (.cells arr.toArray T)
theorem BlockIs.lt {w : World} {B : Nat} {arr : List Value} {T : TypeId} (h : BlockIs w B arr T) : B < w.heap.size := by
 rcases Nat.lt_or_ge B w.heap.size with h1 | h1
 ·exact h1
 ·unfold BlockIs at h; rw [Array.getElem?_eq_none h1] at h; cases h
theorem BlockIs.new (w : World) (arr : List Value) (T : TypeId) : BlockIs (w.alloc (.cells arr.toArray T)) w.heap.size arr T := by
 show (w.heap.push _)[w.heap.size]? = _; simp
theorem BlockIs.cell {w : World} {B : Nat} {arr : List Value} {T : TypeId} (h : BlockIs w B arr T) {i : Nat} {v : Value} (hi : arr[i]? = some v) : w.cell? ⟨B, i, none⟩ = some v := by
 unfold BlockIs at h; simp [World.cell?, h, hi]
theorem BlockIs.frozen {w : World} {B : Nat} {arr : List Value} {T : TypeId} (h : BlockIs w B arr T) (i : Nat) : w.frozen? ⟨B, i, none⟩ = false := by
 unfold BlockIs at h; simp [World.frozen?, h]
theorem BlockIs.set {w : World} {B : Nat} {arr : List Value} {T : TypeId} (h : BlockIs w B arr T) (i : Nat) (v : Value) : BlockIs (w.setCell ⟨B, i, none⟩ v) B (arr.set i v) T := by
 unfold BlockIs at *
 simp only [World.setCell, Array.getElem?_modify]
 simp [h]
theorem BlockIs.below {w w' : World} {B : Nat} {arr : List Value} {T : TypeId} (h : BlockIs w B arr T) (hb : Below w.heap.size w w') : BlockIs w' B arr T := by
 have := hb.block B h.lt; unfold BlockIs at *; rw [this]; exact h
theorem bel {B : Nat} {w w' : World} (h : Below B w w' := by (repeat (first | with_reducible assumption | with_reducible exact Below.refl _ _ | with_reducible refine Below.setCell ?_ (by first | omega | (simp; done) | (simp; omega)) _ | with_reducible refine Below.alloc ?_ (by first | omega | (simp; done) | (simp; omega)) _ | with_reducible refine Below.drew ?_ | (with_reducible refine Below.trans ?_ (Below.mono (by with_reducible assumption) (by first | omega | (simp; done) | (simp; omega)))) | (refine Below.trans ?_ (Below.mono (by assumption) (by first | omega | (simp; done) | (simp; omega))))))) : Below B w w' := h
theorem BlockIs.c0 {w : World} {B : Nat} {x0 : Value} {r : List Value} {T : TypeId} (h : BlockIs w B (x0 :: r) T) : w.cell? ⟨B, 0, none⟩ = some x0 := h.cell rfl
theorem BlockIs.c1 {w : World} {B : Nat} {x0 x1 : Value} {r : List Value} {T : TypeId} (h : BlockIs w B (x0 :: x1 :: r) T) : w.cell? ⟨B, 1, none⟩ = some x1 := h.cell rfl
theorem BlockIs.c2 {w : World} {B : Nat} {x0 x1 x2 : Value} {r : List Value} {T : TypeId} (h : BlockIs w B (x0 :: x1 :: x2 :: r) T) : w.cell? ⟨B, 2, none⟩ = some x2 := h.cell rfl
theorem BlockIs.c3 {w : World} {B : Nat} {x0 x1 x2 x3 : Value} {r : List Value} {T : TypeId} (h : BlockIs w B (x0 :: x1 :: x2 :: x3 :: r) T) : w.cell? ⟨B, 3, none⟩ = some x3 := h.cell rfl
theorem BlockIs.c4 {w : World} {B : Nat} {x0 x1 x2 x3 x4 : Value} {r : List Value} {T : TypeId} (h : BlockIs w B (x0 :: x1 :: x2 :: x3 :: x4 :: r) T) : w.cell? ⟨B, 4, none⟩ = some x4 := h.cell rfl
theorem BlockIs.c5 {w : World} {B : Nat} {x0 x1 x2 x3 x4 x5 : Value} {r : List Value} {T : TypeId} (h : BlockIs w B (x0 :: x1 :: x2 :: x3 :: x4 :: x5 :: r) T) : w.cell? ⟨B, 5, none⟩ = some x5 := h.cell rfl
theorem BlockIs.c6 {w : World} {B : Nat} {x0 x1 x2 x3 x4 x5 x6 : Value} {r : List Value} {T : TypeId} (h : BlockIs w B (x0 :: x1 :: x2 :: x3 :: x4 :: x5 :: x6 :: r) T) : w.cell? ⟨B, 6, none⟩ = some x6 := h.cell rfl
theorem BlockIs.c7 {w : World} {B : Nat} {x0 x1 x2 x3 x4 x5 x6 x7 : Value} {r : List Value} {T : TypeId} (h : BlockIs w B (x0 :: x1 :: x2 :: x3 :: x4 :: x5 :: x6 :: x7 :: r) T) : w.cell? ⟨B, 7, none⟩ = some x7 := h.cell rfl
theorem BlockIs.c8 {w : World} {B : Nat} {x0 x1 x2 x3 x4 x5 x6 x7 x8 : Value} {r : List Value} {T : TypeId} (h : BlockIs w B (x0 :: x1 :: x2 :: x3 :: x4 :: x5 :: x6 :: x7 :: x8 :: r) T) : w.cell? ⟨B, 8, none⟩ = some x8 := h.cell rfl
theorem BlockIs.c9 {w : World} {B : Nat} {x0 x1 x2 x3 x4 x5 x6 x7 x8 x9 : Value} {r : List Value} {T : TypeId} (h : BlockIs w B (x0 :: x1 :: x2 :: x3 :: x4 :: x5 :: x6 :: x7 :: x8 :: x9 :: r) T) : w.cell? ⟨B, 9, none⟩ = some x9 := h.cell rfl
theorem BlockIs.c10 {w : World} {B : Nat} {x0 x1 x2 x3 x4 x5 x6 x7 x8 x9 x10 : Value} {r : List Value} {T : TypeId} (h : BlockIs w B (x0 :: x1 :: x2 :: x3 :: x4 :: x5 :: x6 :: x7 :: x8 :: x9 :: x10 :: r) T) : w.cell? ⟨B, 10, none⟩ = some x10 := h.cell rfl
theorem BlockIs.c11 {w : World} {B : Nat} {x0 x1 x2 x3 x4 x5 x6 x7 x8 x9 x10 x11 : Value} {r : List Value} {T : TypeId} (h : BlockIs w B (x0 :: x1 :: x2 :: x3 :: x4 :: x5 :: x6 :: x7 :: x8 :: x9 :: x10 :: x11 :: r) T) : w.cell? ⟨B, 11, none⟩ = some x11 := h.cell rfl
theorem BlockIs.c12 {w : World} {B : Nat} {x0 x1 x2 x3 x4 x5 x6 x7 x8 x9 x10 x11 x12 : Value} {r : List Value} {T : TypeId} (h : BlockIs w B (x0 :: x1 :: x2 :: x3 :: x4 :: x5 :: x6 :: x7 :: x8 :: x9 :: x10 :: x11 :: x12 :: r) T) : w.cell? ⟨B, 12, none⟩ = some x12 := h.cell rfl
theorem BlockIs.c13 {w : World} {B : Nat} {x0 x1 x2 x3 x4 x5 x6 x7 x8 x9 x10 x11 x12 x13 : Value} {r : List Value} {T : TypeId} (h : BlockIs w B (x0 :: x1 :: x2 :: x3 :: x4 :: x5 :: x6 :: x7 :: x8 :: x9 :: x10 :: x11 :: x12 :: x13 :: r) T) : w.cell? ⟨B, 13, none⟩ = some x13 := h.cell rfl
theorem BlockIs.c14 {w : World} {B : Nat} {x0 x1 x2 x3 x4 x5 x6 x7 x8 x9 x10 x11 x12 x13 x14 : Value} {r : List Value} {T : TypeId} (h : BlockIs w B (x0 :: x1 :: x2 :: x3 :: x4 :: x5 :: x6 :: x7 :: x8 :: x9 :: x10 :: x11 :: x12 :: x13 :: x14 :: r) T) : w.cell? ⟨B, 14, none⟩ = some x14 := h.cell rfl
theorem BlockIs.c15 {w : World} {B : Nat} {x0 x1 x2 x3 x4 x5 x6 x7 x8 x9 x10 x11 x12 x13 x14 x15 : Value} {r : List Value} {T : TypeId} (h : BlockIs w B (x0 :: x1 :: x2 :: x3 :: x4 :: x5 :: x6 :: x7 :: x8 :: x9 :: x10 :: x11 :: x12 :: x13 :: x14 :: x15 :: r) T) : w.cell? ⟨B, 15, none⟩ = some x15 := h.cell rfl
theorem BlockIs.c16 {w : World} {B : Nat} {x0 x1 x2 x3 x4 x5 x6 x7 x8 x9 x10 x11 x12 x13 x14 x15 x16 : Value} {r : List Value} {T : TypeId} (h : BlockIs w B (x0 :: x1 :: x2 :: x3 :: x4 :: x5 :: x6 :: x7 :: x8 :: x9 :: x10 :: x11 :: x12 :: x13 :: x14 :: x15 :: x16 :: r) T) : w.cell? ⟨B, 16, none⟩ = some x16 := h.cell rfl
theorem BlockIs.c17 {w : World} {B : Nat} {x0 x1 x2 x3 x4 x5 x6 x7 x8 x9 x10 x11 x12 x13 x14 x15 x16 x17 : Value} {r : List Value} {T : TypeId} (h : BlockIs w B (x0 :: x1 :: x2 :: x3 :: x4 :: x5 :: x6 :: x7 :: x8 :: x9 :: x10 :: x11 :: x12 :: x13 :: x14 :: x15 :: x16 :: x17 :: r) T) : w.cell? ⟨B, 17, none⟩ = some x17 := h.cell rfl
theorem BlockIs.c18 {w : World} {B : Nat} {x0 x1 x2 x3 x4 x5 x6 x7 x8 x9 x10 x11 x12 x13 x14 x15 x16 x17 x18 : Value} {r : List Value} {T : TypeId} (h : BlockIs w B (x0 :: x1 :: x2 :: x3 :: x4 :: x5 :: x6 :: x7 :: x8 :: x9 :: x10 :: x11 :: x12 :: x13 :: x14 :: x15 :: x16 :: x17 :: x18 :: r) T) : w.cell? ⟨B, 18, none⟩ = some x18 := h.cell rfl
theorem BlockIs.c19 {w : World} {B : Nat} {x0 x1 x2 x3 x4 x5 x6 x7 x8 x9 x10 x11 x12 x13 x14 x15 x16 x17 x18 x19 : Value} {r : List Value} {T : TypeId} (h : BlockIs w B (x0 :: x1 :: x2 :: x3 :: x4 :: x5 :: x6 :: x7 :: x8 :: x9 :: x10 :: x11 :: x12 :: x13 :: x14 :: x15 :: x16 :: x17 :: x18 :: x19 :: r) T) : w.cell? ⟨B, 19, none⟩ = some x19 := h.cell rfl
theorem BlockIs.e2 {w : World} {B : Nat} {x0 x1 : Value} {r : List Value} {T : TypeId} (h : BlockIs w B (x0 :: x1 :: r) T) : w.cell? ⟨B, 0, none⟩ = some x0 ∧ w.cell? ⟨B, 1, none⟩ = some x1 := ⟨h.cell rfl, h.cell rfl⟩
theorem BlockIs.e3 {w : World} {B : Nat} {x0 x1 x2 : Value} {r : List Value} {T : TypeId} (h : BlockIs w B (x0 :: x1 :: x2 :: r) T) : w.cell? ⟨B, 0, none⟩ = some x0 ∧ w.cell? ⟨B, 1, none⟩ = some x1 ∧ w.cell? ⟨B, 2, none⟩ = some x2 := ⟨h.cell rfl, h.cell rfl, h.cell rfl⟩
theorem BlockIs.e4 {w : World} {B : Nat} {x0 x1 x2 x3 : Value} {r : List Value} {T : TypeId} (h : BlockIs w B (x0 :: x1 :: x2 :: x3 :: r) T) : w.cell? ⟨B, 0, none⟩ = some x0 ∧ w.cell? ⟨B, 1, none⟩ = some x1 ∧ w.cell? ⟨B, 2, none⟩ = some x2 ∧ w.cell? ⟨B, 3, none⟩ = some x3 := ⟨h.cell rfl, h.cell rfl, h.cell rfl, h.cell rfl⟩
theorem BlockIs.e5 {w : World} {B : Nat} {x0 x1 x2 x3 x4 : Value} {r : List Value} {T : TypeId} (h : BlockIs w B (x0 :: x1 :: x2 :: x3 :: x4 :: r) T) : w.cell? ⟨B, 0, none⟩ = some x0 ∧ w.cell? ⟨B, 1, none⟩ = some x1 ∧ w.cell? ⟨B, 2, none⟩ = some x2 ∧ w.cell? ⟨B, 3, none⟩ = some x3 ∧ w.cell? ⟨B, 4, none⟩ = some x4 := ⟨h.cell rfl, h.cell rfl, h.cell rfl, h.cell rfl, h.cell rfl⟩
theorem BlockIs.e6 {w : World} {B : Nat} {x0 x1 x2 x3 x4 x5 : Value} {r : List Value} {T : TypeId} (h : BlockIs w B (x0 :: x1 :: x2 :: x3 :: x4 :: x5 :: r) T) : w.cell? ⟨B, 0, none⟩ = some x0 ∧ w.cell? ⟨B, 1, none⟩ = some x1 ∧ w.cell? ⟨B, 2, none⟩ = some x2 ∧ w.cell? ⟨B, 3, none⟩ = some x3 ∧ w.cell? ⟨B, 4, none⟩ = some x4 ∧ w.cell? ⟨B, 5, none⟩ = some x5 := ⟨h.cell rfl, h.cell rfl, h.cell rfl, h.cell rfl, h.cell rfl, h.cell rfl⟩
theorem BlockIs.e7 {w : World} {B : Nat} {x0 x1 x2 x3 x4 x5 x6 : Value} {r : List Value} {T : TypeId} (h : BlockIs w B (x0 :: x1 :: x2 :: x3 :: x4 :: x5 :: x6 :: r) T) : w.cell? ⟨B, 0, none⟩ = some x0 ∧ w.cell? ⟨B, 1, none⟩ = some x1 ∧ w.cell? ⟨B, 2, none⟩ = some x2 ∧ w.cell? ⟨B, 3, none⟩ = some x3 ∧ w.cell? ⟨B, 4, none⟩ = some x4 ∧ w.cell? ⟨B, 5, none⟩ = some x5 ∧ w.cell? ⟨B, 6, none⟩ = some x6 := ⟨h.cell rfl, h.cell rfl, h.cell rfl, h.cell rfl, h.cell rfl, h.cell rfl, h.cell rfl⟩
theorem BlockIs.e8 {w : World} {B : Nat} {x0 x1 x2 x3 x4 x5 x6 x7 : Value} {r : List Value} {T : TypeId} (h : BlockIs w B (x0 :: x1 :: x2 :: x3 :: x4 :: x5 :: x6 :: x7 :: r) T) : w.cell? ⟨B, 0, none⟩ = some x0 ∧ w.cell? ⟨B, 1, none⟩ = some x1 ∧ w.cell? ⟨B, 2, none⟩ = some x2 ∧ w.cell? ⟨B, 3, none⟩ = some x3 ∧ w.cell? ⟨B, 4, none⟩ = some x4 ∧ w.cell? ⟨B, 5, none⟩ = some x5 ∧ w.cell? ⟨B, 6, none⟩ = some x6 ∧ w.cell? ⟨B, 7, none⟩ = some x7 := ⟨h.cell rfl, h.cell rfl, h.cell rfl, h.cell rfl, h.cell rfl, h.cell rfl, h.cell rfl, h.cell rfl⟩
theorem BlockIs.e9 {w : World} {B : Nat} {x0 x1 x2 x3 x4 x5 x6 x7 x8 : Value} {r : List Value} {T : TypeId} (h : BlockIs w B (x0 :: x1 :: x2 :: x3 :: x4 :: x5 :: x6 :: x7 :: x8 :: r) T) : w.cell? ⟨B, 0, none⟩ = some x0 ∧ w.cell? ⟨B, 1, none⟩ = some x1 ∧ w.cell? ⟨B, 2, none⟩ = some x2 ∧ w.cell? ⟨B, 3, none⟩ = some x3 ∧ w.cell? ⟨B, 4, none⟩ = some x4 ∧ w.cell? ⟨B, 5, none⟩ = some x5 ∧ w.cell? ⟨B, 6, none⟩ = some x6 ∧ w.cell? ⟨B, 7, none⟩ = some x7 ∧ w.cell? ⟨B, 8, none⟩ = some x8 := ⟨h.cell rfl, h.cell rfl, h.cell rfl, h.cell rfl, h.cell rfl, h.cell rfl, h.cell rfl, h.cell rfl, h.cell rfl⟩
theorem BlockIs.e10 {w : World} {B : Nat} {x0 x1 x2 x3 x4 x5 x6 x7 x8 x9 : Value} {r : List Value} {T : TypeId} (h : BlockIs w B (x0 :: x1 :: x2 :: x3 :: x4 :: x5 :: x6 :: x7 :: x8 :: x9 :: r) T) : w.cell? ⟨B, 0, none⟩ = some x0 ∧ w.cell? ⟨B, 1, none⟩ = some x1 ∧ w.cell? ⟨B, 2, none⟩ = some x2 ∧ w.cell? ⟨B, 3, none⟩ = some x3 ∧ w.cell? ⟨B, 4, none⟩ = some x4 ∧ w.cell? ⟨B, 5, none⟩ = some x5 ∧ w.cell? ⟨B, 6, none⟩ = some x6 ∧ w.cell? ⟨B, 7, none⟩ = some x7 ∧ w.cell? ⟨B, 8, none⟩ = some x8 ∧ w.cell? ⟨B, 9, none⟩ = some x9 := ⟨h.cell rfl, h.cell rfl, h.cell rfl, h.cell rfl, h.cell rfl, h.cell rfl, h.cell rfl, h.cell rfl, h.cell rfl, h.cell rfl⟩
theorem BlockIs.e11 {w : World} {B : Nat} {x0 x1 x2 x3 x4 x5 x6 x7 x8 x9 x10 : Value} {r : List Value} {T : TypeId} (h : BlockIs w B (x0 :: x1 :: x2 :: x3 :: x4 :: x5 :: x6 :: x7 :: x8 :: x9 :: x10 :: r) T) : w.cell? ⟨B, 0, none⟩ = some x0 ∧ w.cell? ⟨B, 1, none⟩ = some x1 ∧ w.cell? ⟨B, 2, none⟩ = some x2 ∧ w.cell? ⟨B, 3, none⟩ = some x3 ∧ w.cell? ⟨B, 4, none⟩ = some x4 ∧ w.cell? ⟨B, 5, none⟩ = some x5 ∧ w.cell? ⟨B, 6, none⟩ = some x6 ∧ w.cell? ⟨B, 7, none⟩ = some x7 ∧ w.cell? ⟨B, 8, none⟩ = some x8 ∧ w.cell? ⟨B, 9, none⟩ = some x9 ∧ w.cell? ⟨B, 10, none⟩ = some x10 := ⟨h.cell rfl, h.cell rfl, h.cell rfl, h.cell rfl, h.cell rfl, h.cell rfl, h.cell rfl, h.cell rfl, h.cell rfl, h.cell rfl, h.cell rfl⟩
theorem BlockIs.e12 {w : World} {B : Nat} {x0 x1 x2 x3 x4 x5 x6 x7 x8 x9 x10 x11 : Value} {r : List Value} {T : TypeId} (h : BlockIs w B (x0 :: x1 :: x2 :: x3 :: x4 :: x5 :: x6 :: x7 :: x8 :: x9 :: x10 :: x11 :: r) T) : w.cell? ⟨B, 0, none⟩ = some x0 ∧ w.cell? ⟨B, 1, none⟩ = some x1 ∧ w.cell? ⟨B, 2, none⟩ = some x2 ∧ w.cell? ⟨B, 3, none⟩ = some x3 ∧ w.cell? ⟨B, 4, none⟩ = some x4 ∧ w.cell? ⟨B, 5, none⟩ = some x5 ∧ w.cell? ⟨B, 6, none⟩ = some x6 ∧ w.cell? ⟨B, 7, none⟩ = some x7 ∧ w.cell? ⟨B, 8, none⟩ = some x8 ∧ w.cell? ⟨B, 9, none⟩ = some x9 ∧ w.cell? ⟨B, 10, none⟩ = some x10 ∧ w.cell? ⟨B, 11, none⟩ = some x11 := ⟨h.cell rfl, h.cell rfl, h.cell rfl, h.cell rfl, h.cell rfl, h.cell rfl, h.cell rfl, h.cell rfl, h.cell rfl, h.cell rfl, h.cell rfl, h.cell rfl⟩
theorem BlockIs.e13 {w : World} {B : Nat} {x0 x1 x2 x3 x4 x5 x6 x7 x8 x9 x10 x11 x12 : Value} {r : List Value} {T : TypeId} (h : BlockIs w B (x0 :: x1 :: x2 :: x3 :: x4 :: x5 :: x6 :: x7 :: x8 :: x9 :: x10 :: x11 :: x12 :: r) T) : w.cell? ⟨B, 0, none⟩ = some x0 ∧ w.cell? ⟨B, 1, none⟩ = some x1 ∧ w.cell? ⟨B, 2, none⟩ = some x2 ∧ w.cell? ⟨B, 3, none⟩ = some x3 ∧ w.cell? ⟨B, 4, none⟩ = some x4 ∧ w.cell? ⟨B, 5, none⟩ = some x5 ∧ w.cell? ⟨B, 6, none⟩ = some x6 ∧ w.cell? ⟨B, 7, none⟩ = some x7 ∧ w.cell? ⟨B, 8, none⟩ = some x8 ∧ w.cell? ⟨B, 9, none⟩ = some x9 ∧ w.cell? ⟨B, 10, none⟩ = some x10 ∧ w.cell? ⟨B, 11, none⟩ = some x11 ∧ w.cell? ⟨B, 12, none⟩ = some x12 := ⟨h.cell rfl, h.cell rfl, h.cell rfl, h.cell rfl, h.cell rfl, h.cell rfl, h.cell rfl, h.cell rfl, h.cell rfl, h.cell rfl, h.cell rfl, h.cell rfl, h.cell rfl⟩
theorem zg1 {α : Type} {l : List α} {i : Nat} (h : i < l.toArray.size) : l.toArray[i] = l[i]'(by simpa using h) := List.getElem_toArray h
theorem zg2 {α : Type} {a : α} {l : List α} {h : 0 < (a :: l).length} : (a :: l)[0] = a := rfl
theorem zg3 {α : Type} {a : α} {l : List α} {i : Nat} {h : i + 1 < (a :: l).length} : (a :: l)[i + 1] = l[i]'(Nat.lt_of_succ_lt_succ h) := rfl
theorem zs1 {α : Type} (l : List α) (i : Nat) (a : α) : l.toArray.setIfInBounds i a = (l.set i a).toArray := List.setIfInBounds_toArray _ _ _
theorem zs2 {α : Type} {a b : α} {l : List α} : (a :: l).set 0 b = b :: l := rfl
theorem zs3 {α : Type} {a b : α} {l : List α} {i : Nat} : (a :: l).set (i + 1) b = a :: l.set i b := rfl
theorem zh {p : Prop} (h : p) : Hid p := h
theorem zh2 {p0 p1 : Prop} (h0 : p0) (h1 : p1) : Hid p0 ∧ Hid p1 := ⟨zh h0, zh h1⟩
theorem nz2 {α0 α1 : Type} (a0 : α0) (a1 : α1) : ∃ x0, x0 = a0 ∧ ∃ x1, x1 = a1 := ⟨_, rfl, _, rfl⟩
theorem zh3 {p0 p1 p2 : Prop} (h0 : p0) (h1 : p1) (h2 : p2) : Hid p0 ∧ Hid p1 ∧ Hid p2 := ⟨zh h0, zh h1, zh h2⟩
theorem nz3 {α0 α1 α2 : Type} (a0 : α0) (a1 : α1) (a2 : α2) : ∃ x0, x0 = a0 ∧ ∃ x1, x1 = a1 ∧ ∃ x2, x2 = a2 := ⟨_, rfl, _, rfl, _, rfl⟩
theorem zh4 {p0 p1 p2 p3 : Prop} (h0 : p0) (h1 : p1) (h2 : p2) (h3 : p3) : Hid p0 ∧ Hid p1 ∧ Hid p2 ∧ Hid p3 := ⟨zh h0, zh h1, zh h2, zh h3⟩
theorem zh5 {p0 p1 p2 p3 p4 : Prop} (h0 : p0) (h1 : p1) (h2 : p2) (h3 : p3) (h4 : p4) : Hid p0 ∧ Hid p1 ∧ Hid p2 ∧ Hid p3 ∧ Hid p4 := ⟨zh h0, zh h1, zh h2, zh h3, zh h4⟩
theorem zh6 {p0 p1 p2 p3 p4 p5 : Prop} (h0 : p0) (h1 : p1) (h2 : p2) (h3 : p3) (h4 : p4) (h5 : p5) : Hid p0 ∧ Hid p1 ∧ Hid p2 ∧ Hid p3 ∧ Hid p4 ∧ Hid p5 := ⟨zh h0, zh h1, zh h2, zh h3, zh h4, zh h5⟩
theorem nz6 {α0 α1 α2 α3 α4 α5 : Type} (a0 : α0) (a1 : α1) (a2 : α2) (a3 : α3) (a4 : α4) (a5 : α5) : ∃ x0, x0 = a0 ∧ ∃ x1, x1 = a1 ∧ ∃ x2, x2 = a2 ∧ ∃ x3, x3 = a3 ∧ ∃ x4, x4 = a4 ∧ ∃ x5, x5 = a5 := ⟨_, rfl, _, rfl, _, rfl, _, rfl, _, rfl, _, rfl⟩
theorem zh7 {p0 p1 p2 p3 p4 p5 p6 : Prop} (h0 : p0) (h1 : p1) (h2 : p2) (h3 : p3) (h4 : p4) (h5 : p5) (h6 : p6) : Hid p0 ∧ Hid p1 ∧ Hid p2 ∧ Hid p3 ∧ Hid p4 ∧ Hid p5 ∧ Hid p6 := ⟨zh h0, zh h1, zh h2, zh h3, zh h4, zh h5, zh h6⟩
theorem zh8 {p0 p1 p2 p3 p4 p5 p6 p7 : Prop} (h0 : p0) (h1 : p1) (h2 : p2) (h3 : p3) (h4 : p4) (h5 : p5) (h6 : p6) (h7 : p7) : Hid p0 ∧ Hid p1 ∧ Hid p2 ∧ Hid p3 ∧ Hid p4 ∧ Hid p5 ∧ Hid p6 ∧ Hid p7 := ⟨zh h0, zh h1, zh h2, zh h3, zh h4, zh h5, zh h6, zh h7⟩
theorem nz8 {α0 α1 α2 α3 α4 α5 α6 α7 : Type} (a0 : α0) (a1 : α1) (a2 : α2) (a3 : α3) (a4 : α4) (a5 : α5) (a6 : α6) (a7 : α7) : ∃ x0, x0 = a0 ∧ ∃ x1, x1 = a1 ∧ ∃ x2, x2 = a2 ∧ ∃ x3, x3 = a3 ∧ ∃ x4, x4 = a4 ∧ ∃ x5, x5 = a5 ∧ ∃ x6, x6 = a6 ∧ ∃ x7, x7 = a7 := ⟨_, rfl, _, rfl, _, rfl, _, rfl, _, rfl, _, rfl, _, rfl, _, rfl⟩
theorem zh10 {p0 p1 p2 p3 p4 p5 p6 p7 p8 p9 : Prop} (h0 : p0) (h1 : p1) (h2 : p2) (h3 : p3) (h4 : p4) (h5 : p5) (h6 : p6) (h7 : p7) (h8 : p8) (h9 : p9) : Hid p0 ∧ Hid p1 ∧ Hid p2 ∧ Hid p3 ∧ Hid p4 ∧ Hid p5 ∧ Hid p6 ∧ Hid p7 ∧ Hid p8 ∧ Hid p9 := ⟨zh h0, zh h1, zh h2, zh h3, zh h4, zh h5, zh h6, zh h7, zh h8, zh h9⟩
theorem nz10 {α0 α1 α2 α3 α4 α5 α6 α7 α8 α9 : Type} (a0 : α0) (a1 : α1) (a2 : α2) (a3 : α3) (a4 : α4) (a5 : α5) (a6 : α6) (a7 : α7) (a8 : α8) (a9 : α9) : ∃ x0, x0 = a0 ∧ ∃ x1, x1 = a1 ∧ ∃ x2, x2 = a2 ∧ ∃ x3, x3 = a3 ∧ ∃ x4, x4 = a4 ∧ ∃ x5, x5 = a5 ∧ ∃ x6, x6 = a6 ∧ ∃ x7, x7 = a7 ∧ ∃ x8, x8 = a8 ∧ ∃ x9, x9 = a9 := ⟨_, rfl, _, rfl, _, rfl, _, rfl, _, rfl, _, rfl, _, rfl, _, rfl, _, rfl, _, rfl⟩
theorem zh12 {p0 p1 p2 p3 p4 p5 p6 p7 p8 p9 p10 p11 : Prop} (h0 : p0) (h1 : p1) (h2 : p2) (h3 : p3) (h4 : p4) (h5 : p5) (h6 : p6) (h7 : p7) (h8 : p8) (h9 : p9) (h10 : p10) (h11 : p11) : Hid p0 ∧ Hid p1 ∧ Hid p2 ∧ Hid p3 ∧ Hid p4 ∧ Hid p5 ∧ Hid p6 ∧ Hid p7 ∧ Hid p8 ∧ Hid p9 ∧ Hid p10 ∧ Hid p11 := ⟨zh h0, zh h1, zh h2, zh h3, zh h4, zh h5, zh h6, zh h7, zh h8, zh h9, zh h10, zh h11⟩
end Go.Proofs.YtnplgagaoeckoaaGreat
namespace Go.Proofs.YtnplgagaoeckoaaGreat.Hp
/-- a strict total order, told by a Bool function -/
structure Tot {α : Type} (lt : α → α → Bool) : Prop where
 asymm : ∀ a b, lt a b = true → lt b a = false
 trans : ∀ a b c, lt b a = false → lt c b = false → lt c a = false
 anti : ∀ a b, lt a b = false → lt b a = false → a = b

section
variable {α : Type} {lt : α → α → Bool}
def swp (h : List α) (i j : Nat) (x y : α) : List α := (h.set i y).set j x
theorem swp_len (h : List α) (i j : Nat) (x y : α) : (swp h i j x y).length = h.length := by simp [swp]
/-! ### the whole property -/
def par (i : Nat) : Nat := (i - 1) / 2
/-! ### rising -/
def up (lt : α → α → Bool) (h : List α) (i : Nat) : List α :=
 if _h0 : 0 < i then
  match h[i]?, h[par i]? with
  | some x, some p => if lt x p = true then up lt (swp h i (par i) x p) (par i) else h
  | _, _ => h
 else h
termination_by i
decreasing_by unfold par; omega
/-! ### sinking -/
/-- the first of a place and of one below it -/
def pick (lt : α → α → Bool) (h : List α) (b k : Nat) : Nat := match h[k]?, h[b]? with
 | some x, some y => if lt x y = true then k else b
 | _, _ => b
def best (lt : α → α → Bool) (h : List α) (i : Nat) : Nat := pick lt h (pick lt h i (2 * i + 1)) (2 * i + 2)
theorem pick_cases (h : List α) (b k : Nat) : pick lt h b k = b ∨ (pick lt h b k = k ∧ k < h.length) := by
 unfold pick
 split
 ·rename_i x y hx hy
  split
  ·exact Or.inr ⟨rfl, (List.getElem?_eq_some_iff.1 hx).1⟩
  ·exact Or.inl rfl
 ·exact Or.inl rfl
theorem best_cases (h : List α) (i : Nat) : best lt h i = i ∨ (best lt h i = 2 * i + 1 ∧ 2 * i + 1 < h.length) ∨ (best lt h i = 2 * i + 2 ∧ 2 * i + 2 < h.length) := by
 unfold best
 rcases pick_cases (lt := lt) h (pick lt h i (2 * i + 1)) (2 * i + 2) with e | e
 ·rw [e]
  rcases pick_cases (lt := lt) h i (2 * i + 1) with e | e
  ·exact Or.inl e
  ·exact Or.inr (Or.inl e)
 ·exact Or.inr (Or.inr e)
def down (lt : α → α → Bool) (h : List α) (i : Nat) : List α :=
 if _hb : best lt h i = i then h
 else match h[i]?, h[best lt h i]? with
  | some x, some y => down lt (swp h i (best lt h i) x y) (best lt h i)
  | _, _ => h
termination_by h.length - i
decreasing_by
 rw [swp_len]
 rcases best_cases (lt := lt) h i with e | e | e <;> omega
/-! ### a heap of any items -/
/-! ### one more, one less -/
def push (lt : α → α → Bool) (h : List α) (x : α) : List α := up lt (h ++ [x]) h.length
/-- the last in the first's place, and sunk -/
def rest (lt : α → α → Bool) (h : List α) : List α := match h.getLast? with
 | none => []
 | some z => down lt ((h.set 0 z).take (h.length - 1)) 0
/-! ### in order -/
/-- an item laid into a list as its items stand -/
def put (lt : α → α → Bool) : List α → α → List α
 | [], x => [x]
 | y :: t, x => if lt x y = true then x :: y :: t else y :: put lt t x
def sort (lt : α → α → Bool) (l : List α) : List α := l.foldl (put lt) []
/-! ### the reference's look at a heap: each place against those below it -/
end
end Go.Proofs.YtnplgagaoeckoaaGreat.Hp
namespace Go.Proofs.YtnplgagaoeckoaaGreat
open Go.RowKit
def isDig (c : UInt8) : Prop := 48 ≤ c.toNat ∧ c.toNat ≤ 57
instance (c : UInt8) : Decidable (isDig c) := by unfold isDig; infer_instance
/-! ### hex numbers -/
theorem or_add (m b i : Nat) (hb : b < 2 ^ i) : (m * 2 ^ i) ||| b = m * 2 ^ i + b := by
 have := Nat.shiftLeft_add_eq_or_of_lt hb m
 rw [Nat.shiftLeft_eq] at this; exact this.symm
theorem and32_u64 (m : Nat) (hm : m < 18446744073709551616) : bits .and .u64 (m : Int) 4294967295 = (m : Int) % 4294967296 := by
 have h : bits .and .u64 (m : Int) 4294967295 = ((m &&& 4294967295 : Nat) : Int) := bits_and_u64_nat m 4294967295 hm (by omega)
 rw [h, show m &&& 4294967295 = m % 4294967296 from Nat.and_two_pow_sub_one_eq_mod m 32]; omega
end Go.Proofs.YtnplgagaoeckoaaGreat
