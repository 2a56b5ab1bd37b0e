/- Texts put together: Walk. No condition. -/
import Derived.WalkKit
import Derived.BigQuiet
import Derived.Deep.QuietTactic
import Derived.Lib.Hide
namespace Go.Proofs.Ytnohkfbapibmdaa
open Go.RowKit

/-- what a world grows by: new blocks, draws -/
structure Grow where
  xs : Array Obj
  d : Nat
instance : Inhabited Grow := ⟨⟨#[], 0⟩⟩
/-- the world with new blocks behind the old ones -/
def ext (w : World) (x : Grow) : World := { w with heap := w.heap ++ x.xs, drawn := x.d }
theorem ext_below (w : World) (x : Grow) : Below w.heap.size w (ext w x) :=
  ⟨rfl, rfl, rfl, by simp [ext], fun k hk => by simp [ext, Array.getElem?_append, hk]⟩
theorem below_ext {w w' : World} (h : Below w.heap.size w w') : ∃ x, w' = ext w x := by
  refine ⟨⟨w'.heap.extract w.heap.size w'.heap.size, w'.drawn⟩, ?_⟩
  have hs := h.size
  have hh : w'.heap = w.heap ++ w'.heap.extract w.heap.size w'.heap.size := by
    apply Array.ext_getElem?
    intro i
    by_cases hi : i < w.heap.size
    · rw [Array.getElem?_append, if_pos hi]; exact h.block i hi
    · rw [Array.getElem?_append, if_neg hi, Array.getElem?_extract]
      by_cases hj : i < w'.heap.size
      · rw [if_pos (by omega), show w.heap.size + (i - w.heap.size) = i from by omega]
      · rw [if_neg (by omega)]; exact Array.getElem?_eq_none (by omega)
  obtain ⟨h1, h2, h3, _, _⟩ := h
  cases w; cases w'
  simp only [ext] at *
  subst h1 h2 h3
  rw [← hh]
theorem ext_cell (w : World) (x : Grow) {p : Addr} (h : p.block < w.heap.size) : (ext w x).cell? p = w.cell? p := (ext_below w x).cell h
theorem wp_region_ext {P : Program} {id : Nat} {Q : Exit → Act → World → Prop} {a : Act} {w : World} {l : List Oper} (hm : P.follows .mixedOrders = true) (hB : Region.lexB .any l.toArray = true)
    (h : wpQuiet P l.toArray (fun w' => ∃ x, w' = ext w x) (fun a' => ∀ w', (∃ x, w' = ext w x) → Q .normal a' w') l a) : (Code.region id l.toArray true).wp P Q a w :=
  wp_region_quiet (C := fun w' => ∃ x, w' = ext w x) hm hB ⟨⟨#[], w.drawn + 1⟩, by simp [ext]⟩ (by simpa using h)
theorem qe {P : Program} {f : FuncId} {args : Array Value} {w : World} {x : Grow} {v : Value}
    (h : Calls P f args (ext w x) fun e w' => e = .returned v ∧ Below (ext w x).heap.size (ext w x) w') : Calls P f args (ext w x) fun e w'' => e = .returned v ∧ ∃ x', w'' = ext w x' :=
  h.mono fun _ _ ⟨he, hb⟩ => ⟨he, below_ext ((ext_below w x).trans (hb.mono (ext_below w x).size))⟩
theorem qs {P : Program} {f : FuncId} {args : Array Value} {w : World} {x : Grow} {v : Value}
    (h : Calls P f args (ext w x) fun e w' => e = .returned v ∧ ext w x = w') : Calls P f args (ext w x) fun e w'' => e = .returned v ∧ ∃ x', w'' = ext w x' :=
  h.mono fun _ _ ⟨he, hb⟩ => ⟨he, x, hb.symm⟩
/-- behind a callee that makes memory: what the old cells hold -/
theorem bcell {W w1 : World} (hb : Below W.heap.size W w1) : (∀ b o, b < W.heap.size → w1.cell? ⟨b, o, none⟩ = W.cell? ⟨b, o, none⟩) ∧ (∀ b o, b < W.heap.size → w1.frozen? ⟨b, o, none⟩ = W.frozen? ⟨b, o, none⟩) :=
  ⟨fun b o h => hb.cell (p := ⟨b, o, none⟩) h, fun b o h => hb.frozen (p := ⟨b, o, none⟩) h⟩
theorem keep {B : Nat} {W W' : World} (hb : Below B W W') {b o : Nat} {v : Value} (h : b < B) (hc : W.cell? ⟨b, o, none⟩ = some v) : W'.cell? ⟨b, o, none⟩ = some v := by
  rw [hb.cell (p := ⟨b, o, none⟩) h]; exact hc
/-- a block of cells, told whole -/
def BlockIs (w : World) (B : Nat) (arr : List Value) (T : TypeId) : Prop := w.heap[B]? = some (.cells arr.toArray T)
theorem BlockIs.lt {w : World} {B : Nat} {arr : List Value} {T : TypeId} (h : BlockIs w B arr T) : B < w.heap.size := by
  rcases Nat.lt_or_ge B w.heap.size with h1 | h1
  · exact h1
  · unfold BlockIs at h; rw [Array.getElem?_eq_none h1] at h; cases h
theorem BlockIs.new (w : World) (arr : List Value) (T : TypeId) : BlockIs (w.alloc (.cells arr.toArray T)) w.heap.size arr T := by
  show (w.heap.push _)[w.heap.size]? = _; simp
theorem BlockIs.cell {w : World} {B : Nat} {arr : List Value} {T : TypeId} (h : BlockIs w B arr T) {i : Nat} {v : Value} (hi : arr[i]? = some v) : w.cell? ⟨B, i, none⟩ = some v := by
  unfold BlockIs at h; simp [World.cell?, h, hi]
theorem BlockIs.frozen {w : World} {B : Nat} {arr : List Value} {T : TypeId} (h : BlockIs w B arr T) (i : Nat) : w.frozen? ⟨B, i, none⟩ = false := by
  unfold BlockIs at h; simp [World.frozen?, h]
theorem BlockIs.set {w : World} {B : Nat} {arr : List Value} {T : TypeId} (h : BlockIs w B arr T) (i : Nat) (v : Value) : BlockIs (w.setCell ⟨B, i, none⟩ v) B (arr.set i v) T := by
  unfold BlockIs at *
  simp only [World.setCell, Array.getElem?_modify]
  simp [h]
theorem BlockIs.below {w w' : World} {B : Nat} {arr : List Value} {T : TypeId} (h : BlockIs w B arr T) (hb : Below w.heap.size w w') : BlockIs w' B arr T := by
  have := hb.block B h.lt; unfold BlockIs at *; rw [this]; exact h
end Go.Proofs.Ytnohkfbapibmdaa
