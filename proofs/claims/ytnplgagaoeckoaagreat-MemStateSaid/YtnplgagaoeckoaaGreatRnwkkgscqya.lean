/- Texts put together: Walk, PlHeap, PlDec, PlBits. No condition. -/
import Derived.WalkKit
import Derived.BigQuiet
import Derived.Deep.QuietTactic
import Derived.Lib.Hide
import Derived.Test.YtnplgagaoeckoaaGreatRfwnkgoffnn
namespace Go.Proofs.YtnplgagaoeckoaaGreat
open Go.RowKit

/-- what a world grows by: new blocks, draws -/
structure Grow where
  xs : Array Obj
  d : Nat
instance : Inhabited Grow := ⟨⟨#[], 0⟩⟩
/-- the world with new blocks behind the old ones -/
def ext (w : World) (x : Grow) : World := { w with heap := w.heap ++ x.xs, drawn := x.d }
theorem ext_below (w : World) (x : Grow) : Below w.heap.size w (ext w x) :=
  ⟨rfl, rfl, rfl, by simp [ext], fun k hk => by simp [ext, Array.getElem?_append, hk]⟩
theorem below_ext {w w' : World} (h : Below w.heap.size w w') : ∃ x, w' = ext w x := by
  refine ⟨⟨w'.heap.extract w.heap.size w'.heap.size, w'.drawn⟩, ?_⟩
  have hs := h.size
  have hh : w'.heap = w.heap ++ w'.heap.extract w.heap.size w'.heap.size := by
    apply Array.ext_getElem?
    intro i
    by_cases hi : i < w.heap.size
    · rw [Array.getElem?_append, if_pos hi]; exact h.block i hi
    · rw [Array.getElem?_append, if_neg hi, Array.getElem?_extract]
      by_cases hj : i < w'.heap.size
      · rw [if_pos (by omega), show w.heap.size + (i - w.heap.size) = i from by omega]
      · rw [if_neg (by omega)]; exact Array.getElem?_eq_none (by omega)
  obtain ⟨h1, h2, h3, _, _⟩ := h
  cases w; cases w'
  simp only [ext] at *
  subst h1 h2 h3
  rw [← hh]
theorem ext_cell (w : World) (x : Grow) {p : Addr} (h : p.block < w.heap.size) : (ext w x).cell? p = w.cell? p := (ext_below w x).cell h
theorem wp_region_ext {P : Program} {id : Nat} {Q : Exit → Act → World → Prop} {a : Act} {w : World} {l : List Oper} (hm : P.follows .mixedOrders = true) (hB : Region.lexB .any l.toArray = true)
    (h : wpQuiet P l.toArray (fun w' => ∃ x, w' = ext w x) (fun a' => ∀ w', (∃ x, w' = ext w x) → Q .normal a' w') l a) : (Code.region id l.toArray true).wp P Q a w :=
  wp_region_quiet (C := fun w' => ∃ x, w' = ext w x) hm hB ⟨⟨#[], w.drawn + 1⟩, by simp [ext]⟩ (by simpa using h)
theorem qe {P : Program} {f : FuncId} {args : Array Value} {w : World} {x : Grow} {v : Value}
    (h : Calls P f args (ext w x) fun e w' => e = .returned v ∧ Below (ext w x).heap.size (ext w x) w') : Calls P f args (ext w x) fun e w'' => e = .returned v ∧ ∃ x', w'' = ext w x' :=
  h.mono fun _ _ ⟨he, hb⟩ => ⟨he, below_ext ((ext_below w x).trans (hb.mono (ext_below w x).size))⟩
theorem qs {P : Program} {f : FuncId} {args : Array Value} {w : World} {x : Grow} {v : Value}
    (h : Calls P f args (ext w x) fun e w' => e = .returned v ∧ ext w x = w') : Calls P f args (ext w x) fun e w'' => e = .returned v ∧ ∃ x', w'' = ext w x' :=
  h.mono fun _ _ ⟨he, hb⟩ => ⟨he, x, hb.symm⟩
/-- behind a callee that makes memory: what the old cells hold -/
theorem bcell {W w1 : World} (hb : Below W.heap.size W w1) : (∀ b o, b < W.heap.size → w1.cell? ⟨b, o, none⟩ = W.cell? ⟨b, o, none⟩) ∧ (∀ b o, b < W.heap.size → w1.frozen? ⟨b, o, none⟩ = W.frozen? ⟨b, o, none⟩) :=
  ⟨fun b o h => hb.cell (p := ⟨b, o, none⟩) h, fun b o h => hb.frozen (p := ⟨b, o, none⟩) h⟩
theorem keep {B : Nat} {W W' : World} (hb : Below B W W') {b o : Nat} {v : Value} (h : b < B) (hc : W.cell? ⟨b, o, none⟩ = some v) : W'.cell? ⟨b, o, none⟩ = some v := by
  rw [hb.cell (p := ⟨b, o, none⟩) h]; exact hc
theorem below2 {w w1 w2 : World} (b1 : Below w.heap.size w w1) (b2 : Below w1.heap.size w1 w2) : Below w.heap.size w w2 := b1.trans (b2.mono b1.size)
/-- a block of cells, told whole -/
def BlockIs (w : World) (B : Nat) (arr : List Value) (T : TypeId) : Prop := w.heap[B]? = some (.cells arr.toArray T)
theorem BlockIs.lt {w : World} {B : Nat} {arr : List Value} {T : TypeId} (h : BlockIs w B arr T) : B < w.heap.size := by
  rcases Nat.lt_or_ge B w.heap.size with h1 | h1
  · exact h1
  · unfold BlockIs at h; rw [Array.getElem?_eq_none h1] at h; cases h
theorem BlockIs.new (w : World) (arr : List Value) (T : TypeId) : BlockIs (w.alloc (.cells arr.toArray T)) w.heap.size arr T := by
  show (w.heap.push _)[w.heap.size]? = _; simp
theorem BlockIs.cell {w : World} {B : Nat} {arr : List Value} {T : TypeId} (h : BlockIs w B arr T) {i : Nat} {v : Value} (hi : arr[i]? = some v) : w.cell? ⟨B, i, none⟩ = some v := by
  unfold BlockIs at h; simp [World.cell?, h, hi]
theorem BlockIs.frozen {w : World} {B : Nat} {arr : List Value} {T : TypeId} (h : BlockIs w B arr T) (i : Nat) : w.frozen? ⟨B, i, none⟩ = false := by
  unfold BlockIs at h; simp [World.frozen?, h]
theorem BlockIs.set {w : World} {B : Nat} {arr : List Value} {T : TypeId} (h : BlockIs w B arr T) (i : Nat) (v : Value) : BlockIs (w.setCell ⟨B, i, none⟩ v) B (arr.set i v) T := by
  unfold BlockIs at *
  simp only [World.setCell, Array.getElem?_modify]
  simp [h]
theorem BlockIs.below {w w' : World} {B : Nat} {arr : List Value} {T : TypeId} (h : BlockIs w B arr T) (hb : Below w.heap.size w w') : BlockIs w' B arr T := by
  have := hb.block B h.lt; unfold BlockIs at *; rw [this]; exact h
theorem bel {B : Nat} {w w' : World} (h : Below B w w' := by (repeat (first | with_reducible assumption | with_reducible exact Below.refl _ _ | with_reducible refine Below.setCell ?_ (by first | omega | (simp; done) | (simp; omega)) _ | with_reducible refine Below.alloc ?_ (by first | omega | (simp; done) | (simp; omega)) _ | with_reducible refine Below.drew ?_ | (with_reducible refine Below.trans ?_ (Below.mono (by with_reducible assumption) (by first | omega | (simp; done) | (simp; omega)))) | (refine Below.trans ?_ (Below.mono (by assumption) (by first | omega | (simp; done) | (simp; omega))))))) : Below B w w' := h
end Go.Proofs.YtnplgagaoeckoaaGreat
namespace Go.Proofs.YtnplgagaoeckoaaGreat.Hp

/-- a strict total order, told by a Bool function -/
structure Tot {α : Type} (lt : α → α → Bool) : Prop where
  asymm : ∀ a b, lt a b = true → lt b a = false
  trans : ∀ a b c, lt b a = false → lt c b = false → lt c a = false
  anti : ∀ a b, lt a b = false → lt b a = false → a = b

section
variable {α : Type} {lt : α → α → Bool}
def swp (h : List α) (i j : Nat) (x y : α) : List α := (h.set i y).set j x
theorem swp_len (h : List α) (i j : Nat) (x y : α) : (swp h i j x y).length = h.length := by simp [swp]
/-! ### the whole property -/
def par (i : Nat) : Nat := (i - 1) / 2
/-! ### rising -/
def up (lt : α → α → Bool) (h : List α) (i : Nat) : List α :=
  if _h0 : 0 < i then
    match h[i]?, h[par i]? with
    | some x, some p => if lt x p = true then up lt (swp h i (par i) x p) (par i) else h
    | _, _ => h
  else h
termination_by i
decreasing_by unfold par; omega
/-! ### sinking -/
/-- the first of a place and of one below it -/
def pick (lt : α → α → Bool) (h : List α) (b k : Nat) : Nat := match h[k]?, h[b]? with
  | some x, some y => if lt x y = true then k else b
  | _, _ => b
def best (lt : α → α → Bool) (h : List α) (i : Nat) : Nat := pick lt h (pick lt h i (2 * i + 1)) (2 * i + 2)
theorem pick_cases (h : List α) (b k : Nat) : pick lt h b k = b ∨ (pick lt h b k = k ∧ k < h.length) := by
  unfold pick
  split
  · rename_i x y hx hy
    split
    · exact Or.inr ⟨rfl, (List.getElem?_eq_some_iff.1 hx).1⟩
    · exact Or.inl rfl
  · exact Or.inl rfl
theorem best_cases (h : List α) (i : Nat) : best lt h i = i ∨ (best lt h i = 2 * i + 1 ∧ 2 * i + 1 < h.length) ∨ (best lt h i = 2 * i + 2 ∧ 2 * i + 2 < h.length) := by
  unfold best
  rcases pick_cases (lt := lt) h (pick lt h i (2 * i + 1)) (2 * i + 2) with e | e
  · rw [e]
    rcases pick_cases (lt := lt) h i (2 * i + 1) with e | e
    · exact Or.inl e
    · exact Or.inr (Or.inl e)
  · exact Or.inr (Or.inr e)
def down (lt : α → α → Bool) (h : List α) (i : Nat) : List α :=
  if _hb : best lt h i = i then h
  else match h[i]?, h[best lt h i]? with
    | some x, some y => down lt (swp h i (best lt h i) x y) (best lt h i)
    | _, _ => h
termination_by h.length - i
decreasing_by
  rw [swp_len]
  rcases best_cases (lt := lt) h i with e | e | e <;> omega
/-! ### a heap of any items -/
/-! ### one more, one less -/
def push (lt : α → α → Bool) (h : List α) (x : α) : List α := up lt (h ++ [x]) h.length
/-- the last in the first's place, and sunk -/
def rest (lt : α → α → Bool) (h : List α) : List α := match h.getLast? with
  | none => []
  | some z => down lt ((h.set 0 z).take (h.length - 1)) 0
/-! ### in order -/
/-- an item laid into a list as its items stand -/
def put (lt : α → α → Bool) : List α → α → List α
  | [], x => [x]
  | y :: t, x => if lt x y = true then x :: y :: t else y :: put lt t x
def sort (lt : α → α → Bool) (l : List α) : List α := l.foldl (put lt) []
/-! ### the reference's look at a heap: each place against those below it -/
end
end Go.Proofs.YtnplgagaoeckoaaGreat.Hp
namespace Go.Proofs.YtnplgagaoeckoaaGreat
open Go.RowKit

def isDig (c : UInt8) : Prop := 48 ≤ c.toNat ∧ c.toNat ≤ 57
instance (c : UInt8) : Decidable (isDig c) := by unfold isDig; infer_instance
/-! ### hex numbers -/
end Go.Proofs.YtnplgagaoeckoaaGreat
namespace Go.Proofs.YtnplgagaoeckoaaGreat
open Go.RowKit
theorem or_add (m b i : Nat) (hb : b < 2 ^ i) : (m * 2 ^ i) ||| b = m * 2 ^ i + b := by
  have := Nat.shiftLeft_add_eq_or_of_lt hb m
  rw [Nat.shiftLeft_eq] at this; exact this.symm
theorem and32_u64 (m : Nat) (hm : m < 18446744073709551616) : bits .and .u64 (m : Int) 4294967295 = (m : Int) % 4294967296 := by
  have h : bits .and .u64 (m : Int) 4294967295 = ((m &&& 4294967295 : Nat) : Int) := bits_and_u64_nat m 4294967295 hm (by omega)
  rw [h, show m &&& 4294967295 = m % 4294967296 from Nat.and_two_pow_sub_one_eq_mod m 32]; omega
theorem and1_u64 (m : Nat) (hm : m < 18446744073709551616) : bits .and .u64 (m : Int) 1 = (m : Int) % 2 := by
  have h : bits .and .u64 (m : Int) 1 = ((m &&& 1 : Nat) : Int) := bits_and_u64_nat m 1 hm (by omega)
  rw [h, Nat.and_one_is_mod]; omega
end Go.Proofs.YtnplgagaoeckoaaGreat
