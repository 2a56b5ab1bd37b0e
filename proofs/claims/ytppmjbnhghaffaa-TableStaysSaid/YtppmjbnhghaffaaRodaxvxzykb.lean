/- Texts put together: Walk, Row, PlHeap, PlIt, PlDec, PlBits. No condition. -/
import Derived.WalkKit
import Derived.BigQuiet
import Derived.Deep.QuietTactic
import Derived.Lib.Hide
import Derived.Deep.RegionLaw
import Derived.Test.YtppmjbnhghaffaaRnhmkjtgjxl
namespace Go.Proofs.Ytppmjbnhghaffaa
open Go.RowKit

/-- what a world grows by: new blocks, draws -/
structure Grow where
  xs : Array Obj
  d : Nat
instance : Inhabited Grow := ⟨⟨#[], 0⟩⟩
/-- the world with new blocks behind the old ones -/
def ext (w : World) (x : Grow) : World := { w with heap := w.heap ++ x.xs, drawn := x.d }
theorem ext_below (w : World) (x : Grow) : Below w.heap.size w (ext w x) :=
  ⟨rfl, rfl, rfl, by simp [ext], fun k hk => by simp [ext, Array.getElem?_append, hk]⟩
theorem below_ext {w w' : World} (h : Below w.heap.size w w') : ∃ x, w' = ext w x := by
  refine ⟨⟨w'.heap.extract w.heap.size w'.heap.size, w'.drawn⟩, ?_⟩
  have hs := h.size
  have hh : w'.heap = w.heap ++ w'.heap.extract w.heap.size w'.heap.size := by
    apply Array.ext_getElem?
    intro i
    by_cases hi : i < w.heap.size
    · rw [Array.getElem?_append, if_pos hi]; exact h.block i hi
    · rw [Array.getElem?_append, if_neg hi, Array.getElem?_extract]
      by_cases hj : i < w'.heap.size
      · rw [if_pos (by omega), show w.heap.size + (i - w.heap.size) = i from by omega]
      · rw [if_neg (by omega)]; exact Array.getElem?_eq_none (by omega)
  obtain ⟨h1, h2, h3, _, _⟩ := h
  cases w; cases w'
  simp only [ext] at *
  subst h1 h2 h3
  rw [← hh]
theorem ext_cell (w : World) (x : Grow) {p : Addr} (h : p.block < w.heap.size) : (ext w x).cell? p = w.cell? p := (ext_below w x).cell h
theorem wp_region_ext {P : Program} {id : Nat} {Q : Exit → Act → World → Prop} {a : Act} {w : World} {l : List Oper} (hm : P.follows .mixedOrders = true) (hB : Region.lexB .any l.toArray = true)
    (h : wpQuiet P l.toArray (fun w' => ∃ x, w' = ext w x) (fun a' => ∀ w', (∃ x, w' = ext w x) → Q .normal a' w') l a) : (Code.region id l.toArray true).wp P Q a w :=
  wp_region_quiet (C := fun w' => ∃ x, w' = ext w x) hm hB ⟨⟨#[], w.drawn + 1⟩, by simp [ext]⟩ (by simpa using h)
theorem qe {P : Program} {f : FuncId} {args : Array Value} {w : World} {x : Grow} {v : Value}
    (h : Calls P f args (ext w x) fun e w' => e = .returned v ∧ Below (ext w x).heap.size (ext w x) w') : Calls P f args (ext w x) fun e w'' => e = .returned v ∧ ∃ x', w'' = ext w x' :=
  h.mono fun _ _ ⟨he, hb⟩ => ⟨he, below_ext ((ext_below w x).trans (hb.mono (ext_below w x).size))⟩
/-- behind a callee that makes memory: what the old cells hold -/
theorem bcell {W w1 : World} (hb : Below W.heap.size W w1) : (∀ b o, b < W.heap.size → w1.cell? ⟨b, o, none⟩ = W.cell? ⟨b, o, none⟩) ∧ (∀ b o, b < W.heap.size → w1.frozen? ⟨b, o, none⟩ = W.frozen? ⟨b, o, none⟩) :=
  ⟨fun b o h => hb.cell (p := ⟨b, o, none⟩) h, fun b o h => hb.frozen (p := ⟨b, o, none⟩) h⟩
theorem bcellB {B : Nat} {W w1 : World} (hb : Below B W w1) : (∀ b o, b < B → w1.cell? ⟨b, o, none⟩ = W.cell? ⟨b, o, none⟩) ∧ (∀ b o, b < B → w1.frozen? ⟨b, o, none⟩ = W.frozen? ⟨b, o, none⟩) :=
  ⟨fun b o h => hb.cell (p := ⟨b, o, none⟩) h, fun b o h => hb.frozen (p := ⟨b, o, none⟩) h⟩
theorem keep {B : Nat} {W W' : World} (hb : Below B W W') {b o : Nat} {v : Value} (h : b < B) (hc : W.cell? ⟨b, o, none⟩ = some v) : W'.cell? ⟨b, o, none⟩ = some v := by
  rw [hb.cell (p := ⟨b, o, none⟩) h]; exact hc
theorem below2 {w w1 w2 : World} (b1 : Below w.heap.size w w1) (b2 : Below w1.heap.size w1 w2) : Below w.heap.size w w2 := b1.trans (b2.mono b1.size)
/-- a block of cells, told whole -/
def BlockIs (w : World) (B : Nat) (arr : List Value) (T : TypeId) : Prop := w.heap[B]? = some (.cells arr.toArray T)
theorem BlockIs.lt {w : World} {B : Nat} {arr : List Value} {T : TypeId} (h : BlockIs w B arr T) : B < w.heap.size := by
  rcases Nat.lt_or_ge B w.heap.size with h1 | h1
  · exact h1
  · unfold BlockIs at h; rw [Array.getElem?_eq_none h1] at h; cases h
theorem BlockIs.new (w : World) (arr : List Value) (T : TypeId) : BlockIs (w.alloc (.cells arr.toArray T)) w.heap.size arr T := by
  show (w.heap.push _)[w.heap.size]? = _; simp
theorem BlockIs.cell {w : World} {B : Nat} {arr : List Value} {T : TypeId} (h : BlockIs w B arr T) {i : Nat} {v : Value} (hi : arr[i]? = some v) : w.cell? ⟨B, i, none⟩ = some v := by
  unfold BlockIs at h; simp [World.cell?, h, hi]
theorem BlockIs.frozen {w : World} {B : Nat} {arr : List Value} {T : TypeId} (h : BlockIs w B arr T) (i : Nat) : w.frozen? ⟨B, i, none⟩ = false := by
  unfold BlockIs at h; simp [World.frozen?, h]
theorem BlockIs.set {w : World} {B : Nat} {arr : List Value} {T : TypeId} (h : BlockIs w B arr T) (i : Nat) (v : Value) : BlockIs (w.setCell ⟨B, i, none⟩ v) B (arr.set i v) T := by
  unfold BlockIs at *
  simp only [World.setCell, Array.getElem?_modify]
  simp [h]
theorem BlockIs.below {w w' : World} {B : Nat} {arr : List Value} {T : TypeId} (h : BlockIs w B arr T) (hb : Below w.heap.size w w') : BlockIs w' B arr T := by
  have := hb.block B h.lt; unfold BlockIs at *; rw [this]; exact h
end Go.Proofs.Ytppmjbnhghaffaa
namespace Go.Proofs.Ytppmjbnhghaffaa
open Go.RowKit

/-- t is a slice type of elements e, each of so many cells and bytes -/
def RowT (P : Program) (t e : TypeId) (size bytes : Nat) : Prop :=
  P.underlying t = some (.slice e) ∧ 0 < size ∧ ∃ (i : TypeInfo) (z : Value), P.info? e = some i ∧ i.zero = some z ∧ i.size = size ∧ i.bytes = bytes ∧ z.cells.size = size
theorem RowT.mk {P : Program} {t e : TypeId} {size bytes : Nat} (z : Value) (h1 : P.underlying t = some (.slice e)) (h2 : (P.info? e).map (fun i => (i.zero, i.size, i.bytes)) = some (some z, size, bytes)) (h3 : z.cells.size = size) (h4 : 0 < size) : RowT P t e size bytes := by
  obtain ⟨i, hi, hz0, hz1, hz2⟩ := info_parts h2
  exact ⟨h1, h4, i, z, hi, hz0, hz1, hz2, h3⟩

section
variable {P : Program} {t e : TypeId} {size bytes : Nat}
end

/-- an owned row stays behind a callee that makes memory of its own -/
theorem owns_below {w w' : World} {base : Nat} {e : TypeId} {size : Nat} {v : Value} {n : Nat} {xs : List Value} (h : w.ownsRow base e size v n xs) (hb : Below w.heap.size w w') : w'.ownsRow base e size v n xs := by
  obtain ⟨h1, h2⟩ := h
  refine ⟨h1, ?_⟩
  rcases h2 with h2 | ⟨g, cap, cur, hv, hg, hh, r⟩
  · exact Or.inl h2
  · refine Or.inr ⟨g, cap, cur, hv, hg, ?_, r⟩
    rw [hb.block g (by rcases Nat.lt_or_ge g w.heap.size with h | h; exact h; rw [Array.getElem?_eq_none h] at hh; cases hh)]
    exact hh
theorem owns_base {w : World} {base base' : Nat} {e : TypeId} {size : Nat} {v : Value} {n : Nat} {xs : List Value} (h : w.ownsRow base e size v n xs) (hb : base' ≤ base) : w.ownsRow base' e size v n xs := by
  obtain ⟨h1, h2⟩ := h
  refine ⟨h1, ?_⟩
  rcases h2 with h2 | ⟨g, cap, cur, hv, hg, r⟩
  · exact Or.inl h2
  · exact Or.inr ⟨g, cap, cur, hv, by omega, r⟩

/-- a slice value that reads as a row of cells: of no element, or at an address -/
def Reads (w : World) (v : Value) (n size : Nat) (xs : List Value) : Prop :=
  xs.length = n * size ∧ n ≤ 9223372036854775807 ∧
  ((n = 0 ∧ ∃ a c, v = .slice a 0 c) ∨
   (0 < n ∧ ∃ b o c, v = .slice (some ⟨b, o, none⟩) n c ∧ n ≤ c ∧ b < w.heap.size ∧ ∀ (j : Nat) (x : Value), xs[j]? = some x → w.cell? ⟨b, o + j, none⟩ = some x))
theorem Reads.below {w w' : World} {v : Value} {n size : Nat} {xs : List Value} (h : Reads w v n size xs) (hb : Below w.heap.size w w') : Reads w' v n size xs := by
  obtain ⟨h1, h2, h3⟩ := h
  refine ⟨h1, h2, ?_⟩
  rcases h3 with h3 | ⟨hp, b, o, c, hv, hc, hlt, hx⟩
  · exact Or.inl h3
  · exact Or.inr ⟨hp, b, o, c, hv, hc, Nat.lt_of_lt_of_le hlt hb.size, fun j x hj => by rw [hb.cell (p := ⟨b, o + j, none⟩) hlt]; exact hx j x hj⟩
/-- an owned row can be read -/
theorem owns_reads {w : World} {base : Nat} {e : TypeId} {size : Nat} {v : Value} {n : Nat} {xs : List Value} (h : w.ownsRow base e size v n xs) : Reads w v n size xs := by
  obtain ⟨h1, h2⟩ := h
  refine ⟨h1, by rcases h2 with ⟨_, h0⟩ | ⟨g, cap, cur, hv, hg, hh, hnc, hcm, _⟩ <;> (try unfold maxLen at hcm) <;> omega, ?_⟩
  rcases h2 with ⟨hv, h0⟩ | ⟨g, cap, cur, hv, hg, hh, hnc, hcm, hcs, hcur⟩
  · exact Or.inl ⟨h0, none, 0, hv⟩
  · by_cases h0 : n = 0
    · exact Or.inl ⟨h0, some ⟨g, 0, none⟩, cap, by rw [hv, h0]⟩
    · refine Or.inr ⟨by omega, g, 0, cap, hv, hnc, ?_, ?_⟩
      · rcases Nat.lt_or_ge g w.heap.size with h | h
        · exact h
        · rw [Array.getElem?_eq_none h] at hh; cases hh
      · intro j x hj
        have : cur[j]? = some x := by
          rw [← hcur] at hj
          rw [List.getElem?_take] at hj
          split at hj
          · simpa using hj
          · cases hj
        simp [World.cell?, hh, this]
theorem Reads.len {w : World} {v : Value} {n size : Nat} {xs : List Value} (h : Reads w v n size xs) : xs.length = n * size := h.1
/-- what the walk wants of a slice that is read -/
theorem Reads.open {w : World} {v : Value} {n size : Nat} {xs : List Value} (h : Reads w v n size xs) : xs.length = n * size ∧ n ≤ 9223372036854775807 ∧ ∃ (a : Option Addr) (c : Nat), v = .slice a n c ∧ (0 < n → ∃ b o, a = some ⟨b, o, none⟩ ∧ n ≤ c ∧ b < w.heap.size ∧ ∀ (j : Nat) (x : Value), xs[j]? = some x → w.cell? ⟨b, o + j, none⟩ = some x) := by
  obtain ⟨h1, h2, h3⟩ := h
  refine ⟨h1, h2, ?_⟩
  rcases h3 with ⟨h0, a, c, hv⟩ | ⟨hp, b, o, c, hv, hc, hlt, hx⟩
  · exact ⟨a, c, by rw [hv, h0], fun h => by omega⟩
  · exact ⟨some ⟨b, o, none⟩, c, hv, fun _ => ⟨b, o, rfl, hc, hlt, hx⟩⟩
end Go.Proofs.Ytppmjbnhghaffaa
namespace Go.Proofs.Ytppmjbnhghaffaa.Hp

/-- a strict total order, told by a Bool function -/
structure Tot {α : Type} (lt : α → α → Bool) : Prop where
  asymm : ∀ a b, lt a b = true → lt b a = false
  trans : ∀ a b c, lt b a = false → lt c b = false → lt c a = false
  anti : ∀ a b, lt a b = false → lt b a = false → a = b

section
variable {α : Type} {lt : α → α → Bool}
def swp (h : List α) (i j : Nat) (x y : α) : List α := (h.set i y).set j x
theorem swp_len (h : List α) (i j : Nat) (x y : α) : (swp h i j x y).length = h.length := by simp [swp]
/-! ### the whole property -/
def par (i : Nat) : Nat := (i - 1) / 2
/-! ### rising -/
def up (lt : α → α → Bool) (h : List α) (i : Nat) : List α :=
  if _h0 : 0 < i then
    match h[i]?, h[par i]? with
    | some x, some p => if lt x p = true then up lt (swp h i (par i) x p) (par i) else h
    | _, _ => h
  else h
termination_by i
decreasing_by unfold par; omega
/-! ### sinking -/
/-- the first of a place and of one below it -/
def pick (lt : α → α → Bool) (h : List α) (b k : Nat) : Nat := match h[k]?, h[b]? with
  | some x, some y => if lt x y = true then k else b
  | _, _ => b
def best (lt : α → α → Bool) (h : List α) (i : Nat) : Nat := pick lt h (pick lt h i (2 * i + 1)) (2 * i + 2)
theorem pick_cases (h : List α) (b k : Nat) : pick lt h b k = b ∨ (pick lt h b k = k ∧ k < h.length) := by
  unfold pick
  split
  · rename_i x y hx hy
    split
    · exact Or.inr ⟨rfl, (List.getElem?_eq_some_iff.1 hx).1⟩
    · exact Or.inl rfl
  · exact Or.inl rfl
theorem best_cases (h : List α) (i : Nat) : best lt h i = i ∨ (best lt h i = 2 * i + 1 ∧ 2 * i + 1 < h.length) ∨ (best lt h i = 2 * i + 2 ∧ 2 * i + 2 < h.length) := by
  unfold best
  rcases pick_cases (lt := lt) h (pick lt h i (2 * i + 1)) (2 * i + 2) with e | e
  · rw [e]
    rcases pick_cases (lt := lt) h i (2 * i + 1) with e | e
    · exact Or.inl e
    · exact Or.inr (Or.inl e)
  · exact Or.inr (Or.inr e)
def down (lt : α → α → Bool) (h : List α) (i : Nat) : List α :=
  if _hb : best lt h i = i then h
  else match h[i]?, h[best lt h i]? with
    | some x, some y => down lt (swp h i (best lt h i) x y) (best lt h i)
    | _, _ => h
termination_by h.length - i
decreasing_by
  rw [swp_len]
  rcases best_cases (lt := lt) h i with e | e | e <;> omega
/-! ### a heap of any items -/
/-! ### one more, one less -/
def push (lt : α → α → Bool) (h : List α) (x : α) : List α := up lt (h ++ [x]) h.length
/-- the last in the first's place, and sunk -/
def rest (lt : α → α → Bool) (h : List α) : List α := match h.getLast? with
  | none => []
  | some z => down lt ((h.set 0 z).take (h.length - 1)) 0
/-! ### in order -/
/-- an item laid into a list as its items stand -/
def put (lt : α → α → Bool) : List α → α → List α
  | [], x => [x]
  | y :: t, x => if lt x y = true then x :: y :: t else y :: put lt t x
def sort (lt : α → α → Bool) (l : List α) : List α := l.foldl (put lt) []
/-! ### the reference's look at a heap: each place against those below it -/
end
end Go.Proofs.Ytppmjbnhghaffaa.Hp
namespace Go.Proofs.Ytppmjbnhghaffaa
open Go.RowKit

theorem flat_get {α β : Type} (f : α → List β) (n : Nat) (hf : ∀ x, (f x).length = n) : ∀ (l : List α) (i : Nat) (x : α), l[i]? = some x → ∀ j, j < n → (l.flatMap f)[i * n + j]? = (f x)[j]? := by
  intro l
  induction l with
  | nil => intro i x h; simp at h
  | cons y r ih =>
    intro i x h j hj
    rw [List.flatMap_cons]
    cases i with
    | zero =>
      simp at h; subst h
      rw [Nat.zero_mul, Nat.zero_add, List.getElem?_append_left (by rw [hf]; exact hj)]
    | succ i =>
      have h' : r[i]? = some x := by simpa using h
      rw [List.getElem?_append_right (by rw [hf, Nat.succ_mul]; omega), hf, show (i + 1) * n + j - n = i * n + j from by rw [Nat.succ_mul]; omega]
      exact ih i x h' j hj
theorem flat_len {α β : Type} (f : α → List β) (n : Nat) (hf : ∀ x, (f x).length = n) (l : List α) : (l.flatMap f).length = l.length * n := by
  induction l with
  | nil => simp
  | cons y r ih => rw [List.flatMap_cons, List.length_append, hf, ih, List.length_cons, Nat.succ_mul]; omega
/-- a row of things of n cells each, read -/
def ReadsL {α : Type} (f : α → List Value) (n : Nat) (w : World) (v : Value) (l : List α) : Prop := Reads w v l.length n (l.flatMap f)
theorem ReadsL.below {α : Type} {f : α → List Value} {n : Nat} {w w' : World} {v : Value} {l : List α} (h : ReadsL f n w v l) (hb : Below w.heap.size w w') : ReadsL f n w' v l := Reads.below h hb
/-- what the walk wants: the slice opened; each thing's cells -/
theorem ReadsL.open {α : Type} {f : α → List Value} {n : Nat} {w : World} {v : Value} {l : List α} (h : ReadsL f n w v l) (hf : ∀ x, (f x).length = n) (hn : 0 < n) :
    l.length ≤ 9223372036854775807 ∧ ∃ (a : Option Addr) (c : Nat), v = .slice a l.length c ∧ (0 < l.length → ∃ b o, a = some ⟨b, o, none⟩ ∧ l.length ≤ c ∧ b < w.heap.size ∧
      ∀ (i : Nat) (x : α), l[i]? = some x → ∀ (j : Nat) (u : Value), (f x)[j]? = some u → w.cell? ⟨b, o + (i * n + j), none⟩ = some u) := by
  obtain ⟨_, h2, a, c, hv, h3⟩ := Reads.open h
  refine ⟨h2, a, c, hv, fun hp => ?_⟩
  obtain ⟨b, o, ha, hc, hb, hx⟩ := h3 hp
  refine ⟨b, o, ha, hc, hb, fun i x hi j u hu => hx _ _ ?_⟩
  have hj := (List.getElem?_eq_some_iff.1 hu).1
  rw [hf] at hj
  rw [flat_get f n hf l i x hi j hj]; exact hu
theorem ReadsL.new {α : Type} {f : α → List Value} {n : Nat} {w : World} (T : TypeId) (l : List α) (hf : ∀ x, (f x).length = n) (hn : 0 < n) (hm : l.length ≤ 9223372036854775807) (c : Nat) (hc : c = l.length) : ReadsL f n (w.alloc (.cells (l.flatMap f).toArray T)) (.slice (some ⟨w.heap.size, 0, none⟩) c c) l := by
  subst hc
  refine ⟨flat_len f n hf l, hm, ?_⟩
  rcases Nat.eq_zero_or_pos l.length with h0 | h0
  · exact Or.inl ⟨h0, _, _, by rw [h0]⟩
  · refine Or.inr ⟨h0, w.heap.size, 0, _, rfl, Nat.le_refl _, by simp, fun j x hj => ?_⟩
    rw [Nat.zero_add]; exact (BlockIs.new w _ T).cell hj
theorem owns_readsL {α : Type} {f : α → List Value} {n : Nat} {w : World} {base : Nat} {e : TypeId} {v : Value} {l : List α} (h : w.ownsRow base e n v l.length (l.flatMap f)) : ReadsL f n w v l := owns_reads h
theorem ReadsL.nil {α : Type} (f : α → List Value) (n : Nat) (w : World) (a : Option Addr) (c : Nat) : ReadsL f n w (.slice a 0 c) [] := ⟨by simp, by simp, Or.inl ⟨rfl, a, c, rfl⟩⟩

structure It where
  key : Int
  en : En
instance : Inhabited It := ⟨⟨0, default⟩⟩
end Go.Proofs.Ytppmjbnhghaffaa
namespace Go.Proofs.Ytppmjbnhghaffaa
open Go.RowKit

def isDig (c : UInt8) : Prop := 48 ≤ c.toNat ∧ c.toNat ≤ 57
instance (c : UInt8) : Decidable (isDig c) := by unfold isDig; infer_instance
/-! ### hex numbers -/
end Go.Proofs.Ytppmjbnhghaffaa
namespace Go.Proofs.Ytppmjbnhghaffaa
open Go.RowKit
theorem and32_u64 (m : Nat) (hm : m < 18446744073709551616) : bits .and .u64 (m : Int) 4294967295 = (m : Int) % 4294967296 := by
  have h : bits .and .u64 (m : Int) 4294967295 = ((m &&& 4294967295 : Nat) : Int) := bits_and_u64_nat m 4294967295 hm (by omega)
  rw [h, show m &&& 4294967295 = m % 4294967296 from Nat.and_two_pow_sub_one_eq_mod m 32]; omega
end Go.Proofs.Ytppmjbnhghaffaa
