/- Texts put together: Walk, PlHeap, PlCode, PlDec, PlBits. No condition. -/
import Derived.WalkKit
import Derived.BigQuiet
import Derived.Deep.QuietTactic
import Derived.Lib.Hide
import Derived.Test.YtnohkfbapibmdaaGreatRjnnyiclkjh
namespace Go.Proofs.YtnohkfbapibmdaaGreat
open Go.RowKit

/-- what a world grows by: new blocks, draws -/
structure Grow where
  xs : Array Obj
  d : Nat
instance : Inhabited Grow := ⟨⟨#[], 0⟩⟩
/-- the world with new blocks behind the old ones -/
def ext (w : World) (x : Grow) : World := { w with heap := w.heap ++ x.xs, drawn := x.d }
theorem ext_below (w : World) (x : Grow) : Below w.heap.size w (ext w x) :=
  ⟨rfl, rfl, rfl, by simp [ext], fun k hk => by simp [ext, Array.getElem?_append, hk]⟩
theorem below_ext {w w' : World} (h : Below w.heap.size w w') : ∃ x, w' = ext w x := by
  refine ⟨⟨w'.heap.extract w.heap.size w'.heap.size, w'.drawn⟩, ?_⟩
  have hs := h.size
  have hh : w'.heap = w.heap ++ w'.heap.extract w.heap.size w'.heap.size := by
    apply Array.ext_getElem?
    intro i
    by_cases hi : i < w.heap.size
    · rw [Array.getElem?_append, if_pos hi]; exact h.block i hi
    · rw [Array.getElem?_append, if_neg hi, Array.getElem?_extract]
      by_cases hj : i < w'.heap.size
      · rw [if_pos (by omega), show w.heap.size + (i - w.heap.size) = i from by omega]
      · rw [if_neg (by omega)]; exact Array.getElem?_eq_none (by omega)
  obtain ⟨h1, h2, h3, _, _⟩ := h
  cases w; cases w'
  simp only [ext] at *
  subst h1 h2 h3
  rw [← hh]
theorem ext_cell (w : World) (x : Grow) {p : Addr} (h : p.block < w.heap.size) : (ext w x).cell? p = w.cell? p := (ext_below w x).cell h
theorem ext_frozen (w : World) (x : Grow) {p : Addr} (h : p.block < w.heap.size) : (ext w x).frozen? p = w.frozen? p := (ext_below w x).frozen h

theorem wp_region_ext {P : Program} {id : Nat} {Q : Exit → Act → World → Prop} {a : Act} {w : World} {l : List Oper} (hm : P.follows .mixedOrders = true) (hB : Region.lexB .any l.toArray = true)
    (h : wpQuiet P l.toArray (fun w' => ∃ x, w' = ext w x) (fun a' => ∀ w', (∃ x, w' = ext w x) → Q .normal a' w') l a) : (Code.region id l.toArray true).wp P Q a w :=
  wp_region_quiet (C := fun w' => ∃ x, w' = ext w x) hm hB ⟨⟨#[], w.drawn + 1⟩, by simp [ext]⟩ (by simpa using h)
theorem qe {P : Program} {f : FuncId} {args : Array Value} {w : World} {x : Grow} {v : Value}
    (h : Calls P f args (ext w x) fun e w' => e = .returned v ∧ Below (ext w x).heap.size (ext w x) w') : Calls P f args (ext w x) fun e w'' => e = .returned v ∧ ∃ x', w'' = ext w x' :=
  h.mono fun _ _ ⟨he, hb⟩ => ⟨he, below_ext ((ext_below w x).trans (hb.mono (ext_below w x).size))⟩
theorem qs {P : Program} {f : FuncId} {args : Array Value} {w : World} {x : Grow} {v : Value}
    (h : Calls P f args (ext w x) fun e w' => e = .returned v ∧ ext w x = w') : Calls P f args (ext w x) fun e w'' => e = .returned v ∧ ∃ x', w'' = ext w x' :=
  h.mono fun _ _ ⟨he, hb⟩ => ⟨he, x, hb.symm⟩
/-- behind a callee that makes memory: what the old cells hold -/
theorem bcell {W w1 : World} (hb : Below W.heap.size W w1) : (∀ b o, b < W.heap.size → w1.cell? ⟨b, o, none⟩ = W.cell? ⟨b, o, none⟩) ∧ (∀ b o, b < W.heap.size → w1.frozen? ⟨b, o, none⟩ = W.frozen? ⟨b, o, none⟩) :=
  ⟨fun b o h => hb.cell (p := ⟨b, o, none⟩) h, fun b o h => hb.frozen (p := ⟨b, o, none⟩) h⟩
theorem keep {B : Nat} {W W' : World} (hb : Below B W W') {b o : Nat} {v : Value} (h : b < B) (hc : W.cell? ⟨b, o, none⟩ = some v) : W'.cell? ⟨b, o, none⟩ = some v := by
  rw [hb.cell (p := ⟨b, o, none⟩) h]; exact hc
theorem below4 {w w1 w2 w3 w4 : World} (b1 : Below w.heap.size w w1) (b2 : Below w1.heap.size w1 w2) (b3 : Below w2.heap.size w2 w3) (b4 : Below w3.heap.size w3 w4) : Below w.heap.size w w4 := by
  have h1 := b1.size; have h2 := b2.size; have h3 := b3.size
  exact b1.trans ((b2.mono h1).trans ((b3.mono (by omega)).trans (b4.mono (by omega))))
theorem below2 {w w1 w2 : World} (b1 : Below w.heap.size w w1) (b2 : Below w1.heap.size w1 w2) : Below w.heap.size w w2 := b1.trans (b2.mono b1.size)
/-- a block of cells, told whole -/
def BlockIs (w : World) (B : Nat) (arr : List Value) (T : TypeId) : Prop := w.heap[B]? = some (.cells arr.toArray T)
theorem BlockIs.lt {w : World} {B : Nat} {arr : List Value} {T : TypeId} (h : BlockIs w B arr T) : B < w.heap.size := by
  rcases Nat.lt_or_ge B w.heap.size with h1 | h1
  · exact h1
  · unfold BlockIs at h; rw [Array.getElem?_eq_none h1] at h; cases h
theorem BlockIs.new (w : World) (arr : List Value) (T : TypeId) : BlockIs (w.alloc (.cells arr.toArray T)) w.heap.size arr T := by
  show (w.heap.push _)[w.heap.size]? = _; simp
theorem BlockIs.cell {w : World} {B : Nat} {arr : List Value} {T : TypeId} (h : BlockIs w B arr T) {i : Nat} {v : Value} (hi : arr[i]? = some v) : w.cell? ⟨B, i, none⟩ = some v := by
  unfold BlockIs at h; simp [World.cell?, h, hi]
theorem BlockIs.frozen {w : World} {B : Nat} {arr : List Value} {T : TypeId} (h : BlockIs w B arr T) (i : Nat) : w.frozen? ⟨B, i, none⟩ = false := by
  unfold BlockIs at h; simp [World.frozen?, h]
theorem BlockIs.set {w : World} {B : Nat} {arr : List Value} {T : TypeId} (h : BlockIs w B arr T) (i : Nat) (v : Value) : BlockIs (w.setCell ⟨B, i, none⟩ v) B (arr.set i v) T := by
  unfold BlockIs at *
  simp only [World.setCell, Array.getElem?_modify]
  simp [h]
theorem BlockIs.below {w w' : World} {B : Nat} {arr : List Value} {T : TypeId} (h : BlockIs w B arr T) (hb : Below w.heap.size w w') : BlockIs w' B arr T := by
  have := hb.block B h.lt; unfold BlockIs at *; rw [this]; exact h
end Go.Proofs.YtnohkfbapibmdaaGreat
namespace Go.Proofs.YtnohkfbapibmdaaGreat.Hp

/-- a strict total order, told by a Bool function -/
structure Tot {α : Type} (lt : α → α → Bool) : Prop where
  asymm : ∀ a b, lt a b = true → lt b a = false
  trans : ∀ a b c, lt b a = false → lt c b = false → lt c a = false
  anti : ∀ a b, lt a b = false → lt b a = false → a = b

section
variable {α : Type} {lt : α → α → Bool}
def swp (h : List α) (i j : Nat) (x y : α) : List α := (h.set i y).set j x
theorem swp_len (h : List α) (i j : Nat) (x y : α) : (swp h i j x y).length = h.length := by simp [swp]
/-! ### the whole property -/
def par (i : Nat) : Nat := (i - 1) / 2
/-! ### rising -/
def up (lt : α → α → Bool) (h : List α) (i : Nat) : List α :=
  if _h0 : 0 < i then
    match h[i]?, h[par i]? with
    | some x, some p => if lt x p = true then up lt (swp h i (par i) x p) (par i) else h
    | _, _ => h
  else h
termination_by i
decreasing_by unfold par; omega
/-! ### sinking -/
/-- the first of a place and of one below it -/
def pick (lt : α → α → Bool) (h : List α) (b k : Nat) : Nat := match h[k]?, h[b]? with
  | some x, some y => if lt x y = true then k else b
  | _, _ => b
def best (lt : α → α → Bool) (h : List α) (i : Nat) : Nat := pick lt h (pick lt h i (2 * i + 1)) (2 * i + 2)
theorem pick_cases (h : List α) (b k : Nat) : pick lt h b k = b ∨ (pick lt h b k = k ∧ k < h.length) := by
  unfold pick
  split
  · rename_i x y hx hy
    split
    · exact Or.inr ⟨rfl, (List.getElem?_eq_some_iff.1 hx).1⟩
    · exact Or.inl rfl
  · exact Or.inl rfl
theorem best_cases (h : List α) (i : Nat) : best lt h i = i ∨ (best lt h i = 2 * i + 1 ∧ 2 * i + 1 < h.length) ∨ (best lt h i = 2 * i + 2 ∧ 2 * i + 2 < h.length) := by
  unfold best
  rcases pick_cases (lt := lt) h (pick lt h i (2 * i + 1)) (2 * i + 2) with e | e
  · rw [e]
    rcases pick_cases (lt := lt) h i (2 * i + 1) with e | e
    · exact Or.inl e
    · exact Or.inr (Or.inl e)
  · exact Or.inr (Or.inr e)
def down (lt : α → α → Bool) (h : List α) (i : Nat) : List α :=
  if _hb : best lt h i = i then h
  else match h[i]?, h[best lt h i]? with
    | some x, some y => down lt (swp h i (best lt h i) x y) (best lt h i)
    | _, _ => h
termination_by h.length - i
decreasing_by
  rw [swp_len]
  rcases best_cases (lt := lt) h i with e | e | e <;> omega
/-! ### a heap of any items -/
/-! ### one more, one less -/
def push (lt : α → α → Bool) (h : List α) (x : α) : List α := up lt (h ++ [x]) h.length
/-- the last in the first's place, and sunk -/
def rest (lt : α → α → Bool) (h : List α) : List α := match h.getLast? with
  | none => []
  | some z => down lt ((h.set 0 z).take (h.length - 1)) 0
/-! ### in order -/
/-- an item laid into a list as its items stand -/
def put (lt : α → α → Bool) : List α → α → List α
  | [], x => [x]
  | y :: t, x => if lt x y = true then x :: y :: t else y :: put lt t x
/-! ### the reference's look at a heap: each place against those below it -/
end
end Go.Proofs.YtnohkfbapibmdaaGreat.Hp
namespace Go.Proofs.YtnohkfbapibmdaaGreat
open Go.RowKit
def callN : List (List UInt8) := [[], [97, 99, 99, 101, 112, 116], [108, 101, 97, 118, 101], [100, 105, 97, 108], [114, 101, 115, 117, 108, 116], [98, 108, 97, 109, 101], [98, 97, 110], [117, 110, 98, 97, 110], [98, 97, 110, 110, 101, 100], [116, 105, 99, 107], [108, 105, 115, 116], [112, 111, 110, 103], [119, 111, 114, 107], [108, 101, 97, 114, 110]]
/-- what stands at a place of a table; empty: there is none -/
def nameAt (L : List (List UInt8)) (n : Int) : List UInt8 := if 0 ≤ n ∧ n < L.length then L.getD n.toNat [] else []
theorem nameAt_lo {L : List (List UInt8)} {n : Int} (h : n < 0) : nameAt L n = [] := by unfold nameAt; rw [if_neg (by omega)]
theorem nameAt_hi {L : List (List UInt8)} {n : Int} (h : (L.length : Int) ≤ n) : nameAt L n = [] := by unfold nameAt; rw [if_neg (by omega)]
theorem nameAt_in {L : List (List UInt8)} {n : Int} {s : List UInt8} (h0 : 0 ≤ n) (h : L[n.toNat]? = some s) : nameAt L n = s := by
  unfold nameAt
  have := (List.getElem?_eq_some_iff.1 h).1
  rw [if_pos (by omega), List.getD, h]; rfl
/-- the kind of calls that has a name -/
def kindOf (s : List UInt8) : Int := match callN.findIdx? (· == s) with | some i => i | none => 0
def kindFrom (s : List UInt8) (k : Nat) : Option Nat := ((callN.drop k).findIdx? (· == s)).map (· + k)
theorem kindOf_eq (s : List UInt8) : kindOf s = match kindFrom s 0 with | some i => (i : Int) | none => 0 := by
  unfold kindOf kindFrom; rw [List.drop_zero]; cases callN.findIdx? (· == s) <;> rfl
theorem kindFrom_end (s : List UInt8) (k : Nat) (h : 14 ≤ k) : kindFrom s k = none := by
  unfold kindFrom; rw [List.drop_eq_nil_of_le (by exact h)]; rfl
theorem kindFrom_hit (s : List UInt8) (k : Nat) (h : k < 14) (e : callN[k]'h = s) : kindFrom s k = some k := by
  unfold kindFrom; rw [List.drop_eq_getElem_cons (h := h), List.findIdx?_cons]; simp [e]
theorem kindFrom_miss (s : List UInt8) (k : Nat) (h : k < 14) (e : callN[k]'h ≠ s) : kindFrom s k = kindFrom s (k + 1) := by
  unfold kindFrom
  rw [List.drop_eq_getElem_cons (h := h), List.findIdx?_cons]
  have : (callN[k]'h == s) = false := by simpa using e
  rw [this]; simp only [Bool.false_eq_true, if_false, Option.map_map]
  congr 1; funext i; simp only [Function.comp]; omega
theorem kindFrom_nil (s : List UInt8) (h : s ≠ []) : kindFrom s 0 = kindFrom s 1 := kindFrom_miss s 0 (by omega) (fun e => h e.symm)
theorem name_nil : ∀ i : Fin 14, (callN[i.val]'i.isLt = []) ↔ i.val = 0 := by decide +kernel
end Go.Proofs.YtnohkfbapibmdaaGreat
namespace Go.Proofs.YtnohkfbapibmdaaGreat
open Go.RowKit

def isDig (c : UInt8) : Prop := 48 ≤ c.toNat ∧ c.toNat ≤ 57
instance (c : UInt8) : Decidable (isDig c) := by unfold isDig; infer_instance
def nval (l : List UInt8) : Nat := l.foldl (fun n c => 10 * n + (c.toNat - 48)) 0
theorem nval_snoc (l : List UInt8) (c : UInt8) : nval (l ++ [c]) = 10 * nval l + (c.toNat - 48) := by simp [nval]
theorem snoc_ind {P : List UInt8 → Prop} (h0 : P []) (h1 : ∀ l c, P l → P (l ++ [c])) (l : List UInt8) : P l := by
  have : ∀ n (l : List UInt8), l.length = n → P l := by
    intro n
    induction n with
    | zero => intro l h; rw [List.length_eq_zero_iff.1 h]; exact h0
    | succ n ih =>
      intro l h
      have hne : l ≠ [] := by intro e; rw [e] at h; simp at h
      rw [← List.dropLast_concat_getLast hne]
      exact h1 _ _ (ih _ (by simp; omega))
  exact this _ l rfl
theorem dloop_digs (l : List UInt8) (h : ∀ c ∈ l, isDig c) : dloop l = if nval l ≤ 9223372036854775807 then some (nval l : Int) else none := by
  induction l using snoc_ind with
  | h0 => rfl
  | h1 l c ih =>
    have hc : isDig c := h c (by simp)
    obtain ⟨hc1, hc2⟩ := hc
    rw [dloop_snoc, ih (fun x hx => h x (by simp [hx])), nval_snoc]
    by_cases h1 : nval l ≤ 9223372036854775807
    · rw [if_pos h1]; unfold dstep; simp only
      by_cases h2 : 10 * nval l + (c.toNat - 48) ≤ 9223372036854775807
      · rw [if_pos h2, if_neg (by omega)]; congr 1; omega
      · rw [if_neg h2, if_pos (by omega)]
    · rw [if_neg h1, if_neg (by omega)]; rfl
theorem dloop_bad (l : List UInt8) (h : ¬ ∀ c ∈ l, isDig c) : dloop l = none := by
  induction l using snoc_ind with
  | h0 => exact absurd (by simp) h
  | h1 l c ih =>
    rw [dloop_snoc]
    by_cases hl : ∀ c ∈ l, isDig c
    · have hc : ¬ isDig c := fun hc => h (by intro x hx; rcases List.mem_append.1 hx with h1 | h1; exact hl x h1; rw [List.mem_singleton.1 h1]; exact hc)
      cases dloop l with
      | none => rfl
      | some v =>
        unfold dstep; simp only; rw [if_pos]
        unfold isDig at hc; omega
    · rw [ih hl]; rfl
theorem dig_char (n : Nat) (h : n < 10) : isDig (UInt8.ofNat (48 + n)) ∧ (UInt8.ofNat (48 + n)).toNat = 48 + n := by
  have := u8_of (48 + n) (by omega); unfold isDig; omega
theorem digs_isDig (n : Nat) : ∀ c ∈ digs n, isDig c := by
  induction n using Nat.strongRecOn with
  | _ n ih =>
    by_cases h : n < 10
    · rw [digs_lo h]; intro c hc; rw [List.mem_singleton.1 hc]; exact (dig_char n h).1
    · rw [digs_hi h]; intro c hc
      rcases List.mem_append.1 hc with h1 | h1
      · exact ih (n / 10) (by omega) c h1
      · rw [List.mem_singleton.1 h1]; exact (dig_char _ (by omega)).1
theorem nval_digs (n : Nat) : nval (digs n) = n := by
  induction n using Nat.strongRecOn with
  | _ n ih =>
    by_cases h : n < 10
    · rw [digs_lo h]; have := (dig_char n h).2; simp [nval] at *; omega
    · rw [digs_hi h, nval_snoc, ih (n / 10) (by omega), (dig_char _ (by omega)).2]; omega
/-- no leading zero -/
theorem digs_head (n : Nat) (h : 0 < n) : (digs n)[0]? ≠ some 48 := by
  induction n using Nat.strongRecOn with
  | _ n ih =>
    by_cases h1 : n < 10
    · rw [digs_lo h1]; have := (dig_char n h1).2
      intro e; rw [List.getElem?_cons_zero, Option.some.injEq] at e; rw [e] at this; have : (48 : UInt8).toNat = 48 := rfl; omega
    · rw [digs_hi h1]
      have := digs_len_pos (n / 10)
      rw [List.getElem?_append_left this]; exact ih (n / 10) (by omega) (by omega)
theorem digs_nval (l : List UInt8) (h : ∀ c ∈ l, isDig c) (hne : l ≠ []) (hz : l.length = 1 ∨ l[0]? ≠ some 48) : digs (nval l) = l ∧ (1 < l.length → 0 < nval l) := by
  induction l using snoc_ind with
  | h0 => exact absurd rfl hne
  | h1 l c ih =>
    have hc : isDig c := h c (by simp)
    have hcd : UInt8.ofNat (48 + (c.toNat - 48)) = c := by
      obtain ⟨h1, h2⟩ := hc
      rw [show 48 + (c.toNat - 48) = c.toNat from by omega]; simp
    rw [nval_snoc]
    by_cases hl : l = []
    · subst hl
      simp only [nval, List.foldl_nil, List.nil_append]
      obtain ⟨h1, h2⟩ := hc
      refine ⟨?_, by simp⟩
      rw [digs_lo (by omega), show 48 + (10 * 0 + (c.toNat - 48)) = 48 + (c.toNat - 48) from by omega, hcd]
    · have hlen : 0 < l.length := List.length_pos_iff.2 hl
      have hz' : l[0]? ≠ some 48 := by
        rcases hz with hz | hz
        · rw [List.length_append, List.length_singleton] at hz; omega
        · rwa [List.getElem?_append_left hlen] at hz
      obtain ⟨e1, e2⟩ := ih (fun x hx => h x (by simp [hx])) hl (Or.inr hz')
      have hpos : 0 < nval l := by
        rcases Nat.lt_or_ge 1 l.length with h1 | h1
        · exact e2 h1
        · obtain ⟨x, rfl⟩ := List.length_eq_one_iff.1 (by omega : l.length = 1)
          have hx := h x (by simp)
          have : x ≠ 48 := by simpa using hz'
          have : x.toNat ≠ 48 := fun e => this (UInt8.toNat_inj.1 e)
          unfold isDig at hx
          simp [nval]; omega
      refine ⟨?_, fun _ => by omega⟩
      rw [digs_hi (by omega), show (10 * nval l + (c.toNat - 48)) / 10 = nval l from by unfold isDig at hc; omega, e1,
        show 48 + (10 * nval l + (c.toNat - 48)) % 10 = 48 + (c.toNat - 48) from by unfold isDig at hc; omega, hcd]
/-- a number is read of its text -/
theorem decParse_digs (n : Nat) (most : Int) (h1 : n ≤ 9223372036854775807) (h2 : (n : Int) ≤ most) : decParse (digs n) most = ((n : Int), true) := by
  unfold decParse
  rw [if_neg, dloop_digs _ (digs_isDig n), nval_digs, if_pos h1]
  · simp only; rw [if_neg (by omega)]
  · rintro (h | ⟨h3, h4⟩)
    · have := digs_len_pos n; rw [h] at this; simp at this
    · by_cases hn : 0 < n
      · exact digs_head n hn h4
      · rw [show n = 0 from by omega, digs_lo (by omega)] at h3; simp at h3
/-- what is read is a number's text -/
theorem decParse_true {l : List UInt8} {most n : Int} (h : decParse l most = (n, true)) : ∃ m : Nat, n = m ∧ l = digs m ∧ (m : Int) ≤ most ∧ m ≤ 9223372036854775807 := by
  unfold decParse at h
  by_cases hb : l = [] ∨ (1 < l.length ∧ l[0]? = some 48)
  · rw [if_pos hb] at h; simp at h
  rw [if_neg hb] at h
  by_cases hd : ∀ c ∈ l, isDig c
  · rw [dloop_digs l hd] at h
    by_cases hm : nval l ≤ 9223372036854775807
    · rw [if_pos hm] at h; simp only at h
      by_cases hmo : most < (nval l : Int)
      · rw [if_pos hmo] at h; simp at h
      · rw [if_neg hmo] at h
        simp only [Prod.mk.injEq, and_true] at h
        have hne : l ≠ [] := fun e => hb (Or.inl e)
        have hp : 0 < l.length := List.length_pos_iff.2 hne
        refine ⟨nval l, h.symm, (digs_nval l hd hne ?_).1.symm, by omega, hm⟩
        by_cases h0 : l[0]? = some 48
        · left
          rcases Nat.lt_or_ge 1 l.length with h1 | h1
          · exact absurd (Or.inr ⟨h1, h0⟩) hb
          · omega
        · exact Or.inr h0
    · rw [if_neg hm] at h; simp at h
  · rw [dloop_bad l hd] at h; simp at h
theorem decParse_false {l : List UInt8} {most : Int} (h : (decParse l most).2 = false) : decParse l most = (0, false) := by
  unfold decParse at *
  split
  · rfl
  · rename_i hb
    rw [if_neg hb] at h
    cases hd : dloop l with
    | none => rfl
    | some v => rw [hd] at h; simp only at *; split; rfl; rename_i hm; rw [if_neg hm] at h; simp at h
/-- as the reference reads -/
def refDec (l : List UInt8) (most : Int) : Int × Bool :=
  if l.length < 1 ∨ 19 < l.length then (0, false)
  else if ∀ c ∈ l, isDig c then (if most < 0 ∨ most < (nval l : Int) ∨ digs (nval l) ≠ l then (0, false) else ((nval l : Int), true))
  else (0, false)
theorem nval_lt (l : List UInt8) (h : ∀ c ∈ l, isDig c) : nval l < 10 ^ l.length := by
  induction l using snoc_ind with
  | h0 => simp [nval]
  | h1 l c ih =>
    rw [nval_snoc, List.length_append, List.length_singleton, Nat.pow_succ]
    have := ih (fun x hx => h x (by simp [hx]))
    have hc : isDig c := h c (by simp)
    unfold isDig at hc; omega
theorem refDec_eq (l : List UInt8) (most : Int) (hmost : most ≤ 9223372036854775807) : refDec l most = decParse l most := by
  cases hd : (decParse l most).2 with
  | true =>
    obtain ⟨m, h1, h2, h3, h4⟩ := decParse_true (l := l) (most := most) (n := (decParse l most).1) (by rw [← hd])
    have e : decParse l most = ((m : Int), true) := by rw [← h1, ← hd]
    rw [e, h2]
    have hlen := digs_len 18 m (by omega)
    have hpos := digs_len_pos m
    unfold refDec
    rw [if_neg (by omega), if_pos (digs_isDig m), nval_digs, if_neg (by rintro (h | h | h); omega; omega; exact h rfl)]
  | false =>
    rw [decParse_false hd]
    unfold refDec
    split
    · rfl
    · rename_i hl
      split
      · rename_i hdg
        split
        · rfl
        · rename_i hb
          have := decParse_digs (nval l) most (by omega) (by omega)
          have e : digs (nval l) = l := Classical.not_not.1 (fun h => hb (Or.inr (Or.inr h)))
          rw [e] at this; rw [this] at hd; simp at hd
      · rfl

/-! ### hex numbers -/
theorem hexs_ne (n : Nat) : 0 < (hexs n).length := by
  by_cases h : n < 16
  · rw [hexs_lo h]; simp
  · rw [hexs_hi h]; simp
theorem hloop_bd (l : List UInt8) : ∀ v, hloop l = some v → 0 ≤ v ∧ v < 16 ^ l.length := by
  induction l using snoc_ind with
  | h0 => intro v h; simp [hloop] at h; subst h; simp
  | h1 l c ih =>
    intro v h
    rw [hloop_snoc] at h
    cases hl : hloop l with
    | none => rw [hl] at h; simp [hstep] at h
    | some u =>
      obtain ⟨h1, h2⟩ := ih u hl
      rw [hl] at h
      unfold hstep at h; simp only at h
      have hb := hexVal_bd c
      split at h
      · cases h
      · simp only [Option.some.injEq] at h
        rw [List.length_append, List.length_singleton, Int.pow_succ]; omega
theorem hexParse_bd (l : List UInt8) : 0 ≤ (hexParse l).1 ∧ (hexParse l).1 ≤ 65535 := by
  unfold hexParse
  split
  · simp
  · rename_i hb
    cases hl : hloop l with
    | none => simp
    | some v =>
      obtain ⟨h1, h2⟩ := hloop_bd l v hl
      have h4 : l.length ≤ 4 := by
        rcases Nat.lt_or_ge 4 l.length with h | h
        · exact absurd (Or.inr h) hb
        · exact h
      have : (16 : Nat) ^ l.length ≤ 16 ^ 4 := Nat.pow_le_pow_right (by omega) h4
      have : (16 : Int) ^ l.length ≤ 16 ^ 4 := by exact_mod_cast this
      simp only; omega
/-- the value of a hex digit, as the reference finds it -/
def loPlace (c : UInt8) : Int := placeOf [48, 49, 50, 51, 52, 53, 54, 55, 56, 57, 97, 98, 99, 100, 101, 102] c
def hiPlace (c : UInt8) : Int := placeOf [48, 49, 50, 51, 52, 53, 54, 55, 56, 57, 65, 66, 67, 68, 69, 70] c
theorem places_all : ∀ n : Fin 256, (if loPlace (UInt8.ofNat n) < 0 then hiPlace (UInt8.ofNat n) else loPlace (UInt8.ofNat n)) = hexVal (UInt8.ofNat n) := by decide +kernel
theorem places (c : UInt8) : (if loPlace c < 0 then hiPlace c else loPlace c) = hexVal c := by
  have := places_all ⟨c.toNat, c.toNat_lt⟩; simpa using this
end Go.Proofs.YtnohkfbapibmdaaGreat
namespace Go.Proofs.YtnohkfbapibmdaaGreat
open Go.RowKit
theorem ofInt_nat32 (a : Nat) (h : a < 4294967296) : (BitVec.ofInt 32 (a : Int)).toNat = a := by
  rw [BitVec.ofInt_natCast, BitVec.toNat_ofNat]; exact Nat.mod_eq_of_lt (by omega)
theorem bits_and_u32_nat (a b : Nat) (ha : a < 4294967296) (hb : b < 4294967296) : bits .and .u32 (a : Int) (b : Int) = ((a &&& b : Nat) : Int) := by
  have hx : a &&& b < 2 ^ 32 := Nat.and_lt_two_pow _ (by omega)
  show IntKind.u32.wrap ((BitVec.ofInt 32 (a : Int) &&& BitVec.ofInt 32 (b : Int)).toNat : Int) = _
  rw [BitVec.toNat_and, ofInt_nat32 a ha, ofInt_nat32 b hb, IntKind.wrap_u32]
  omega
theorem bits_or_u32_nat (a b : Nat) (ha : a < 4294967296) (hb : b < 4294967296) : bits .or .u32 (a : Int) (b : Int) = ((a ||| b : Nat) : Int) := by
  have hx : a ||| b < 2 ^ 32 := Nat.or_lt_two_pow (by omega) (by omega)
  show IntKind.u32.wrap ((BitVec.ofInt 32 (a : Int) ||| BitVec.ofInt 32 (b : Int)).toNat : Int) = _
  rw [BitVec.toNat_or, ofInt_nat32 a ha, ofInt_nat32 b hb, IntKind.wrap_u32]
  omega
theorem or_add (m b i : Nat) (hb : b < 2 ^ i) : (m * 2 ^ i) ||| b = m * 2 ^ i + b := by
  have := Nat.shiftLeft_add_eq_or_of_lt hb m
  rw [Nat.shiftLeft_eq] at this; exact this.symm
theorem or8_u32 (m b : Nat) (hm : m < 16777216) (hb : b ≤ 255) : bits .or .u32 ((m : Int) * 256) (b : Int) = (m : Int) * 256 + b := by
  rw [show (m : Int) * 256 = ((m * 256 : Nat) : Int) from by omega, bits_or_u32_nat (m * 256) b (by omega) (by omega), show m * 256 ||| b = m * 256 + b from or_add m b 8 (by omega)]
  omega
theorem or16_u64 (m b : Nat) (hm : m < 281474976710656) (hb : b ≤ 65535) : bits .or .u64 ((m : Int) * 65536) (b : Int) = (m : Int) * 65536 + b := by
  rw [show (m : Int) * 65536 = ((m * 65536 : Nat) : Int) from by omega, bits_or_u64_nat (m * 65536) b (by omega) (by omega), show m * 65536 ||| b = m * 65536 + b from or_add m b 16 (by omega)]
  omega
theorem and8_u32 (m : Nat) (hm : m < 4294967296) : bits .and .u32 (m : Int) 255 = (m : Int) % 256 := by
  have h : bits .and .u32 (m : Int) 255 = ((m &&& 255 : Nat) : Int) := bits_and_u32_nat m 255 hm (by omega)
  rw [h, show m &&& 255 = m % 256 from Nat.and_two_pow_sub_one_eq_mod m 8]; omega
theorem and16_u32 (m : Nat) (hm : m < 4294967296) : bits .and .u32 (m : Int) 65535 = (m : Int) % 65536 := by
  have h : bits .and .u32 (m : Int) 65535 = ((m &&& 65535 : Nat) : Int) := bits_and_u32_nat m 65535 hm (by omega)
  rw [h, show m &&& 65535 = m % 65536 from Nat.and_two_pow_sub_one_eq_mod m 16]; omega
theorem and16_u64 (m : Nat) (hm : m < 18446744073709551616) : bits .and .u64 (m : Int) 65535 = (m : Int) % 65536 := by
  have h : bits .and .u64 (m : Int) 65535 = ((m &&& 65535 : Nat) : Int) := bits_and_u64_nat m 65535 hm (by omega)
  rw [h, show m &&& 65535 = m % 65536 from Nat.and_two_pow_sub_one_eq_mod m 16]; omega
theorem and32_u64 (m : Nat) (hm : m < 18446744073709551616) : bits .and .u64 (m : Int) 4294967295 = (m : Int) % 4294967296 := by
  have h : bits .and .u64 (m : Int) 4294967295 = ((m &&& 4294967295 : Nat) : Int) := bits_and_u64_nat m 4294967295 hm (by omega)
  rw [h, show m &&& 4294967295 = m % 4294967296 from Nat.and_two_pow_sub_one_eq_mod m 32]; omega
theorem and1_u64 (m : Nat) (hm : m < 18446744073709551616) : bits .and .u64 (m : Int) 1 = (m : Int) % 2 := by
  have h : bits .and .u64 (m : Int) 1 = ((m &&& 1 : Nat) : Int) := bits_and_u64_nat m 1 hm (by omega)
  rw [h, Nat.and_one_is_mod]; omega
end Go.Proofs.YtnohkfbapibmdaaGreat
