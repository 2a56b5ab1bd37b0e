/- Texts put together: PlHeap. No condition. -/

namespace Go.Proofs.Ytnohkfbapibmdaa.Hp

/-- a strict total order, told by a Bool function -/
structure Tot {α : Type} (lt : α → α → Bool) : Prop where
  asymm : ∀ a b, lt a b = true → lt b a = false
  trans : ∀ a b c, lt b a = false → lt c b = false → lt c a = false
  anti : ∀ a b, lt a b = false → lt b a = false → a = b

section
variable {α : Type} {lt : α → α → Bool}
def swp (h : List α) (i j : Nat) (x y : α) : List α := (h.set i y).set j x
theorem swp_len (h : List α) (i j : Nat) (x y : α) : (swp h i j x y).length = h.length := by simp [swp]
/-! ### the whole property -/
def par (i : Nat) : Nat := (i - 1) / 2
/-! ### rising -/
def up (lt : α → α → Bool) (h : List α) (i : Nat) : List α :=
  if _h0 : 0 < i then
    match h[i]?, h[par i]? with
    | some x, some p => if lt x p = true then up lt (swp h i (par i) x p) (par i) else h
    | _, _ => h
  else h
termination_by i
decreasing_by unfold par; omega
/-! ### sinking -/
/-- the first of a place and of one below it -/
def pick (lt : α → α → Bool) (h : List α) (b k : Nat) : Nat := match h[k]?, h[b]? with
  | some x, some y => if lt x y = true then k else b
  | _, _ => b
def best (lt : α → α → Bool) (h : List α) (i : Nat) : Nat := pick lt h (pick lt h i (2 * i + 1)) (2 * i + 2)
theorem pick_cases (h : List α) (b k : Nat) : pick lt h b k = b ∨ (pick lt h b k = k ∧ k < h.length) := by
  unfold pick
  split
  · rename_i x y hx hy
    split
    · exact Or.inr ⟨rfl, (List.getElem?_eq_some_iff.1 hx).1⟩
    · exact Or.inl rfl
  · exact Or.inl rfl
theorem best_cases (h : List α) (i : Nat) : best lt h i = i ∨ (best lt h i = 2 * i + 1 ∧ 2 * i + 1 < h.length) ∨ (best lt h i = 2 * i + 2 ∧ 2 * i + 2 < h.length) := by
  unfold best
  rcases pick_cases (lt := lt) h (pick lt h i (2 * i + 1)) (2 * i + 2) with e | e
  · rw [e]
    rcases pick_cases (lt := lt) h i (2 * i + 1) with e | e
    · exact Or.inl e
    · exact Or.inr (Or.inl e)
  · exact Or.inr (Or.inr e)
def down (lt : α → α → Bool) (h : List α) (i : Nat) : List α :=
  if _hb : best lt h i = i then h
  else match h[i]?, h[best lt h i]? with
    | some x, some y => down lt (swp h i (best lt h i) x y) (best lt h i)
    | _, _ => h
termination_by h.length - i
decreasing_by
  rw [swp_len]
  rcases best_cases (lt := lt) h i with e | e | e <;> omega
/-! ### a heap of any items -/
/-! ### one more, one less -/
def push (lt : α → α → Bool) (h : List α) (x : α) : List α := up lt (h ++ [x]) h.length
/-- the last in the first's place, and sunk -/
def rest (lt : α → α → Bool) (h : List α) : List α := match h.getLast? with
  | none => []
  | some z => down lt ((h.set 0 z).take (h.length - 1)) 0
/-! ### in order -/
/-- an item laid into a list as its items stand -/
def put (lt : α → α → Bool) : List α → α → List α
  | [], x => [x]
  | y :: t, x => if lt x y = true then x :: y :: t else y :: put lt t x
/-! ### the reference's look at a heap: each place against those below it -/
end
end Go.Proofs.Ytnohkfbapibmdaa.Hp
