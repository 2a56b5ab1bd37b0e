/- Texts put together: PlWords. No condition. -/
import Derived.Test.YtnohkfbapibmdaaRpgeuglklpq
import Derived.Lib.IndexLaws
import Derived.Lib.Join
import Derived.Lib.Strings
namespace Go.Proofs.Ytnohkfbapibmdaa
open Go.RowKit

def splitL (c : UInt8) : List UInt8 → List (List UInt8)
  | [] => [[]]
  | x :: r => if x = c then [] :: splitL c r else match splitL c r with
    | [] => [[x]]
    | y :: ys => (x :: y) :: ys
theorem splitL_ne (c : UInt8) (l : List UInt8) : splitL c l ≠ [] := by
  cases l with
  | nil => simp [splitL]
  | cons x r => unfold splitL; split; simp; split <;> simp
theorem splitL_none (c : UInt8) (l : List UInt8) (h : ∀ k : Nat, l[k]? ≠ some c) : splitL c l = [l] := by
  induction l with
  | nil => rfl
  | cons x r ih =>
    have h0 := h 0
    have hr := ih (fun k => by have := h (k + 1); simpa using this)
    unfold splitL; rw [if_neg (by simpa using h0), hr]
theorem splitL_at (c : UInt8) (l : List UInt8) (o : Nat) (h : l[o]? = some c) (hb : ∀ k, k < o → l[k]? ≠ some c) : splitL c l = l.take o :: splitL c (l.drop (o + 1)) := by
  induction l generalizing o with
  | nil => simp at h
  | cons x r ih =>
    cases o with
    | zero => simp at h; subst h; conv => lhs; unfold splitL
              simp
    | succ o =>
      have h0 := hb 0 (by omega)
      have hr := ih o (by simpa using h) (fun k hk => by have := hb (k + 1) (by omega); simpa using this)
      conv => lhs; unfold splitL
      rw [if_neg (by simpa using h0), hr]; simp
/-- the parts put together -/
def joinL (c : UInt8) (l : List (List UInt8)) : List UInt8 := Lib.join l [c]
theorem joinL_nil (c : UInt8) : joinL c [] = [] := rfl
theorem joinL_one (c : UInt8) (x : List UInt8) : joinL c [x] = x := Lib.join_one x [c]
theorem joinL_cons (c : UInt8) (x y : List UInt8) (r : List (List UInt8)) : joinL c (x :: y :: r) = x ++ c :: joinL c (y :: r) := by
  unfold joinL Lib.join; simp [List.intercalate]
theorem joinL_split (c : UInt8) (l : List UInt8) : joinL c (splitL c l) = l := by
  induction l with
  | nil => simp [splitL, joinL_one]
  | cons x r ih =>
    have hne := splitL_ne c r
    unfold splitL
    cases hs : splitL c r with
    | nil => exact absurd hs hne
    | cons y ys =>
      rw [hs] at ih
      split
      · rename_i hx; rw [joinL_cons, ih, hx]; rfl
      · cases ys with
        | nil => rw [joinL_one] at ih ⊢; rw [ih]
        | cons z zs => rw [joinL_cons] at ih ⊢; rw [← ih]; rfl
theorem splitL_app (c : UInt8) (x : List UInt8) (r : List UInt8) (h : c ∉ x) : splitL c (x ++ c :: r) = x :: splitL c r := by
  rw [splitL_at c (x ++ c :: r) x.length (by simp) (fun k hk => by
    rw [List.getElem?_append_left hk]; intro e; exact h (List.mem_of_getElem? e))]
  simp [List.take_append, List.drop_append, List.drop_eq_nil_of_le]
theorem splitL_free (c : UInt8) (x : List UInt8) (h : c ∉ x) : splitL c x = [x] := splitL_none c x fun k e => h (List.mem_of_getElem? e)
theorem splitL_join (c : UInt8) (l : List (List UInt8)) (hne : l ≠ []) (h : ∀ x ∈ l, c ∉ x) : splitL c (joinL c l) = l := by
  induction l with
  | nil => exact absurd rfl hne
  | cons x r ih =>
    cases r with
    | nil => rw [joinL_one]; exact splitL_free c x (h x (by simp))
    | cons y r =>
      rw [joinL_cons, splitL_app c x _ (h x (by simp)), ih (by simp) (fun z hz => h z (by simp [hz]))]
theorem joinL_part (c : UInt8) (L : List (List UInt8)) : ∀ x ∈ L, x.length ≤ (joinL c L).length := by
  induction L with
  | nil => intro x h; cases h
  | cons y r ih =>
    intro x hx
    cases r with
    | nil => rw [joinL_one]; rw [List.mem_singleton.1 hx]; exact Nat.le_refl _
    | cons z r =>
      rw [joinL_cons, List.length_append, List.length_cons]
      rcases List.mem_cons.1 hx with h | h
      · rw [h]; omega
      · have := ih x h; omega
theorem splitL_part_len (c : UInt8) (l : List UInt8) : ∀ x ∈ splitL c l, x.length ≤ l.length := fun x hx => by
  have := joinL_part c _ x hx; rwa [joinL_split] at this
def plainC (c : UInt8) : Bool := c.toNat == 10 || (decide (32 ≤ c.toNat) && decide (c.toNat ≤ 126))
/-- a text's lines, or which error there is -/
def linesL (l : List UInt8) : List (List UInt8) × Int :=
  if 65536 < l.length ∨ 4096 < l.count 10 then ([], 4)
  else if l.all plainC = false then ([], 2)
  else if l = [] then ([], 0)
  else if l.getLast? ≠ some 10 then ([], 2)
  else (splitL 10 l.dropLast, 0)
theorem last_data (s : ByteArray) (h : 0 < s.size) : s.data.toList.getLast? = some (s[s.size - 1]'(by omega)) := by
  rw [List.getLast?_eq_getElem?, len_data, get_data s (s.size - 1) (by omega)]
theorem joinL_len (c : UInt8) (l : List (List UInt8)) (k m : Nat) (h : ∀ x ∈ l, x.length ≤ m) (hk : l.length ≤ k) : (joinL c l).length ≤ k * (m + 1) := by
  induction l generalizing k with
  | nil => simp [joinL_nil]
  | cons x r ih =>
    cases k with
    | zero => simp at hk
    | succ k =>
      have hx := h x (by simp)
      cases r with
      | nil => rw [joinL_one, Nat.succ_mul]; omega
      | cons y r =>
        have := ih k (fun z hz => h z (by simp [hz])) (by simpa using hk)
        rw [joinL_cons, Nat.succ_mul]; simp at *; omega
def strLen : Value → Nat | .string s => s.size | _ => 0
theorem map_bs (l : List (List UInt8)) : (l.map bs).map (fun x => x.data.toList) = l := by
  rw [List.map_map]
  conv => rhs; rw [← List.map_id l]
  exact List.map_congr_left fun x _ => bs_data x
/-- a string as a cell -/
def sv (l : List UInt8) : Value := .string (bs l)
theorem extract_take (s : ByteArray) (k : Nat) : s.extract 0 k = bs (s.data.toList.take k) := ext_data (by rw [Lib.extract_data, bs_data]; simp)
theorem extract_drop (s : ByteArray) (k : Nat) : s.extract k s.size = bs (s.data.toList.drop k) := ext_data (by
  rw [Lib.extract_data, bs_data]; exact List.take_of_length_le (by simp))
end Go.Proofs.Ytnohkfbapibmdaa
