/- Texts put together: PlWords, PlIp4. No condition. -/
import Derived.Test.YtnohkfbapibmdaaGreatRjnnyiclkjh
import Derived.Lib.IndexLaws
import Derived.Lib.Join
import Derived.Lib.Strings
import Derived.Test.YtnohkfbapibmdaaGreatRoqtylxhcsf
namespace Go.Proofs.YtnohkfbapibmdaaGreat
open Go.RowKit

def splitL (c : UInt8) : List UInt8 → List (List UInt8)
  | [] => [[]]
  | x :: r => if x = c then [] :: splitL c r else match splitL c r with
    | [] => [[x]]
    | y :: ys => (x :: y) :: ys
theorem splitL_ne (c : UInt8) (l : List UInt8) : splitL c l ≠ [] := by
  cases l with
  | nil => simp [splitL]
  | cons x r => unfold splitL; split; simp; split <;> simp
theorem splitL_none (c : UInt8) (l : List UInt8) (h : ∀ k : Nat, l[k]? ≠ some c) : splitL c l = [l] := by
  induction l with
  | nil => rfl
  | cons x r ih =>
    have h0 := h 0
    have hr := ih (fun k => by have := h (k + 1); simpa using this)
    unfold splitL; rw [if_neg (by simpa using h0), hr]
theorem splitL_at (c : UInt8) (l : List UInt8) (o : Nat) (h : l[o]? = some c) (hb : ∀ k, k < o → l[k]? ≠ some c) : splitL c l = l.take o :: splitL c (l.drop (o + 1)) := by
  induction l generalizing o with
  | nil => simp at h
  | cons x r ih =>
    cases o with
    | zero => simp at h; subst h; conv => lhs; unfold splitL
              simp
    | succ o =>
      have h0 := hb 0 (by omega)
      have hr := ih o (by simpa using h) (fun k hk => by have := hb (k + 1) (by omega); simpa using this)
      conv => lhs; unfold splitL
      rw [if_neg (by simpa using h0), hr]; simp
theorem splitL_len (c : UInt8) (l : List UInt8) : (splitL c l).length ≤ l.length + 1 := by
  induction l with
  | nil => simp [splitL]
  | cons x r ih =>
    unfold splitL; split
    · simp; omega
    · split
      · simp
      · rename_i y ys h; rw [h] at ih; simp at *; omega
/-- the parts put together -/
def joinL (c : UInt8) (l : List (List UInt8)) : List UInt8 := Lib.join l [c]
theorem joinL_nil (c : UInt8) : joinL c [] = [] := rfl
theorem joinL_one (c : UInt8) (x : List UInt8) : joinL c [x] = x := Lib.join_one x [c]
theorem joinL_cons (c : UInt8) (x y : List UInt8) (r : List (List UInt8)) : joinL c (x :: y :: r) = x ++ c :: joinL c (y :: r) := by
  unfold joinL Lib.join; simp [List.intercalate]
theorem joinL_snoc (c : UInt8) (l : List (List UInt8)) (x : List UInt8) (h : l ≠ []) : joinL c (l ++ [x]) = joinL c l ++ c :: x := by
  induction l with
  | nil => exact absurd rfl h
  | cons y r ih =>
    cases r with
    | nil => simp [joinL_cons, joinL_one]
    | cons z r =>
      rw [List.cons_append, List.cons_append, joinL_cons, ← List.cons_append, ih (by simp), joinL_cons]; simp
theorem joinL_split (c : UInt8) (l : List UInt8) : joinL c (splitL c l) = l := by
  induction l with
  | nil => simp [splitL, joinL_one]
  | cons x r ih =>
    have hne := splitL_ne c r
    unfold splitL
    cases hs : splitL c r with
    | nil => exact absurd hs hne
    | cons y ys =>
      rw [hs] at ih
      split
      · rename_i hx; rw [joinL_cons, ih, hx]; rfl
      · cases ys with
        | nil => rw [joinL_one] at ih ⊢; rw [ih]
        | cons z zs => rw [joinL_cons] at ih ⊢; rw [← ih]; rfl
theorem splitL_app (c : UInt8) (x : List UInt8) (r : List UInt8) (h : c ∉ x) : splitL c (x ++ c :: r) = x :: splitL c r := by
  rw [splitL_at c (x ++ c :: r) x.length (by simp) (fun k hk => by
    rw [List.getElem?_append_left hk]; intro e; exact h (List.mem_of_getElem? e))]
  simp [List.take_append, List.drop_append, List.drop_eq_nil_of_le]
theorem splitL_free (c : UInt8) (x : List UInt8) (h : c ∉ x) : splitL c x = [x] := splitL_none c x fun k e => h (List.mem_of_getElem? e)
theorem splitL_join (c : UInt8) (l : List (List UInt8)) (hne : l ≠ []) (h : ∀ x ∈ l, c ∉ x) : splitL c (joinL c l) = l := by
  induction l with
  | nil => exact absurd rfl hne
  | cons x r ih =>
    cases r with
    | nil => rw [joinL_one]; exact splitL_free c x (h x (by simp))
    | cons y r =>
      rw [joinL_cons, splitL_app c x _ (h x (by simp)), ih (by simp) (fun z hz => h z (by simp [hz]))]
theorem joinL_part (c : UInt8) (L : List (List UInt8)) : ∀ x ∈ L, x.length ≤ (joinL c L).length := by
  induction L with
  | nil => intro x h; cases h
  | cons y r ih =>
    intro x hx
    cases r with
    | nil => rw [joinL_one]; rw [List.mem_singleton.1 hx]; exact Nat.le_refl _
    | cons z r =>
      rw [joinL_cons, List.length_append, List.length_cons]
      rcases List.mem_cons.1 hx with h | h
      · rw [h]; omega
      · have := ih x h; omega
theorem splitL_part_len (c : UInt8) (l : List UInt8) : ∀ x ∈ splitL c l, x.length ≤ l.length := fun x hx => by
  have := joinL_part c _ x hx; rwa [joinL_split] at this
theorem joinL_len (c : UInt8) (l : List (List UInt8)) (k m : Nat) (h : ∀ x ∈ l, x.length ≤ m) (hk : l.length ≤ k) : (joinL c l).length ≤ k * (m + 1) := by
  induction l generalizing k with
  | nil => simp [joinL_nil]
  | cons x r ih =>
    cases k with
    | zero => simp at hk
    | succ k =>
      have hx := h x (by simp)
      cases r with
      | nil => rw [joinL_one, Nat.succ_mul]; omega
      | cons y r =>
        have := ih k (fun z hz => h z (by simp [hz])) (by simpa using hk)
        rw [joinL_cons, Nat.succ_mul]; simp at *; omega
def strLen : Value → Nat | .string s => s.size | _ => 0
theorem map_bs (l : List (List UInt8)) : (l.map bs).map (fun x => x.data.toList) = l := by
  rw [List.map_map]
  conv => rhs; rw [← List.map_id l]
  exact List.map_congr_left fun x _ => bs_data x
/-- a string as a cell -/
def sv (l : List UInt8) : Value := .string (bs l)
theorem extract_take (s : ByteArray) (k : Nat) : s.extract 0 k = bs (s.data.toList.take k) := ext_data (by rw [Lib.extract_data, bs_data]; simp)
theorem extract_drop (s : ByteArray) (k : Nat) : s.extract k s.size = bs (s.data.toList.drop k) := ext_data (by
  rw [Lib.extract_data, bs_data]; exact List.take_of_length_le (by simp))
theorem extract_mid (s : ByteArray) (a b : Nat) : s.extract a b = bs ((s.data.toList.drop a).take (b - a)) := ext_data (by rw [Lib.extract_data, bs_data])
end Go.Proofs.YtnohkfbapibmdaaGreat
namespace Go.Proofs.YtnohkfbapibmdaaGreat
open Go.RowKit

def v4parts (n : Nat) : List (List UInt8) := [digs (n / 16777216), digs (n / 65536 % 256), digs (n / 256 % 256), digs (n % 256)]
def v4text (n : Nat) : List UInt8 := joinL 46 (v4parts n)
def v4step (n : Option Nat) (p : List UInt8) : Option Nat := match n with
  | none => none
  | some n => if (decParse p 255).2 = true then some (n * 256 + (decParse p 255).1.toNat) else none
def v4fold (L : List (List UInt8)) : Option Nat := L.foldl v4step (some 0)
def v4parse (l : List UInt8) : Nat × Bool :=
  if (splitL 46 l).length ≠ 4 then (0, false) else match v4fold (splitL 46 l) with
    | none => (0, false)
    | some n => (n, true)
theorem v4fold_snoc (L : List (List UInt8)) (p : List UInt8) : v4fold (L ++ [p]) = v4step (v4fold L) p := by simp [v4fold]
theorem v4fold_stop (L M : List (List UInt8)) (p : List UInt8) (h : (decParse p 255).2 = false) : v4fold (L ++ p :: M) = none := by
  unfold v4fold
  rw [List.foldl_append, List.foldl_cons]
  have h1 : v4step (L.foldl v4step (some 0)) p = none := by unfold v4step; split; rfl; rw [if_neg (by rw [h]; simp)]
  rw [h1]
  induction M with
  | nil => rfl
  | cons x r ih => rw [List.foldl_cons]; exact ih
theorem dec255 (p : List UInt8) : 0 ≤ (decParse p 255).1 ∧ (decParse p 255).1 ≤ 255 := by
  cases h : (decParse p 255).2 with
  | true => obtain ⟨m, h1, _, h3, _⟩ := decParse_true (l := p) (most := 255) (n := (decParse p 255).1) (by rw [← h]); omega
  | false => rw [decParse_false h]; simp
theorem no_dot (n : Nat) : (46 : UInt8) ∉ digs n := fun h => by have := digs_isDig n _ h; unfold isDig at this; simp at this
theorem v4split (n : Nat) : splitL 46 (v4text n) = v4parts n :=
  splitL_join 46 _ (by simp [v4parts]) (fun x hx => by simp [v4parts] at hx; rcases hx with rfl | rfl | rfl | rfl <;> exact no_dot _)
theorem v4step_digs (n b : Nat) (h : b ≤ 255) : v4step (some n) (digs b) = some (n * 256 + b) := by
  unfold v4step; rw [decParse_digs b 255 (by omega) (by omega)]; simp
theorem v4fold_text (n : Nat) (h : n < 4294967296) : v4fold (v4parts n) = some n := by
  show v4step (v4step (v4step (v4step (some 0) _) _) _) _ = _
  rw [v4step_digs _ _ (by omega), v4step_digs _ _ (by omega), v4step_digs _ _ (by omega), v4step_digs _ _ (by omega)]
  congr 1; omega
/-- an address is read of its text -/
theorem v4parse_text (n : Nat) (h : n < 4294967296) : v4parse (v4text n) = (n, true) := by
  unfold v4parse; rw [v4split, if_neg (by simp [v4parts]), v4fold_text n h]
theorem v4step_some {n : Option Nat} {p : List UInt8} {m : Nat} (h : v4step n p = some m) : ∃ k b : Nat, n = some k ∧ p = digs b ∧ b ≤ 255 ∧ m = k * 256 + b := by
  cases n with
  | none => cases h
  | some k =>
    unfold v4step at h; simp only at h
    split at h
    · rename_i h2
      obtain ⟨b, h3, h4, h5, _⟩ := decParse_true (l := p) (most := 255) (n := (decParse p 255).1) (by rw [← h2])
      exact ⟨k, b, rfl, h4, by omega, by rw [h3] at h; simpa using h.symm⟩
    · cases h
/-- what is read is an address's text -/
theorem v4parse_true {l : List UInt8} {n : Nat} (h : v4parse l = (n, true)) : n < 4294967296 ∧ l = v4text n := by
  unfold v4parse at h
  split at h
  · simp at h
  · rename_i h4
    have h4 : (splitL 46 l).length = 4 := Classical.not_not.1 h4
    have hj := joinL_split 46 l
    match hs : splitL 46 l, h4 with
    | [a, b, c, d], _ =>
      rw [hs] at h hj
      cases hf : v4fold [a, b, c, d] with
      | none => rw [hf] at h; simp at h
      | some m =>
        rw [hf] at h; simp at h; subst h
        have hf : v4step (v4step (v4step (v4step (some 0) a) b) c) d = some m := hf
        obtain ⟨k3, e3, h1, hd, b3, r3⟩ := v4step_some hf
        obtain ⟨k2, e2, h1, hc, b2, r2⟩ := v4step_some h1
        obtain ⟨k1, e1, h1, hb, b1, r1⟩ := v4step_some h1
        obtain ⟨k0, e0, h1, ha, b0, r0⟩ := v4step_some h1
        obtain rfl : 0 = k0 := by simpa using h1
        refine ⟨by omega, ?_⟩
        rw [← hj, ha, hb, hc, hd]
        unfold v4text v4parts
        rw [show m / 16777216 = e0 from by omega, show m / 65536 % 256 = e1 from by omega, show m / 256 % 256 = e2 from by omega, show m % 256 = e3 from by omega]
theorem v4parse_false {l : List UInt8} (h : (v4parse l).2 = false) : v4parse l = (0, false) := by
  unfold v4parse at *
  split
  · rfl
  · rename_i h4; rw [if_neg h4] at h
    cases hf : v4fold (splitL 46 l) with
    | none => rfl
    | some m => rw [hf] at h; cases h
theorem digs3 (b : Nat) (h : b ≤ 255) : (digs b).length ≤ 3 := digs_len 2 b (by omega)
theorem v4text_len (n : Nat) (h : n < 4294967296) : (v4text n).length ≤ 15 := by
  unfold v4text v4parts
  rw [joinL_cons, joinL_cons, joinL_cons, joinL_one]
  have h1 := digs3 (n / 16777216) (by omega)
  have h2 := digs3 (n / 65536 % 256) (by omega)
  have h3 := digs3 (n / 256 % 256) (by omega)
  have h4 := digs3 (n % 256) (by omega)
  simp; omega
/-- as the reference reads -/
def ref4fold (L : List (List UInt8)) : Nat := L.foldl (fun n p => (256 * n + (decParse p 255).1.toNat) % 4294967296) 0
theorem ref4fold_snoc (L : List (List UInt8)) (p : List UInt8) : ref4fold (L ++ [p]) = (256 * ref4fold L + (decParse p 255).1.toNat) % 4294967296 := by simp [ref4fold]
theorem ref4_lt (L : List (List UInt8)) : ref4fold L < 4294967296 := by
  by_cases h : L = []
  · subst h; simp [ref4fold]
  · rw [← List.dropLast_concat_getLast h, ref4fold_snoc]; omega
theorem ref4_text (n : Nat) (h : n < 4294967296) : ref4fold (v4parts n) = n := by
  unfold ref4fold v4parts
  simp only [List.foldl_cons, List.foldl_nil]
  rw [decParse_digs _ 255 (by omega) (by omega), decParse_digs _ 255 (by omega) (by omega), decParse_digs _ 255 (by omega) (by omega), decParse_digs _ 255 (by omega) (by omega)]
  simp only [Int.toNat_natCast]; omega
theorem ref4_eq (l : List UInt8) : (if 15 < l.length ∨ v4text (ref4fold (splitL 46 l)) ≠ l then (0, false) else (ref4fold (splitL 46 l), true)) = v4parse l := by
  cases h : (v4parse l).2 with
  | true =>
    obtain ⟨h1, h2⟩ := v4parse_true (l := l) (n := (v4parse l).1) (by rw [← h])
    generalize hn : (v4parse l).1 = n at *
    have e : v4parse l = (n, true) := by rw [← hn, ← h]
    rw [e, h2, v4split, ref4_text n h1, if_neg]
    rintro (h | h)
    · have := v4text_len n h1; omega
    · exact h rfl
  | false =>
    rw [v4parse_false h]
    split
    · rfl
    · rename_i hb
      have e : v4text (ref4fold (splitL 46 l)) = l := Classical.not_not.1 fun h => hb (Or.inr h)
      have := v4parse_text _ (ref4_lt (splitL 46 l))
      rw [e] at this; rw [this] at h; cases h
/-- the parts, from the last one on -/
def v4pk : Nat → Nat → List (List UInt8)
  | 0, _ => []
  | k + 1, m => v4pk k (m / 256) ++ [digs (m % 256)]
theorem v4pk_parts (n : Nat) (h : n < 4294967296) : v4pk 4 n = v4parts n := by
  simp only [v4pk, v4parts, List.nil_append, List.cons_append]
  rw [show n / 256 / 256 / 256 % 256 = n / 16777216 from by omega, show n / 256 / 256 % 256 = n / 65536 % 256 from by omega]
def V4At (N m k : Nat) (arr : List Value) : Prop := ∃ acc : List (List UInt8), arr.drop k = acc.map sv ∧ v4pk 4 N = v4pk k m ++ acc
theorem V4At.step {N m k : Nat} {arr : List Value} (h : V4At N m (k + 1) arr) (hl : k + 1 ≤ arr.length) : V4At N (m / 256) k (arr.set k (sv (digs (m % 256)))) := by
  obtain ⟨acc, h1, h2⟩ := h
  refine ⟨digs (m % 256) :: acc, ?_, by rw [h2]; simp [v4pk]⟩
  have hl' : k < (arr.set k (sv (digs (m % 256)))).length := by rw [List.length_set]; omega
  rw [List.drop_eq_getElem_cons hl', List.getElem_set_self, List.drop_set_of_lt (by omega), h1]; rfl
end Go.Proofs.YtnohkfbapibmdaaGreat
