/- Plain facts on the texts of addresses of four bytes. No condition. -/
import Derived.Test.YtecegljipjofmaaPlDec
import Derived.Test.YtecegljipjofmaaPlWords
namespace Go.Proofs.Ytecegljipjofmaa
open Go.RowKit

def v4parts (n : Nat) : List (List UInt8) := [digs (n / 16777216), digs (n / 65536 % 256), digs (n / 256 % 256), digs (n % 256)]
def v4text (n : Nat) : List UInt8 := joinL 46 (v4parts n)
def v4step (n : Option Nat) (p : List UInt8) : Option Nat := match n with
  | none => none
  | some n => if (decParse p 255).2 = true then some (n * 256 + (decParse p 255).1.toNat) else none
def v4fold (L : List (List UInt8)) : Option Nat := L.foldl v4step (some 0)
def v4parse (l : List UInt8) : Nat × Bool :=
  if (splitL 46 l).length ≠ 4 then (0, false) else match v4fold (splitL 46 l) with
    | none => (0, false)
    | some n => (n, true)
theorem v4fold_snoc (L : List (List UInt8)) (p : List UInt8) : v4fold (L ++ [p]) = v4step (v4fold L) p := by simp [v4fold]
theorem v4fold_stop (L M : List (List UInt8)) (p : List UInt8) (h : (decParse p 255).2 = false) : v4fold (L ++ p :: M) = none := by
  unfold v4fold
  rw [List.foldl_append, List.foldl_cons]
  have h1 : v4step (L.foldl v4step (some 0)) p = none := by unfold v4step; split; rfl; rw [if_neg (by rw [h]; simp)]
  rw [h1]
  induction M with
  | nil => rfl
  | cons x r ih => rw [List.foldl_cons]; exact ih
theorem dec255 (p : List UInt8) : 0 ≤ (decParse p 255).1 ∧ (decParse p 255).1 ≤ 255 := by
  cases h : (decParse p 255).2 with
  | true => obtain ⟨m, h1, _, h3, _⟩ := decParse_true (l := p) (most := 255) (n := (decParse p 255).1) (by rw [← h]); omega
  | false => rw [decParse_false h]; simp
theorem no_dot (n : Nat) : (46 : UInt8) ∉ digs n := fun h => by have := digs_isDig n _ h; unfold isDig at this; simp at this
theorem v4split (n : Nat) : splitL 46 (v4text n) = v4parts n :=
  splitL_join 46 _ (by simp [v4parts]) (fun x hx => by simp [v4parts] at hx; rcases hx with rfl | rfl | rfl | rfl <;> exact no_dot _)
theorem v4step_digs (n b : Nat) (h : b ≤ 255) : v4step (some n) (digs b) = some (n * 256 + b) := by
  unfold v4step; rw [decParse_digs b 255 (by omega) (by omega)]; simp
theorem v4fold_text (n : Nat) (h : n < 4294967296) : v4fold (v4parts n) = some n := by
  show v4step (v4step (v4step (v4step (some 0) _) _) _) _ = _
  rw [v4step_digs _ _ (by omega), v4step_digs _ _ (by omega), v4step_digs _ _ (by omega), v4step_digs _ _ (by omega)]
  congr 1; omega
/-- an address is read of its text -/
theorem v4parse_text (n : Nat) (h : n < 4294967296) : v4parse (v4text n) = (n, true) := by
  unfold v4parse; rw [v4split, if_neg (by simp [v4parts]), v4fold_text n h]
theorem v4step_some {n : Option Nat} {p : List UInt8} {m : Nat} (h : v4step n p = some m) : ∃ k b : Nat, n = some k ∧ p = digs b ∧ b ≤ 255 ∧ m = k * 256 + b := by
  cases n with
  | none => cases h
  | some k =>
    unfold v4step at h; simp only at h
    split at h
    · rename_i h2
      obtain ⟨b, h3, h4, h5, _⟩ := decParse_true (l := p) (most := 255) (n := (decParse p 255).1) (by rw [← h2])
      exact ⟨k, b, rfl, h4, by omega, by rw [h3] at h; simpa using h.symm⟩
    · cases h
/-- what is read is an address's text -/
theorem v4parse_true {l : List UInt8} {n : Nat} (h : v4parse l = (n, true)) : n < 4294967296 ∧ l = v4text n := by
  unfold v4parse at h
  split at h
  · simp at h
  · rename_i h4
    have h4 : (splitL 46 l).length = 4 := Classical.not_not.1 h4
    have hj := joinL_split 46 l
    match hs : splitL 46 l, h4 with
    | [a, b, c, d], _ =>
      rw [hs] at h hj
      cases hf : v4fold [a, b, c, d] with
      | none => rw [hf] at h; simp at h
      | some m =>
        rw [hf] at h; simp at h; subst h
        have hf : v4step (v4step (v4step (v4step (some 0) a) b) c) d = some m := hf
        obtain ⟨k3, e3, h1, hd, b3, r3⟩ := v4step_some hf
        obtain ⟨k2, e2, h1, hc, b2, r2⟩ := v4step_some h1
        obtain ⟨k1, e1, h1, hb, b1, r1⟩ := v4step_some h1
        obtain ⟨k0, e0, h1, ha, b0, r0⟩ := v4step_some h1
        obtain rfl : 0 = k0 := by simpa using h1
        refine ⟨by omega, ?_⟩
        rw [← hj, ha, hb, hc, hd]
        unfold v4text v4parts
        rw [show m / 16777216 = e0 from by omega, show m / 65536 % 256 = e1 from by omega, show m / 256 % 256 = e2 from by omega, show m % 256 = e3 from by omega]
theorem v4parse_false {l : List UInt8} (h : (v4parse l).2 = false) : v4parse l = (0, false) := by
  unfold v4parse at *
  split
  · rfl
  · rename_i h4; rw [if_neg h4] at h
    cases hf : v4fold (splitL 46 l) with
    | none => rfl
    | some m => rw [hf] at h; cases h
theorem digs3 (b : Nat) (h : b ≤ 255) : (digs b).length ≤ 3 := digs_len 2 b (by omega)
theorem v4text_len (n : Nat) (h : n < 4294967296) : (v4text n).length ≤ 15 := by
  unfold v4text v4parts
  rw [joinL_cons, joinL_cons, joinL_cons, joinL_one]
  have h1 := digs3 (n / 16777216) (by omega)
  have h2 := digs3 (n / 65536 % 256) (by omega)
  have h3 := digs3 (n / 256 % 256) (by omega)
  have h4 := digs3 (n % 256) (by omega)
  simp; omega
/-- as the reference reads -/
def ref4fold (L : List (List UInt8)) : Nat := L.foldl (fun n p => (256 * n + (decParse p 255).1.toNat) % 4294967296) 0
theorem ref4fold_snoc (L : List (List UInt8)) (p : List UInt8) : ref4fold (L ++ [p]) = (256 * ref4fold L + (decParse p 255).1.toNat) % 4294967296 := by simp [ref4fold]
theorem ref4_lt (L : List (List UInt8)) : ref4fold L < 4294967296 := by
  by_cases h : L = []
  · subst h; simp [ref4fold]
  · rw [← List.dropLast_concat_getLast h, ref4fold_snoc]; omega
theorem ref4_text (n : Nat) (h : n < 4294967296) : ref4fold (v4parts n) = n := by
  unfold ref4fold v4parts
  simp only [List.foldl_cons, List.foldl_nil]
  rw [decParse_digs _ 255 (by omega) (by omega), decParse_digs _ 255 (by omega) (by omega), decParse_digs _ 255 (by omega) (by omega), decParse_digs _ 255 (by omega) (by omega)]
  simp only [Int.toNat_natCast]; omega
theorem ref4_eq (l : List UInt8) : (if 15 < l.length ∨ v4text (ref4fold (splitL 46 l)) ≠ l then (0, false) else (ref4fold (splitL 46 l), true)) = v4parse l := by
  cases h : (v4parse l).2 with
  | true =>
    obtain ⟨h1, h2⟩ := v4parse_true (l := l) (n := (v4parse l).1) (by rw [← h])
    generalize hn : (v4parse l).1 = n at *
    have e : v4parse l = (n, true) := by rw [← hn, ← h]
    rw [e, h2, v4split, ref4_text n h1, if_neg]
    rintro (h | h)
    · have := v4text_len n h1; omega
    · exact h rfl
  | false =>
    rw [v4parse_false h]
    split
    · rfl
    · rename_i hb
      have e : v4text (ref4fold (splitL 46 l)) = l := Classical.not_not.1 fun h => hb (Or.inr h)
      have := v4parse_text _ (ref4_lt (splitL 46 l))
      rw [e] at this; rw [this] at h; cases h
/-- the parts, from the last one on -/
def v4pk : Nat → Nat → List (List UInt8)
  | 0, _ => []
  | k + 1, m => v4pk k (m / 256) ++ [digs (m % 256)]
theorem v4pk_parts (n : Nat) (h : n < 4294967296) : v4pk 4 n = v4parts n := by
  simp only [v4pk, v4parts, List.nil_append, List.cons_append]
  rw [show n / 256 / 256 / 256 % 256 = n / 16777216 from by omega, show n / 256 / 256 % 256 = n / 65536 % 256 from by omega]
def V4At (N m k : Nat) (arr : List Value) : Prop := ∃ acc : List (List UInt8), arr.drop k = acc.map sv ∧ v4pk 4 N = v4pk k m ++ acc
theorem V4At.step {N m k : Nat} {arr : List Value} (h : V4At N m (k + 1) arr) (hl : k + 1 ≤ arr.length) : V4At N (m / 256) k (arr.set k (sv (digs (m % 256)))) := by
  obtain ⟨acc, h1, h2⟩ := h
  refine ⟨digs (m % 256) :: acc, ?_, by rw [h2]; simp [v4pk]⟩
  have hl' : k < (arr.set k (sv (digs (m % 256)))).length := by rw [List.length_set]; omega
  rw [List.drop_eq_getElem_cons hl', List.getElem_set_self, List.drop_set_of_lt (by omega), h1]; rfl
end Go.Proofs.Ytecegljipjofmaa
