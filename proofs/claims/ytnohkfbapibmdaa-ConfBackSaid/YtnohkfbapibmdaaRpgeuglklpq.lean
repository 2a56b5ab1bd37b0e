/- Texts put together: Pl. No condition. -/
import Derived.WalkKit
import Derived.Lib.Hide
namespace Go.Proofs.Ytnohkfbapibmdaa
open Go.RowKit

/-! ### strings as lists of bytes -/
def bs (l : List UInt8) : ByteArray := ⟨l.toArray⟩
theorem bs_data (l : List UInt8) : (bs l).data.toList = l := by simp [bs]
theorem bs_size (l : List UInt8) : (bs l).size = l.length := by show l.toArray.size = _; simp
theorem bs_of (s : ByteArray) : bs s.data.toList = s := by cases s; simp [bs]
theorem bs_append (a b : List UInt8) : bs a ++ bs b = bs (a ++ b) := by
  rw [← bs_of (bs a ++ bs b)]; congr 1
theorem len_data (s : ByteArray) : s.data.toList.length = s.size := by simp
theorem isE (s : ByteArray) : s.toList.isEmpty = s.data.toList.isEmpty := by rw [ByteArray.toList_eq]
theorem ext_data {s t : ByteArray} (h : s.data.toList = t.data.toList) : s = t := by rw [← bs_of s, ← bs_of t, h]

theorem take_snoc (s : ByteArray) (k : Nat) (h : k < s.size) : s.data.toList.take (k + 1) = s.data.toList.take k ++ [s[k]] := by
  rw [List.take_succ_eq_append_getElem (by simpa using h)]; rfl
theorem get_data (s : ByteArray) (k : Nat) (h : k < s.size) : s.data.toList[k]? = some s[k] := by
  rw [List.getElem?_eq_getElem (by simpa using h)]; rfl
/-! ### bytes as numbers -/
theorem byte_lt (c : UInt8) : (c.toNat : Int) < 256 := by have := c.toNat_lt; omega
theorem byte_eq {c d : UInt8} (h : (c.toNat : Int) = d.toNat) : c = d := UInt8.toNat_inj.1 (by omega)
theorem w64_in (n : Int) (h1 : -1000000 ≤ n) (h2 : n ≤ 1000000) : wrap64 n = n := IntWalk.wrap64_in n ⟨by omega, by omega⟩
theorem w64_byte (c : UInt8) : wrap64 (c.toNat : Int) = c.toNat := w64_in _ (by omega) (by have := byte_lt c; omega)
theorem w64_byte_sub (c : UInt8) : wrap64 ((c.toNat : Int) - 48) = c.toNat - 48 := w64_in _ (by omega) (by have := byte_lt c; omega)
theorem u8_of (n : Nat) (h : n < 256) : (UInt8.ofNat n).toNat = n := by simp; omega

/-! ### decimal digits -/
def digs (n : Nat) : List UInt8 := if _h : n < 10 then [UInt8.ofNat (48 + n)] else digs (n / 10) ++ [UInt8.ofNat (48 + n % 10)]
theorem digs_lo {n : Nat} (h : n < 10) : digs n = [UInt8.ofNat (48 + n)] := by rw [digs, dif_pos h]
theorem digs_hi {n : Nat} (h : ¬ n < 10) : digs n = digs (n / 10) ++ [UInt8.ofNat (48 + n % 10)] := by rw [digs, dif_neg h]
def decText (n : Int) : List UInt8 := if n < 0 then 45 :: digs n.natAbs else digs n.natAbs

theorem wrap_u64 (n : Int) : IntKind.u64.wrap n = n % 18446744073709551616 := rfl
theorem wrap_neg (n : Int) (h0 : -9223372036854775808 ≤ n) (hn : n < 0) : IntKind.u64.wrap (-IntKind.u64.wrap n) = (n.natAbs : Int) := by
  rw [wrap_u64, wrap_u64]; omega
theorem digs_len_pos (n : Nat) : 0 < (digs n).length := by
  by_cases h : n < 10
  · rw [digs_lo h]; simp
  · rw [digs_hi h]; simp
theorem digs_len (k : Nat) : ∀ n, n < 10 ^ (k + 1) → (digs n).length ≤ k + 1 := by
  induction k with
  | zero => intro n h; rw [digs_lo (by simpa using h)]; simp
  | succ k ih =>
    intro n h
    by_cases h1 : n < 10
    · rw [digs_lo h1]; simp
    · rw [digs_hi h1]
      have := ih (n / 10) (by rw [Nat.pow_succ] at h; omega)
      simp; omega

theorem digs_len20 (n : Nat) (h : n ≤ 18446744073709551615) : (digs n).length ≤ 20 := digs_len 19 n (by omega)
theorem decText_len (n : Int) (h0 : -9223372036854775808 ≤ n) (h1 : n ≤ 9223372036854775807) : (decText n).length ≤ 21 := by
  unfold decText; have := digs_len20 n.natAbs (by omega); split <;> simp <;> omega

/-! ### reading decimal digits, as dec.Parse does -/
def dstep (n : Option Int) (c : UInt8) : Option Int := match n with
  | none => none
  | some n => if (c.toNat : Int) < 48 ∨ 58 ≤ (c.toNat : Int) ∨ (9223372036854775807 - ((c.toNat : Int) - 48)) / 10 < n then none else some (n * 10 + ((c.toNat : Int) - 48))
def dloop (l : List UInt8) : Option Int := l.foldl dstep (some 0)
def decParse (l : List UInt8) (most : Int) : Int × Bool :=
  if l = [] ∨ (1 < l.length ∧ l[0]? = some 48) then (0, false)
  else match dloop l with
    | none => (0, false)
    | some n => if most < n then (0, false) else (n, true)
theorem dloop_snoc (l : List UInt8) (c : UInt8) : dloop (l ++ [c]) = dstep (dloop l) c := by simp [dloop]
theorem dfold_none (c : List UInt8) : c.foldl dstep none = none := by
  induction c with
  | nil => rfl
  | cons x r ih => simpa [dstep] using ih
theorem dloop_none (l : List UInt8) (c : List UInt8) (h : dloop l = none) : dloop (l ++ c) = none := by
  unfold dloop at *; rw [List.foldl_append, h]; exact dfold_none c
theorem dloop_stop (s : ByteArray) (k : Nat) (h : k < s.size) (v : Int) (hv : dloop (s.data.toList.take k) = some v) (hd : dstep (some v) s[k] = none) : dloop s.data.toList = none := by
  have := dloop_none (s.data.toList.take (k+1)) (s.data.toList.drop (k+1)) (by rw [take_snoc s k h, dloop_snoc, hv, hd])
  rwa [List.take_append_drop] at this
theorem dec_bad (s : ByteArray) (most : Int) (h : s.toList.isEmpty = true) : decParse s.data.toList most = (0, false) := by
  rw [isE] at h; unfold decParse; rw [if_pos (Or.inl (List.isEmpty_iff.1 h))]
theorem dec_lead (s : ByteArray) (most : Int) (h1 : 1 < (s.size : Int)) (h0 : 0 < s.size) (h : ((s[0].toNat : Int) == 48) = true) : decParse s.data.toList most = (0, false) := by
  unfold decParse
  rw [if_pos]
  refine Or.inr ⟨by have := len_data s; omega, ?_⟩
  rw [get_data s 0 h0]
  have h := beq_iff_eq.1 h
  congr 1
  exact UInt8.toNat_inj.1 (by simpa using (by omega : s[0].toNat = 48))
theorem dec_go (s : ByteArray) (most : Int) (he : s.toList.isEmpty = false) (hl : (s.size : Int) ≤ 1 ∨ ∃ h : 0 < s.size, ((s[0].toNat : Int) == 48) = false) :
    decParse s.data.toList most = match dloop s.data.toList with
    | none => (0, false)
    | some n => if most < n then (0, false) else (n, true) := by
  unfold decParse
  rw [if_neg]
  rintro (h | ⟨h1, h2⟩)
  · rw [isE, h] at he; simp at he
  · have e := len_data s
    rcases hl with hl | ⟨h0, hl⟩
    · omega
    · rw [get_data s 0 h0] at h2
      simp at h2
      rw [h2] at hl
      simp at hl
theorem dstep_out (v : Int) (c : UInt8) (h : (c.toNat : Int) - 48 < 0 ∨ 10 ≤ (c.toNat : Int) - 48 ∨ (9223372036854775807 - ((c.toNat : Int) - 48)) / 10 < v) : dstep (some v) c = none := by
  unfold dstep; simp only; rw [if_pos (by omega)]
theorem dstep_in (v : Int) (c : UInt8) (h1 : ¬ (c.toNat : Int) - 48 < 0) (h2 : ¬ 10 ≤ (c.toNat : Int) - 48) (h3 : v ≤ (9223372036854775807 - ((c.toNat : Int) - 48)) / 10) : dstep (some v) c = some (v * 10 + ((c.toNat : Int) - 48)) := by
  unfold dstep; simp only; rw [if_neg (by omega)]

/-! ### a number written into a row of bytes from its end on -/
def bv (c : UInt8) : Value := .int .u8 c.toNat
/-- from place k on the row holds the bytes acc -/
def Tail (arr : List Value) (k : Nat) (acc : List UInt8) : Prop := arr.drop k = acc.map bv
theorem Tail.set {arr : List Value} {k : Nat} {acc : List UInt8} (h : Tail arr k acc) (hk : 0 < k) (hl : k ≤ arr.length) (c : UInt8) : Tail (arr.set (k - 1) (bv c)) (k - 1) (c :: acc) := by
  unfold Tail at *
  have hl' : k - 1 < (arr.set (k - 1) (bv c)).length := by rw [List.length_set]; omega
  rw [List.drop_eq_getElem_cons hl', List.getElem_set_self, List.drop_set_of_lt (by omega), show k - 1 + 1 = k from by omega, h]
  rfl
theorem Tail.len {arr : List Value} {k : Nat} {acc : List UInt8} (h : Tail arr k acc) : arr.length - k = acc.length := by
  have := congrArg List.length h; simpa using this
/-- what stands in the row behind some rounds: the digits that are written, and the number that is left -/
def TextAt (N m k : Nat) (arr : List Value) : Prop := m < 10 ^ (k - 1) ∧ ∃ acc, Tail arr k acc ∧ digs N = digs m ++ acc
theorem TextAt.step {N m k : Nat} {arr : List Value} (h : TextAt N m k arr) (hk : 3 ≤ k) (hl : k ≤ arr.length) (hm : 10 ≤ m) (v : Value) (hv : v = bv (UInt8.ofNat (48 + m % 10))) (hd : m / 10 < 10 ^ (k - 1 - 1)) : TextAt N (m / 10) (k - 1) (arr.set (k - 1) v) := by
  obtain ⟨h1, acc, h2, h3⟩ := h
  refine ⟨hd, _, by rw [hv]; exact h2.set (by omega) hl _, ?_⟩
  rw [h3, digs_hi (by omega)]; simp
theorem TextAt.last {N m k : Nat} {arr : List Value} (h : TextAt N m k arr) (hk : 1 ≤ k) (hl : k ≤ arr.length) (hm : m < 10) (v : Value) (hv : v = bv (UInt8.ofNat (48 + m))) : Tail (arr.set (k - 1) v) (k - 1) (digs N) := by
  obtain ⟨h1, acc, h2, h3⟩ := h
  rw [hv, h3, digs_lo hm]
  exact h2.set (by omega) hl _
theorem pow_lt (m k : Nat) (h : m < 10 ^ (k - 1)) (hm : 10 ≤ m) : 3 ≤ k := by
  rcases Nat.lt_or_ge k 3 with h1 | h1
  · have : 10 ^ (k - 1) ≤ 10 ^ 1 := Nat.pow_le_pow_right (by omega) (by omega)
    omega
  · exact h1
theorem pow_div (m k : Nat) (h : m < 10 ^ (k - 1)) (hk : 3 ≤ k) : m / 10 < 10 ^ (k - 1 - 1) := by
  have : 10 ^ (k - 1) = 10 ^ (k - 1 - 1) * 10 := by rw [← Nat.pow_succ]; congr 1; omega
  omega

/-! ### hex digits -/
def hexDig (n : Nat) : UInt8 := if n < 10 then UInt8.ofNat (48 + n) else UInt8.ofNat (87 + n)
def hexs (n : Nat) : List UInt8 := if _h : n < 16 then [hexDig n] else hexs (n / 16) ++ [hexDig (n % 16)]
theorem hexs_lo {n : Nat} (h : n < 16) : hexs n = [hexDig n] := by rw [hexs, dif_pos h]
theorem hexs_hi {n : Nat} (h : ¬ n < 16) : hexs n = hexs (n / 16) ++ [hexDig (n % 16)] := by rw [hexs, dif_neg h]
def HexAt (N m k : Nat) (arr : List Value) : Prop := m < 16 ^ k ∧ ∃ acc, Tail arr k acc ∧ hexs N = hexs m ++ acc
theorem hex_div (m k : Nat) (h : m < 16 ^ k) (hk : 1 ≤ k) : m / 16 < 16 ^ (k - 1) := by
  have : 16 ^ k = 16 ^ (k - 1) * 16 := by rw [← Nat.pow_succ]; congr 1; omega
  omega
theorem HexAt.step {N m k : Nat} {arr : List Value} (h : HexAt N m k arr) (hk : 2 ≤ k) (hl : k ≤ arr.length) (hm : 16 ≤ m) (v : Value) (hv : v = bv (hexDig (m % 16))) : HexAt N (m / 16) (k - 1) (arr.set (k - 1) v) := by
  obtain ⟨h1, acc, h2, h3⟩ := h
  refine ⟨hex_div m k h1 (by omega), _, by rw [hv]; exact h2.set (by omega) hl _, ?_⟩
  rw [h3, hexs_hi (by omega)]; simp
theorem HexAt.last {N m k : Nat} {arr : List Value} (h : HexAt N m k arr) (hk : 1 ≤ k) (hl : k ≤ arr.length) (hm : m < 16) (v : Value) (hv : v = bv (hexDig (m % 16))) : Tail (arr.set (k - 1) v) (k - 1) (hexs N) := by
  obtain ⟨h1, acc, h2, h3⟩ := h
  rw [hv, h3, hexs_lo hm, show m % 16 = m from by omega]
  exact h2.set (by omega) hl _
/-! ### the first place of a byte -/
/-! ### endings -/
theorem ret_str {a b : ByteArray} (h : a = b) : Ending.returned (.string a) = .returned (.string b) := by rw [h]
theorem ret_bool {a b : Bool} (h : a = b) : Ending.returned (.bool a) = .returned (.bool b) := by rw [h]
end Go.Proofs.Ytnohkfbapibmdaa
