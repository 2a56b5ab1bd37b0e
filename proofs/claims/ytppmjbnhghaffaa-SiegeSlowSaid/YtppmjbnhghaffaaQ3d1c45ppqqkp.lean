/- Texts put together: Pl, PlOrd, PlDec, PlSat. No condition. -/
import Derived.WalkKit
import Derived.Lib.Hide
/- Plain facts on bytes, digits and numbers: no program in sight. No condition. -/
namespace Go.Proofs.Ytppmjbnhghaffaa
open Go.RowKit

/-! ### strings as lists of bytes -/
def bs (l : List UInt8) : ByteArray := ⟨l.toArray⟩
theorem bs_data (l : List UInt8) : (bs l).data.toList = l := by simp [bs]
theorem bs_size (l : List UInt8) : (bs l).size = l.length := by show l.toArray.size = _; simp
theorem bs_of (s : ByteArray) : bs s.data.toList = s := by cases s; simp [bs]
theorem bs_inj {a b : List UInt8} (h : bs a = bs b) : a = b := by have := congrArg (fun s : ByteArray => s.data.toList) h; simpa [bs_data] using this
theorem bs_append (a b : List UInt8) : bs a ++ bs b = bs (a ++ b) := by
  rw [← bs_of (bs a ++ bs b)]; congr 1
theorem bs_append_l (a : List UInt8) (b : ByteArray) : bs a ++ b = bs (a ++ b.data.toList) := by rw [← bs_append, bs_of]
theorem bs_append_r (a : ByteArray) (b : List UInt8) : a ++ bs b = bs (a.data.toList ++ b) := by rw [← bs_append, bs_of]
theorem bs_append' (a b : ByteArray) : a ++ b = bs (a.data.toList ++ b.data.toList) := by rw [← bs_append, bs_of, bs_of]
theorem len_data (s : ByteArray) : s.data.toList.length = s.size := by simp
theorem isE (s : ByteArray) : s.toList.isEmpty = s.data.toList.isEmpty := by rw [ByteArray.toList_eq]
theorem toL (s : ByteArray) : s.toList = s.data.toList := ByteArray.toList_eq s
theorem bs_toL (l : List UInt8) : (bs l).toList = l := by rw [toL, bs_data]
theorem ext_data {s t : ByteArray} (h : s.data.toList = t.data.toList) : s = t := by rw [← bs_of s, ← bs_of t, h]

theorem take_snoc (s : ByteArray) (k : Nat) (h : k < s.size) : s.data.toList.take (k + 1) = s.data.toList.take k ++ [s[k]] := by
  rw [List.take_succ_eq_append_getElem (by simpa using h)]; rfl
theorem get_data (s : ByteArray) (k : Nat) (h : k < s.size) : s.data.toList[k]? = some s[k] := by
  rw [List.getElem?_eq_getElem (by simpa using h)]; rfl
theorem drop_cons (s : ByteArray) (k : Nat) (h : k < s.size) : s.data.toList.drop k = s[k] :: s.data.toList.drop (k + 1) := by
  rw [List.drop_eq_getElem_cons (by simpa using h)]; rfl

/-! ### bytes as numbers -/
theorem byte_lt (c : UInt8) : (c.toNat : Int) < 256 := by have := c.toNat_lt; omega
theorem byte_ge (c : UInt8) : 0 ≤ (c.toNat : Int) := by omega
theorem byte_eq {c d : UInt8} (h : (c.toNat : Int) = d.toNat) : c = d := UInt8.toNat_inj.1 (by omega)
theorem byte_beq (c d : UInt8) : ((c.toNat : Int) == (d.toNat : Int)) = (c == d) := by
  rw [Bool.eq_iff_iff]; simp only [beq_iff_eq]; exact ⟨byte_eq, fun h => by rw [h]⟩
theorem w64_in (n : Int) (h1 : -1000000 ≤ n) (h2 : n ≤ 1000000) : wrap64 n = n := IntWalk.wrap64_in n ⟨by omega, by omega⟩
theorem w64_byte (c : UInt8) : wrap64 (c.toNat : Int) = c.toNat := w64_in _ (by omega) (by have := byte_lt c; omega)
theorem w64_byte_sub (c : UInt8) : wrap64 ((c.toNat : Int) - 48) = c.toNat - 48 := w64_in _ (by omega) (by have := byte_lt c; omega)
theorem u8_of (n : Nat) (h : n < 256) : (UInt8.ofNat n).toNat = n := by simp; omega

/-- two strings of moderate length may be put together -/
theorem cat_ok {a b : ByteArray} (ha : a.size ≤ 1000000000000000) (hb : b.size ≤ 1000000000000000) : ¬ 9223372036854775807 < a.size + b.size := by omega

/-! ### decimal digits -/
def digs (n : Nat) : List UInt8 := if _h : n < 10 then [UInt8.ofNat (48 + n)] else digs (n / 10) ++ [UInt8.ofNat (48 + n % 10)]
theorem digs_lo {n : Nat} (h : n < 10) : digs n = [UInt8.ofNat (48 + n)] := by rw [digs, dif_pos h]
theorem digs_hi {n : Nat} (h : ¬ n < 10) : digs n = digs (n / 10) ++ [UInt8.ofNat (48 + n % 10)] := by rw [digs, dif_neg h]
def decText (n : Int) : List UInt8 := if n < 0 then 45 :: digs n.natAbs else digs n.natAbs

theorem wrap_u64 (n : Int) : IntKind.u64.wrap n = n % 18446744073709551616 := rfl
theorem wrap_u32 (n : Int) : IntKind.u32.wrap n = n % 4294967296 := rfl
theorem wrap_u16 (n : Int) : IntKind.u16.wrap n = n % 65536 := rfl
theorem wrap_u8 (n : Int) : IntKind.u8.wrap n = n % 256 := rfl
theorem wrap_neg (n : Int) (h0 : -9223372036854775808 ≤ n) (hn : n < 0) : IntKind.u64.wrap (-IntKind.u64.wrap n) = (n.natAbs : Int) := by
  rw [wrap_u64, wrap_u64]; omega
theorem digs_len_pos (n : Nat) : 0 < (digs n).length := by
  by_cases h : n < 10
  · rw [digs_lo h]; simp
  · rw [digs_hi h]; simp
theorem digs_len (k : Nat) : ∀ n, n < 10 ^ (k + 1) → (digs n).length ≤ k + 1 := by
  induction k with
  | zero => intro n h; rw [digs_lo (by simpa using h)]; simp
  | succ k ih =>
    intro n h
    by_cases h1 : n < 10
    · rw [digs_lo h1]; simp
    · rw [digs_hi h1]
      have := ih (n / 10) (by rw [Nat.pow_succ] at h; omega)
      simp; omega

theorem digs_len20 (n : Nat) (h : n ≤ 18446744073709551615) : (digs n).length ≤ 20 := digs_len 19 n (by omega)
theorem decText_len (n : Int) (h0 : -9223372036854775808 ≤ n) (h1 : n ≤ 9223372036854775807) : (decText n).length ≤ 21 := by
  unfold decText; have := digs_len20 n.natAbs (by omega); split <;> simp <;> omega

/-! ### reading decimal digits, as dec.Parse does -/
def dstep (n : Option Int) (c : UInt8) : Option Int := match n with
  | none => none
  | some n => if (c.toNat : Int) < 48 ∨ 58 ≤ (c.toNat : Int) ∨ (9223372036854775807 - ((c.toNat : Int) - 48)) / 10 < n then none else some (n * 10 + ((c.toNat : Int) - 48))
def dloop (l : List UInt8) : Option Int := l.foldl dstep (some 0)
def decParse (l : List UInt8) (most : Int) : Int × Bool :=
  if l = [] ∨ (1 < l.length ∧ l[0]? = some 48) then (0, false)
  else match dloop l with
    | none => (0, false)
    | some n => if most < n then (0, false) else (n, true)
theorem dloop_snoc (l : List UInt8) (c : UInt8) : dloop (l ++ [c]) = dstep (dloop l) c := by simp [dloop]
theorem dfold_none (c : List UInt8) : c.foldl dstep none = none := by
  induction c with
  | nil => rfl
  | cons x r ih => simpa [dstep] using ih
theorem dloop_none (l : List UInt8) (c : List UInt8) (h : dloop l = none) : dloop (l ++ c) = none := by
  unfold dloop at *; rw [List.foldl_append, h]; exact dfold_none c
theorem dloop_stop (s : ByteArray) (k : Nat) (h : k < s.size) (v : Int) (hv : dloop (s.data.toList.take k) = some v) (hd : dstep (some v) s[k] = none) : dloop s.data.toList = none := by
  have := dloop_none (s.data.toList.take (k+1)) (s.data.toList.drop (k+1)) (by rw [take_snoc s k h, dloop_snoc, hv, hd])
  rwa [List.take_append_drop] at this
theorem dec_bad (s : ByteArray) (most : Int) (h : s.toList.isEmpty = true) : decParse s.data.toList most = (0, false) := by
  rw [isE] at h; unfold decParse; rw [if_pos (Or.inl (List.isEmpty_iff.1 h))]
theorem dec_lead (s : ByteArray) (most : Int) (h1 : 1 < (s.size : Int)) (h0 : 0 < s.size) (h : ((s[0].toNat : Int) == 48) = true) : decParse s.data.toList most = (0, false) := by
  unfold decParse
  rw [if_pos]
  refine Or.inr ⟨by have := len_data s; omega, ?_⟩
  rw [get_data s 0 h0]
  have h := beq_iff_eq.1 h
  congr 1
  exact UInt8.toNat_inj.1 (by simpa using (by omega : s[0].toNat = 48))
theorem dec_go (s : ByteArray) (most : Int) (he : s.toList.isEmpty = false) (hl : (s.size : Int) ≤ 1 ∨ ∃ h : 0 < s.size, ((s[0].toNat : Int) == 48) = false) :
    decParse s.data.toList most = match dloop s.data.toList with
    | none => (0, false)
    | some n => if most < n then (0, false) else (n, true) := by
  unfold decParse
  rw [if_neg]
  rintro (h | ⟨h1, h2⟩)
  · rw [isE, h] at he; simp at he
  · have e := len_data s
    rcases hl with hl | ⟨h0, hl⟩
    · omega
    · rw [get_data s 0 h0] at h2
      simp at h2
      rw [h2] at hl
      simp at hl
theorem dstep_out (v : Int) (c : UInt8) (h : (c.toNat : Int) - 48 < 0 ∨ 10 ≤ (c.toNat : Int) - 48 ∨ (9223372036854775807 - ((c.toNat : Int) - 48)) / 10 < v) : dstep (some v) c = none := by
  unfold dstep; simp only; rw [if_pos (by omega)]
theorem dstep_in (v : Int) (c : UInt8) (h1 : ¬ (c.toNat : Int) - 48 < 0) (h2 : ¬ 10 ≤ (c.toNat : Int) - 48) (h3 : v ≤ (9223372036854775807 - ((c.toNat : Int) - 48)) / 10) : dstep (some v) c = some (v * 10 + ((c.toNat : Int) - 48)) := by
  unfold dstep; simp only; rw [if_neg (by omega)]

/-! ### a number written into a row of bytes from its end on -/
def bv (c : UInt8) : Value := .int .u8 c.toNat
/-- from place k on the row holds the bytes acc -/
def Tail (arr : List Value) (k : Nat) (acc : List UInt8) : Prop := arr.drop k = acc.map bv
theorem Tail.set {arr : List Value} {k : Nat} {acc : List UInt8} (h : Tail arr k acc) (hk : 0 < k) (hl : k ≤ arr.length) (c : UInt8) : Tail (arr.set (k - 1) (bv c)) (k - 1) (c :: acc) := by
  unfold Tail at *
  have hl' : k - 1 < (arr.set (k - 1) (bv c)).length := by rw [List.length_set]; omega
  rw [List.drop_eq_getElem_cons hl', List.getElem_set_self, List.drop_set_of_lt (by omega), show k - 1 + 1 = k from by omega, h]
  rfl
theorem Tail.len {arr : List Value} {k : Nat} {acc : List UInt8} (h : Tail arr k acc) : arr.length - k = acc.length := by
  have := congrArg List.length h; simpa using this
/-- what stands in the row behind some rounds: the digits that are written, and the number that is left -/
def TextAt (N m k : Nat) (arr : List Value) : Prop := m < 10 ^ (k - 1) ∧ ∃ acc, Tail arr k acc ∧ digs N = digs m ++ acc
theorem TextAt.step {N m k : Nat} {arr : List Value} (h : TextAt N m k arr) (hk : 3 ≤ k) (hl : k ≤ arr.length) (hm : 10 ≤ m) (v : Value) (hv : v = bv (UInt8.ofNat (48 + m % 10))) (hd : m / 10 < 10 ^ (k - 1 - 1)) : TextAt N (m / 10) (k - 1) (arr.set (k - 1) v) := by
  obtain ⟨h1, acc, h2, h3⟩ := h
  refine ⟨hd, _, by rw [hv]; exact h2.set (by omega) hl _, ?_⟩
  rw [h3, digs_hi (by omega)]; simp
theorem TextAt.last {N m k : Nat} {arr : List Value} (h : TextAt N m k arr) (hk : 1 ≤ k) (hl : k ≤ arr.length) (hm : m < 10) (v : Value) (hv : v = bv (UInt8.ofNat (48 + m))) : Tail (arr.set (k - 1) v) (k - 1) (digs N) := by
  obtain ⟨h1, acc, h2, h3⟩ := h
  rw [hv, h3, digs_lo hm]
  exact h2.set (by omega) hl _
theorem pow_lt (m k : Nat) (h : m < 10 ^ (k - 1)) (hm : 10 ≤ m) : 3 ≤ k := by
  rcases Nat.lt_or_ge k 3 with h1 | h1
  · have : 10 ^ (k - 1) ≤ 10 ^ 1 := Nat.pow_le_pow_right (by omega) (by omega)
    omega
  · exact h1
theorem pow_div (m k : Nat) (h : m < 10 ^ (k - 1)) (hk : 3 ≤ k) : m / 10 < 10 ^ (k - 1 - 1) := by
  have : 10 ^ (k - 1) = 10 ^ (k - 1 - 1) * 10 := by rw [← Nat.pow_succ]; congr 1; omega
  omega

/-! ### hex digits -/
def hexDig (n : Nat) : UInt8 := if n < 10 then UInt8.ofNat (48 + n) else UInt8.ofNat (87 + n)
def hexs (n : Nat) : List UInt8 := if _h : n < 16 then [hexDig n] else hexs (n / 16) ++ [hexDig (n % 16)]
theorem hexs_lo {n : Nat} (h : n < 16) : hexs n = [hexDig n] := by rw [hexs, dif_pos h]
theorem hexs_hi {n : Nat} (h : ¬ n < 16) : hexs n = hexs (n / 16) ++ [hexDig (n % 16)] := by rw [hexs, dif_neg h]
def hexText (n : Int) : List UInt8 := if n < 0 ∨ 65535 < n then [] else hexs n.toNat
def hexVal (c : UInt8) : Int :=
  if 48 ≤ (c.toNat : Int) ∧ (c.toNat : Int) ≤ 57 then c.toNat - 48 else if 97 ≤ (c.toNat : Int) ∧ (c.toNat : Int) ≤ 102 then c.toNat - 87 else if 65 ≤ (c.toNat : Int) ∧ (c.toNat : Int) ≤ 70 then c.toNat - 55 else -1
theorem hexVal_bd (c : UInt8) : -1 ≤ hexVal c ∧ hexVal c ≤ 15 := by
  unfold hexVal; have := byte_lt c
  by_cases h1 : 48 ≤ (c.toNat : Int) ∧ (c.toNat : Int) ≤ 57
  · rw [if_pos h1]; omega
  rw [if_neg h1]
  by_cases h2 : 97 ≤ (c.toNat : Int) ∧ (c.toNat : Int) ≤ 102
  · rw [if_pos h2]; omega
  rw [if_neg h2]
  split <;> omega
def hstep (n : Option Int) (c : UInt8) : Option Int := match n with
  | none => none
  | some n => if hexVal c < 0 then none else some (n * 16 + hexVal c)
def hloop (l : List UInt8) : Option Int := l.foldl hstep (some 0)
def hexParse (l : List UInt8) : Int × Bool :=
  if l = [] ∨ 4 < l.length then (0, false) else match hloop l with | none => (0, false) | some n => (n, true)
theorem hloop_snoc (l : List UInt8) (c : UInt8) : hloop (l ++ [c]) = hstep (hloop l) c := by simp [hloop]
theorem hfold_none (c : List UInt8) : c.foldl hstep none = none := by
  induction c with
  | nil => rfl
  | cons x r ih => simpa [hstep] using ih
theorem hloop_stop (s : ByteArray) (k : Nat) (h : k < s.size) (v : Int) (hv : hloop (s.data.toList.take k) = some v) (hd : hexVal s[k] < 0) : hloop s.data.toList = none := by
  rw [← List.take_append_drop (k + 1) s.data.toList, take_snoc s k h]
  unfold hloop at *
  rw [List.foldl_append, List.foldl_append, hv]
  simp only [List.foldl_cons, List.foldl_nil, hstep]
  rw [if_pos hd]; exact hfold_none _
theorem hstep_in (v : Int) (c : UInt8) (h : 0 ≤ hexVal c) : hstep (some v) c = some (v * 16 + hexVal c) := by
  unfold hstep; simp only; rw [if_neg (by omega)]

def HexAt (N m k : Nat) (arr : List Value) : Prop := m < 16 ^ k ∧ ∃ acc, Tail arr k acc ∧ hexs N = hexs m ++ acc
theorem hex_lt (m k : Nat) (h : m < 16 ^ k) (hm : 16 ≤ m) : 2 ≤ k := by
  rcases Nat.lt_or_ge k 2 with h1 | h1
  · have : 16 ^ k ≤ 16 ^ 1 := Nat.pow_le_pow_right (by omega) (by omega)
    omega
  · exact h1
theorem hex_div (m k : Nat) (h : m < 16 ^ k) (hk : 1 ≤ k) : m / 16 < 16 ^ (k - 1) := by
  have : 16 ^ k = 16 ^ (k - 1) * 16 := by rw [← Nat.pow_succ]; congr 1; omega
  omega
theorem HexAt.step {N m k : Nat} {arr : List Value} (h : HexAt N m k arr) (hk : 2 ≤ k) (hl : k ≤ arr.length) (hm : 16 ≤ m) (v : Value) (hv : v = bv (hexDig (m % 16))) : HexAt N (m / 16) (k - 1) (arr.set (k - 1) v) := by
  obtain ⟨h1, acc, h2, h3⟩ := h
  refine ⟨hex_div m k h1 (by omega), _, by rw [hv]; exact h2.set (by omega) hl _, ?_⟩
  rw [h3, hexs_hi (by omega)]; simp
theorem HexAt.last {N m k : Nat} {arr : List Value} (h : HexAt N m k arr) (hk : 1 ≤ k) (hl : k ≤ arr.length) (hm : m < 16) (v : Value) (hv : v = bv (hexDig (m % 16))) : Tail (arr.set (k - 1) v) (k - 1) (hexs N) := by
  obtain ⟨h1, acc, h2, h3⟩ := h
  rw [hv, h3, hexs_lo hm, show m % 16 = m from by omega]
  exact h2.set (by omega) hl _
theorem hexs_len (k : Nat) : ∀ n, n < 16 ^ (k + 1) → (hexs n).length ≤ k + 1 := by
  induction k with
  | zero => intro n h; rw [hexs_lo (by simpa using h)]; simp
  | succ k ih =>
    intro n h
    by_cases h1 : n < 16
    · rw [hexs_lo h1]; simp
    · rw [hexs_hi h1]
      have := ih (n / 16) (by rw [Nat.pow_succ] at h; omega)
      simp; omega
theorem hexText_len (n : Int) : (hexText n).length ≤ 4 := by
  unfold hexText; split
  · simp
  · exact hexs_len 3 n.toNat (by simp; omega)

/-! ### the first place of a byte -/
def placeOf : List UInt8 → UInt8 → Int
  | [], _ => -1
  | x :: r, c => if x = c then 0 else if placeOf r c < 0 then -1 else placeOf r c + 1
theorem placeOf_none {l : List UInt8} {c : UInt8} (h : ∀ j < l.length, l[j]? ≠ some c) : placeOf l c = -1 := by
  induction l with
  | nil => rfl
  | cons x r ih =>
    have h0 := h 0 (by simp)
    have hr := ih (fun j hj => by have := h (j + 1) (by simpa using hj); simpa using this)
    unfold placeOf; rw [if_neg (by simpa using h0), hr]; rfl
theorem placeOf_at {l : List UInt8} {c : UInt8} {k : Nat} (h : ∀ j < k, l[j]? ≠ some c) (hk : l[k]? = some c) : placeOf l c = k := by
  induction l generalizing k with
  | nil => simp at hk
  | cons x r ih =>
    unfold placeOf
    cases k with
    | zero => simp at hk; rw [if_pos hk]; rfl
    | succ k =>
      have h0 := h 0 (by omega)
      have hr := ih (k := k) (fun j hj => by have := h (j + 1) (by omega); simpa using this) (by simpa using hk)
      rw [if_neg (by simpa using h0), hr, if_neg (by omega)]; omega

/-! ### endings -/
theorem ret_of {v v' : Value} (h : v = v') : Ending.returned v = .returned v' := by rw [h]
theorem ret_int {k : IntKind} {a b : Int} (h : a = b) : Ending.returned (.int k a) = .returned (.int k b) := by rw [h]
theorem ret_str {a b : ByteArray} (h : a = b) : Ending.returned (.string a) = .returned (.string b) := by rw [h]
theorem ret_bool {a b : Bool} (h : a = b) : Ending.returned (.bool a) = .returned (.bool b) := by rw [h]
theorem ret_ib {k : IntKind} {a b : Int} {x y : Bool} (h : a = b) (g : x = y) : Ending.returned (.tuple #[.int k a, .bool x]) = .returned (.tuple #[.int k b, .bool y]) := by rw [h, g]

theorem hexDig_lo (n : Int) (h0 : 0 ≤ n) (h : n < 10) : 48 + n = ((hexDig n.toNat).toNat : Int) := by
  unfold hexDig; rw [if_pos (by omega), u8_of _ (by omega)]; omega
theorem hexDig_hi (n : Int) (h1 : n < 16) (h : 10 ≤ n) : 97 + (n - 10) = ((hexDig n.toNat).toNat : Int) := by
  unfold hexDig; rw [if_neg (by omega), u8_of _ (by omega)]; omega
theorem hexVal_1 (c : UInt8) (h : 48 ≤ (c.toNat : Int)) (h2 : (c.toNat : Int) ≤ 57) : hexVal c = c.toNat - 48 := by unfold hexVal; rw [if_pos ⟨h, h2⟩]
theorem hexVal_2 (c : UInt8) (h : 97 ≤ (c.toNat : Int)) (h2 : (c.toNat : Int) ≤ 102) : hexVal c = c.toNat - 97 + 10 := by unfold hexVal; rw [if_neg (by omega), if_pos ⟨h, h2⟩]; omega
theorem hexVal_3 (c : UInt8) (h : 65 ≤ (c.toNat : Int)) (h2 : (c.toNat : Int) ≤ 70) : hexVal c = c.toNat - 65 + 10 := by unfold hexVal; rw [if_neg (by omega), if_neg (by omega), if_pos ⟨h, h2⟩]; omega
theorem hexVal_4 (c : UInt8) (h : ¬ (48 ≤ (c.toNat : Int) ∧ (c.toNat : Int) ≤ 57)) (h2 : ¬ (97 ≤ (c.toNat : Int) ∧ (c.toNat : Int) ≤ 102)) (h3 : ¬ (65 ≤ (c.toNat : Int) ∧ (c.toNat : Int) ≤ 70)) : hexVal c = -1 := by
  unfold hexVal; rw [if_neg h, if_neg h2, if_neg h3]
end Go.Proofs.Ytppmjbnhghaffaa
/- Addresses, ends, peers as plain data, and how they stand. No condition. -/
namespace Go.Proofs.Ytppmjbnhghaffaa
open Go.RowKit

structure Ad where
  v6 : Bool
  hi : Nat
  lo : Nat
structure En where
  ad : Ad
  port : Int
theorem Ad.ext' {a b : Ad} (h1 : a.v6 = b.v6) (h2 : a.hi = b.hi) (h3 : a.lo = b.lo) : a = b := by cases a; cases b; simp_all
theorem En.ext' {a b : En} (h1 : a.ad = b.ad) (h2 : a.port = b.port) : a = b := by cases a; cases b; simp_all
instance : DecidableEq Ad := fun a b => decidable_of_iff (a.v6 = b.v6 ∧ a.hi = b.hi ∧ a.lo = b.lo) ⟨fun ⟨h1, h2, h3⟩ => Ad.ext' h1 h2 h3, fun h => by subst h; exact ⟨rfl, rfl, rfl⟩⟩
instance : DecidableEq En := fun a b => decidable_of_iff (a.ad = b.ad ∧ a.port = b.port) ⟨fun ⟨h1, h2⟩ => En.ext' h1 h2, fun h => by subst h; exact ⟨rfl, rfl⟩⟩
instance : Inhabited Ad := ⟨⟨false, 0, 0⟩⟩
instance : Inhabited En := ⟨⟨default, 0⟩⟩
/-- the numbers are numbers of 64 bits -/
def Ad.fits (a : Ad) : Prop := a.hi < 18446744073709551616 ∧ a.lo < 18446744073709551616

/-- which of two numbers stands first: -1, 0, 1 -/
def cmpI (a b : Int) : Int := if a < b then -1 else if b < a then 1 else 0
/-- the first that is not 0 -/
def orI : List Int → Int
  | [] => 0
  | x :: r => if x = 0 then orI r else x
def famI (a : Ad) : Int := if a.v6 then 1 else 0
def adCmp (a b : Ad) : Int := orI [cmpI (famI a) (famI b), cmpI a.hi b.hi, cmpI a.lo b.lo]
def enCmp (a b : En) : Int := orI [adCmp a.ad b.ad, cmpI a.port b.port]

theorem cmpI_zero {a b : Int} (h : cmpI a b = 0) : a = b := by
  unfold cmpI at h; split at h
  · omega
  · split at h <;> omega
theorem cmpI_self (a : Int) : cmpI a a = 0 := by unfold cmpI; simp
theorem cmpI_neg (a b : Int) : cmpI b a = -cmpI a b := by
  unfold cmpI; split <;> split <;> (try split) <;> omega
theorem cmpI_vals (a b : Int) : cmpI a b = -1 ∨ cmpI a b = 0 ∨ cmpI a b = 1 := by
  unfold cmpI; split
  · simp
  · split <;> simp
theorem orI_two (x y : Int) : orI [x, y] = if x = 0 then y else x := by
  simp only [orI]; split
  · split <;> omega
  · rfl
theorem orI_three (x y z : Int) : orI [x, y, z] = if x = 0 then (if y = 0 then z else y) else x := by
  rw [orI, orI_two]
theorem cmp_lt_iff (a b : Int) : cmpI a b < 0 ↔ a < b := by
  unfold cmpI; split
  · simp_all
  · split <;> omega
theorem cmp_gt_iff (a b : Int) : 0 < cmpI a b ↔ b < a := by
  unfold cmpI; split
  · omega
  · split <;> omega

/-! ### a comparison: of what reads as a total order -/
structure Cmp {α : Type} (c : α → α → Int) : Prop where
  neg : ∀ a b, c b a = -c a b
  trans : ∀ a b d, c a b ≤ 0 → c b d ≤ 0 → c a d ≤ 0
theorem Cmp.self {α : Type} {c : α → α → Int} (C : Cmp c) (a : α) : c a a = 0 := by have := C.neg a a; omega
theorem Cmp.eq_trans {α : Type} {c : α → α → Int} (C : Cmp c) {a b d : α} (h1 : c a b = 0) (h2 : c b d = 0) : c a d = 0 := by
  have := C.trans a b d (by omega) (by omega)
  have := C.trans d b a (by rw [C.neg b d]; omega) (by rw [C.neg a b]; omega)
  have := C.neg a d; omega
theorem Cmp.le_eq {α : Type} {c : α → α → Int} (C : Cmp c) {a b d : α} (h1 : c a b < 0) (h2 : c b d ≤ 0) : c a d < 0 := by
  have h3 := C.trans a b d (by omega) h2
  rcases Int.lt_or_eq_of_le h3 with h | h
  · exact h
  · have := C.trans b d a h2 (by rw [C.neg a d]; omega)
    rw [C.neg a b] at this; omega
theorem Cmp.eq_le {α : Type} {c : α → α → Int} (C : Cmp c) {a b d : α} (h1 : c a b ≤ 0) (h2 : c b d < 0) : c a d < 0 := by
  have h3 := C.trans a b d h1 (by omega)
  rcases Int.lt_or_eq_of_le h3 with h | h
  · exact h
  · have := C.trans d a b (by rw [C.neg a d]; omega) h1
    rw [C.neg b d] at this; omega
theorem cmp_int : Cmp cmpI := ⟨cmpI_neg, fun a b d h1 h2 => by
  have e1 : ¬ b < a := fun h => by have := (cmp_gt_iff a b).2 h; omega
  have e2 : ¬ d < b := fun h => by have := (cmp_gt_iff b d).2 h; omega
  have : ¬ 0 < cmpI a d := fun h => by have := (cmp_gt_iff a d).1 h; omega
  omega⟩
theorem cmp_on {α β : Type} {c : β → β → Int} (C : Cmp c) (f : α → β) : Cmp fun a b => c (f a) (f b) := ⟨fun a b => C.neg _ _, fun a b d => C.trans _ _ _⟩
/-- one comparison, and of alike ones another -/
theorem cmp_then {α : Type} {c d : α → α → Int} (C : Cmp c) (D : Cmp d) : Cmp fun a b => if c a b = 0 then d a b else c a b := by
  constructor
  · intro a b
    have := C.neg a b; have := D.neg a b
    split <;> split <;> omega
  · intro a b e h1 h2
    by_cases e1 : c a b = 0
    · rw [if_pos e1] at h1
      by_cases e2 : c b e = 0
      · rw [if_pos e2] at h2
        rw [if_pos (C.eq_trans e1 e2)]; exact D.trans _ _ _ h1 h2
      · rw [if_neg e2] at h2
        have := C.eq_le (a := a) (b := b) (d := e) (by omega) (by omega)
        rw [if_neg (by omega)]; omega
    · rw [if_neg e1] at h1
      have h3 : c b e ≤ 0 := by split at h2 <;> omega
      have := C.le_eq (a := a) (b := b) (d := e) (by omega) h3
      rw [if_neg (by omega)]; omega
theorem cmp_ad : Cmp adCmp := by
  have h := cmp_then (cmp_on cmp_int famI) (cmp_then (cmp_on cmp_int (fun a : Ad => (a.hi : Int))) (cmp_on cmp_int (fun a : Ad => (a.lo : Int))))
  have e : adCmp = _ := funext fun a => funext fun b => orI_three (cmpI (famI a) (famI b)) (cmpI a.hi b.hi) (cmpI a.lo b.lo)
  rw [e]; exact h
theorem cmp_en : Cmp enCmp := by
  have h := cmp_then (cmp_on cmp_ad En.ad) (cmp_on cmp_int En.port)
  have e : enCmp = _ := funext fun a => funext fun b => orI_two (adCmp a.ad b.ad) (cmpI a.port b.port)
  rw [e]; exact h
theorem famI_inj {a b : Ad} (h : famI a = famI b) : a.v6 = b.v6 := by
  unfold famI at h; cases ha : a.v6 <;> cases hb : b.v6 <;> rw [ha, hb] at h <;> simp at h ⊢
theorem adCmp_zero {a b : Ad} (h : adCmp a b = 0) : a = b := by
  unfold adCmp at h; rw [orI_three] at h
  by_cases h1 : cmpI (famI a) (famI b) = 0
  · rw [if_pos h1] at h
    by_cases h2 : cmpI a.hi b.hi = 0
    · rw [if_pos h2] at h
      exact Ad.ext' (famI_inj (cmpI_zero h1)) (by have := cmpI_zero h2; omega) (by have := cmpI_zero h; omega)
    · rw [if_neg h2] at h; exact absurd h h2
  · rw [if_neg h1] at h; exact absurd h h1
theorem enCmp_zero {a b : En} (h : enCmp a b = 0) : a = b := by
  unfold enCmp at h; rw [orI_two] at h
  by_cases h1 : adCmp a.ad b.ad = 0
  · rw [if_pos h1] at h; exact En.ext' (adCmp_zero h1) (cmpI_zero h)
  · rw [if_neg h1] at h; exact absurd h h1
theorem orI_vals {l : List Int} (h : ∀ x ∈ l, x = -1 ∨ x = 0 ∨ x = 1) : orI l = -1 ∨ orI l = 0 ∨ orI l = 1 := by
  induction l with
  | nil => simp [orI]
  | cons x r ih =>
    unfold orI; split
    · exact ih (fun y hy => h y (List.mem_cons_of_mem _ hy))
    · exact h x (List.mem_cons_self)
theorem adCmp_vals (a b : Ad) : adCmp a b = -1 ∨ adCmp a b = 0 ∨ adCmp a b = 1 := by
  refine orI_vals ?_
  intro x hx
  simp only [List.mem_cons, List.not_mem_nil, or_false] at hx
  rcases hx with rfl | rfl | rfl <;> exact cmpI_vals _ _
theorem enCmp_vals (a b : En) : enCmp a b = -1 ∨ enCmp a b = 0 ∨ enCmp a b = 1 := by
  refine orI_vals ?_
  intro x hx
  simp only [List.mem_cons, List.not_mem_nil, or_false] at hx
  rcases hx with rfl | rfl
  · exact adCmp_vals _ _
  · exact cmpI_vals _ _
/-- the reference's comparison of addresses -/
theorem adCmp_eq (a b : Ad) : adCmp a b = if a = b then 0 else if (if a.v6 ≠ b.v6 then !a.v6 else if a.hi ≠ b.hi then decide (a.hi < b.hi) else decide (a.lo < b.lo)) = true then -1 else 1 := by
  by_cases h : a = b
  · subst h; rw [if_pos rfl]; exact cmp_ad.self a
  · rw [if_neg h]
    unfold adCmp; rw [orI_three]
    by_cases h1 : a.v6 = b.v6
    · have f : famI a = famI b := by unfold famI; rw [h1]
      rw [f, cmpI_self, if_pos rfl, if_neg (not_not_intro h1)]
      by_cases h2 : a.hi = b.hi
      · rw [h2, cmpI_self, if_pos rfl, if_neg (not_not_intro rfl)]
        have h3 : a.lo ≠ b.lo := fun e => h (Ad.ext' h1 h2 e)
        unfold cmpI
        by_cases h4 : a.lo < b.lo
        · rw [if_pos (by omega), if_pos (by simpa using h4)]
        · rw [if_neg (by omega), if_pos (by omega), if_neg (by simpa using h4)]
      · have h3 : cmpI a.hi b.hi ≠ 0 := fun e => h2 (by have := cmpI_zero e; omega)
        rw [if_neg h3, if_pos h2]
        unfold cmpI
        by_cases h4 : a.hi < b.hi
        · rw [if_pos (by omega), if_pos (by simpa using h4)]
        · rw [if_neg (by omega), if_pos (by omega), if_neg (by simpa using h4)]
    · have h3 : cmpI (famI a) (famI b) ≠ 0 := fun e => h1 (famI_inj (cmpI_zero e))
      rw [if_neg h3, if_pos h1]
      unfold cmpI famI
      cases ha : a.v6 <;> cases hb : b.v6 <;> simp_all
end Go.Proofs.Ytppmjbnhghaffaa
/- Plain facts on decimal and hex numbers: reading and writing are each other's inverse. No condition. -/
namespace Go.Proofs.Ytppmjbnhghaffaa
open Go.RowKit

def isDig (c : UInt8) : Prop := 48 ≤ c.toNat ∧ c.toNat ≤ 57
instance (c : UInt8) : Decidable (isDig c) := by unfold isDig; infer_instance
def nval (l : List UInt8) : Nat := l.foldl (fun n c => 10 * n + (c.toNat - 48)) 0
theorem nval_snoc (l : List UInt8) (c : UInt8) : nval (l ++ [c]) = 10 * nval l + (c.toNat - 48) := by simp [nval]
theorem snoc_ind {P : List UInt8 → Prop} (h0 : P []) (h1 : ∀ l c, P l → P (l ++ [c])) (l : List UInt8) : P l := by
  have : ∀ n (l : List UInt8), l.length = n → P l := by
    intro n
    induction n with
    | zero => intro l h; rw [List.length_eq_zero_iff.1 h]; exact h0
    | succ n ih =>
      intro l h
      have hne : l ≠ [] := by intro e; rw [e] at h; simp at h
      rw [← List.dropLast_concat_getLast hne]
      exact h1 _ _ (ih _ (by simp; omega))
  exact this _ l rfl
theorem dloop_digs (l : List UInt8) (h : ∀ c ∈ l, isDig c) : dloop l = if nval l ≤ 9223372036854775807 then some (nval l : Int) else none := by
  induction l using snoc_ind with
  | h0 => rfl
  | h1 l c ih =>
    have hc : isDig c := h c (by simp)
    obtain ⟨hc1, hc2⟩ := hc
    rw [dloop_snoc, ih (fun x hx => h x (by simp [hx])), nval_snoc]
    by_cases h1 : nval l ≤ 9223372036854775807
    · rw [if_pos h1]; unfold dstep; simp only
      by_cases h2 : 10 * nval l + (c.toNat - 48) ≤ 9223372036854775807
      · rw [if_pos h2, if_neg (by omega)]; congr 1; omega
      · rw [if_neg h2, if_pos (by omega)]
    · rw [if_neg h1, if_neg (by omega)]; rfl
theorem dloop_bad (l : List UInt8) (h : ¬ ∀ c ∈ l, isDig c) : dloop l = none := by
  induction l using snoc_ind with
  | h0 => exact absurd (by simp) h
  | h1 l c ih =>
    rw [dloop_snoc]
    by_cases hl : ∀ c ∈ l, isDig c
    · have hc : ¬ isDig c := fun hc => h (by intro x hx; rcases List.mem_append.1 hx with h1 | h1; exact hl x h1; rw [List.mem_singleton.1 h1]; exact hc)
      cases dloop l with
      | none => rfl
      | some v =>
        unfold dstep; simp only; rw [if_pos]
        unfold isDig at hc; omega
    · rw [ih hl]; rfl
theorem dig_char (n : Nat) (h : n < 10) : isDig (UInt8.ofNat (48 + n)) ∧ (UInt8.ofNat (48 + n)).toNat = 48 + n := by
  have := u8_of (48 + n) (by omega); unfold isDig; omega
theorem digs_isDig (n : Nat) : ∀ c ∈ digs n, isDig c := by
  induction n using Nat.strongRecOn with
  | _ n ih =>
    by_cases h : n < 10
    · rw [digs_lo h]; intro c hc; rw [List.mem_singleton.1 hc]; exact (dig_char n h).1
    · rw [digs_hi h]; intro c hc
      rcases List.mem_append.1 hc with h1 | h1
      · exact ih (n / 10) (by omega) c h1
      · rw [List.mem_singleton.1 h1]; exact (dig_char _ (by omega)).1
theorem nval_digs (n : Nat) : nval (digs n) = n := by
  induction n using Nat.strongRecOn with
  | _ n ih =>
    by_cases h : n < 10
    · rw [digs_lo h]; have := (dig_char n h).2; simp [nval] at *; omega
    · rw [digs_hi h, nval_snoc, ih (n / 10) (by omega), (dig_char _ (by omega)).2]; omega
/-- no leading zero -/
theorem digs_head (n : Nat) (h : 0 < n) : (digs n)[0]? ≠ some 48 := by
  induction n using Nat.strongRecOn with
  | _ n ih =>
    by_cases h1 : n < 10
    · rw [digs_lo h1]; have := (dig_char n h1).2
      intro e; rw [List.getElem?_cons_zero, Option.some.injEq] at e; rw [e] at this; have : (48 : UInt8).toNat = 48 := rfl; omega
    · rw [digs_hi h1]
      have := digs_len_pos (n / 10)
      rw [List.getElem?_append_left this]; exact ih (n / 10) (by omega) (by omega)
theorem digs_nval (l : List UInt8) (h : ∀ c ∈ l, isDig c) (hne : l ≠ []) (hz : l.length = 1 ∨ l[0]? ≠ some 48) : digs (nval l) = l ∧ (1 < l.length → 0 < nval l) := by
  induction l using snoc_ind with
  | h0 => exact absurd rfl hne
  | h1 l c ih =>
    have hc : isDig c := h c (by simp)
    have hcd : UInt8.ofNat (48 + (c.toNat - 48)) = c := by
      obtain ⟨h1, h2⟩ := hc
      rw [show 48 + (c.toNat - 48) = c.toNat from by omega]; simp
    rw [nval_snoc]
    by_cases hl : l = []
    · subst hl
      simp only [nval, List.foldl_nil, List.nil_append]
      obtain ⟨h1, h2⟩ := hc
      refine ⟨?_, by simp⟩
      rw [digs_lo (by omega), show 48 + (10 * 0 + (c.toNat - 48)) = 48 + (c.toNat - 48) from by omega, hcd]
    · have hlen : 0 < l.length := List.length_pos_iff.2 hl
      have hz' : l[0]? ≠ some 48 := by
        rcases hz with hz | hz
        · rw [List.length_append, List.length_singleton] at hz; omega
        · rwa [List.getElem?_append_left hlen] at hz
      obtain ⟨e1, e2⟩ := ih (fun x hx => h x (by simp [hx])) hl (Or.inr hz')
      have hpos : 0 < nval l := by
        rcases Nat.lt_or_ge 1 l.length with h1 | h1
        · exact e2 h1
        · obtain ⟨x, rfl⟩ := List.length_eq_one_iff.1 (by omega : l.length = 1)
          have hx := h x (by simp)
          have : x ≠ 48 := by simpa using hz'
          have : x.toNat ≠ 48 := fun e => this (UInt8.toNat_inj.1 e)
          unfold isDig at hx
          simp [nval]; omega
      refine ⟨?_, fun _ => by omega⟩
      rw [digs_hi (by omega), show (10 * nval l + (c.toNat - 48)) / 10 = nval l from by unfold isDig at hc; omega, e1,
        show 48 + (10 * nval l + (c.toNat - 48)) % 10 = 48 + (c.toNat - 48) from by unfold isDig at hc; omega, hcd]
/-- a number is read of its text -/
theorem decParse_digs (n : Nat) (most : Int) (h1 : n ≤ 9223372036854775807) (h2 : (n : Int) ≤ most) : decParse (digs n) most = ((n : Int), true) := by
  unfold decParse
  rw [if_neg, dloop_digs _ (digs_isDig n), nval_digs, if_pos h1]
  · simp only; rw [if_neg (by omega)]
  · rintro (h | ⟨h3, h4⟩)
    · have := digs_len_pos n; rw [h] at this; simp at this
    · by_cases hn : 0 < n
      · exact digs_head n hn h4
      · rw [show n = 0 from by omega, digs_lo (by omega)] at h3; simp at h3
/-- what is read is a number's text -/
theorem decParse_true {l : List UInt8} {most n : Int} (h : decParse l most = (n, true)) : ∃ m : Nat, n = m ∧ l = digs m ∧ (m : Int) ≤ most ∧ m ≤ 9223372036854775807 := by
  unfold decParse at h
  by_cases hb : l = [] ∨ (1 < l.length ∧ l[0]? = some 48)
  · rw [if_pos hb] at h; simp at h
  rw [if_neg hb] at h
  by_cases hd : ∀ c ∈ l, isDig c
  · rw [dloop_digs l hd] at h
    by_cases hm : nval l ≤ 9223372036854775807
    · rw [if_pos hm] at h; simp only at h
      by_cases hmo : most < (nval l : Int)
      · rw [if_pos hmo] at h; simp at h
      · rw [if_neg hmo] at h
        simp only [Prod.mk.injEq, and_true] at h
        have hne : l ≠ [] := fun e => hb (Or.inl e)
        have hp : 0 < l.length := List.length_pos_iff.2 hne
        refine ⟨nval l, h.symm, (digs_nval l hd hne ?_).1.symm, by omega, hm⟩
        by_cases h0 : l[0]? = some 48
        · left
          rcases Nat.lt_or_ge 1 l.length with h1 | h1
          · exact absurd (Or.inr ⟨h1, h0⟩) hb
          · omega
        · exact Or.inr h0
    · rw [if_neg hm] at h; simp at h
  · rw [dloop_bad l hd] at h; simp at h
theorem decParse_false {l : List UInt8} {most : Int} (h : (decParse l most).2 = false) : decParse l most = (0, false) := by
  unfold decParse at *
  split
  · rfl
  · rename_i hb
    rw [if_neg hb] at h
    cases hd : dloop l with
    | none => rfl
    | some v => rw [hd] at h; simp only at *; split; rfl; rename_i hm; rw [if_neg hm] at h; simp at h
/-- as the reference reads -/
def refDec (l : List UInt8) (most : Int) : Int × Bool :=
  if l.length < 1 ∨ 19 < l.length then (0, false)
  else if ∀ c ∈ l, isDig c then (if most < 0 ∨ most < (nval l : Int) ∨ digs (nval l) ≠ l then (0, false) else ((nval l : Int), true))
  else (0, false)
theorem nval_lt (l : List UInt8) (h : ∀ c ∈ l, isDig c) : nval l < 10 ^ l.length := by
  induction l using snoc_ind with
  | h0 => simp [nval]
  | h1 l c ih =>
    rw [nval_snoc, List.length_append, List.length_singleton, Nat.pow_succ]
    have := ih (fun x hx => h x (by simp [hx]))
    have hc : isDig c := h c (by simp)
    unfold isDig at hc; omega
theorem refDec_eq (l : List UInt8) (most : Int) (hmost : most ≤ 9223372036854775807) : refDec l most = decParse l most := by
  cases hd : (decParse l most).2 with
  | true =>
    obtain ⟨m, h1, h2, h3, h4⟩ := decParse_true (l := l) (most := most) (n := (decParse l most).1) (by rw [← hd])
    have e : decParse l most = ((m : Int), true) := by rw [← h1, ← hd]
    rw [e, h2]
    have hlen := digs_len 18 m (by omega)
    have hpos := digs_len_pos m
    unfold refDec
    rw [if_neg (by omega), if_pos (digs_isDig m), nval_digs, if_neg (by rintro (h | h | h); omega; omega; exact h rfl)]
  | false =>
    rw [decParse_false hd]
    unfold refDec
    split
    · rfl
    · rename_i hl
      split
      · rename_i hdg
        split
        · rfl
        · rename_i hb
          have := decParse_digs (nval l) most (by omega) (by omega)
          have e : digs (nval l) = l := Classical.not_not.1 (fun h => hb (Or.inr (Or.inr h)))
          rw [e] at this; rw [this] at hd; simp at hd
      · rfl

/-! ### hex numbers -/
theorem hexVal_dig (n : Nat) (h : n < 16) : hexVal (hexDig n) = n := by
  unfold hexDig
  split
  · rw [hexVal_1 _ (by rw [u8_of _ (by omega)]; omega) (by rw [u8_of _ (by omega)]; omega), u8_of _ (by omega)]; omega
  · rw [hexVal_2 _ (by rw [u8_of _ (by omega)]; omega) (by rw [u8_of _ (by omega)]; omega), u8_of _ (by omega)]; omega
theorem hexs_ne (n : Nat) : 0 < (hexs n).length := by
  by_cases h : n < 16
  · rw [hexs_lo h]; simp
  · rw [hexs_hi h]; simp
theorem hloop_hexs (n : Nat) : hloop (hexs n) = some (n : Int) := by
  induction n using Nat.strongRecOn with
  | _ n ih =>
    by_cases h : n < 16
    · rw [hexs_lo h]
      show hstep (some 0) (hexDig n) = _
      rw [hstep_in _ _ (by rw [hexVal_dig n h]; omega), hexVal_dig n h]; congr 1; omega
    · rw [hexs_hi h, hloop_snoc, ih (n / 16) (by omega), hstep_in _ _ (by rw [hexVal_dig _ (by omega)]; omega), hexVal_dig _ (by omega)]; congr 1; omega
theorem hexParse_hexs (n : Nat) (h : n ≤ 65535) : hexParse (hexs n) = ((n : Int), true) := by
  have h1 := hexs_ne n
  have h2 := hexs_len 3 n (by omega)
  unfold hexParse
  rw [if_neg (by rintro (e | e); rw [e] at h1; simp at h1; omega), hloop_hexs]
theorem hexParse_false {l : List UInt8} (h : (hexParse l).2 = false) : hexParse l = (0, false) := by
  unfold hexParse at *
  split
  · rfl
  · rename_i hb
    rw [if_neg hb] at h
    cases hd : hloop l with
    | none => rfl
    | some v => rw [hd] at h; simp at h
theorem hloop_bd (l : List UInt8) : ∀ v, hloop l = some v → 0 ≤ v ∧ v < 16 ^ l.length := by
  induction l using snoc_ind with
  | h0 => intro v h; simp [hloop] at h; subst h; simp
  | h1 l c ih =>
    intro v h
    rw [hloop_snoc] at h
    cases hl : hloop l with
    | none => rw [hl] at h; simp [hstep] at h
    | some u =>
      obtain ⟨h1, h2⟩ := ih u hl
      rw [hl] at h
      unfold hstep at h; simp only at h
      have hb := hexVal_bd c
      split at h
      · cases h
      · simp only [Option.some.injEq] at h
        rw [List.length_append, List.length_singleton, Int.pow_succ]; omega
theorem hexParse_bd (l : List UInt8) : 0 ≤ (hexParse l).1 ∧ (hexParse l).1 ≤ 65535 := by
  unfold hexParse
  split
  · simp
  · rename_i hb
    cases hl : hloop l with
    | none => simp
    | some v =>
      obtain ⟨h1, h2⟩ := hloop_bd l v hl
      have h4 : l.length ≤ 4 := by
        rcases Nat.lt_or_ge 4 l.length with h | h
        · exact absurd (Or.inr h) hb
        · exact h
      have : (16 : Nat) ^ l.length ≤ 16 ^ 4 := Nat.pow_le_pow_right (by omega) h4
      have : (16 : Int) ^ l.length ≤ 16 ^ 4 := by exact_mod_cast this
      simp only; omega
/-- the value of a hex digit, as the reference finds it -/
def loPlace (c : UInt8) : Int := placeOf [48, 49, 50, 51, 52, 53, 54, 55, 56, 57, 97, 98, 99, 100, 101, 102] c
def hiPlace (c : UInt8) : Int := placeOf [48, 49, 50, 51, 52, 53, 54, 55, 56, 57, 65, 66, 67, 68, 69, 70] c
theorem places_all : ∀ n : Fin 256, (if loPlace (UInt8.ofNat n) < 0 then hiPlace (UInt8.ofNat n) else loPlace (UInt8.ofNat n)) = hexVal (UInt8.ofNat n) := by decide +kernel
theorem places (c : UInt8) : (if loPlace c < 0 then hiPlace c else loPlace c) = hexVal c := by
  have := places_all ⟨c.toNat, c.toNat_lt⟩; simpa using this
end Go.Proofs.Ytppmjbnhghaffaa
/- Ticks within bounds, points that decay: plain. No condition. -/
namespace Go.Proofs.Ytppmjbnhghaffaa
open Go.RowKit

def fitI (n : Int) : Int := if n < 0 then 0 else if 1099511627776 < n then 1099511627776 else n
theorem fitI_in (n : Int) : 0 ≤ fitI n ∧ fitI n ≤ 1099511627776 := by unfold fitI; split <;> (try split) <;> omega
theorem fitI_same {n : Int} (h0 : 0 ≤ n) (h1 : n ≤ 1099511627776) : fitI n = n := by unfold fitI; rw [if_neg (by omega), if_neg (by omega)]
theorem fitI_minmax (n : Int) : min (max n 0) 1099511627776 = fitI n := by unfold fitI; split <;> (try split) <;> omega
def spanI (n : Int) : Int := if n < 1 then 1 else if 1073741824 < n then 1073741824 else n
theorem spanI_in (n : Int) : 1 ≤ spanI n ∧ spanI n ≤ 1073741824 := by unfold spanI; split <;> (try split) <;> omega
theorem spanI_minmax (n : Int) : min (max n 1) 1073741824 = spanI n := by unfold spanI; split <;> (try split) <;> omega
/-- how many half-lives have gone -/
def gone (at' half now : Int) : Int := fitI (fitI now - fitI at') / spanI half
def decPts (p at' half now : Int) : Int := fitI p / 2 ^ (min (gone at' half now) 41).toNat
def decAt (at' half now : Int) : Int := fitI at' + gone at' half now * spanI half
theorem gone_in (a h n : Int) : 0 ≤ gone a h n ∧ gone a h n ≤ 1099511627776 := by
  unfold gone
  have h1 := fitI_in (fitI n - fitI a)
  have h2 := spanI_in h
  refine ⟨Int.ediv_nonneg h1.1 (by omega), ?_⟩
  exact Int.le_trans (Int.ediv_le_self _ h1.1) h1.2
theorem pow2_pos (k : Nat) : (0 : Int) < 2 ^ k := Int.pow_pos (by omega)
theorem decPts_in (p a h n : Int) : 0 ≤ decPts p a h n ∧ decPts p a h n ≤ 1099511627776 := by
  unfold decPts
  have h1 := fitI_in p
  exact ⟨Int.ediv_nonneg h1.1 (Int.le_of_lt (pow2_pos _)), Int.le_trans (Int.ediv_le_self _ h1.1) h1.2⟩
theorem gone_mul (a h n : Int) : 0 ≤ gone a h n * spanI h ∧ gone a h n * spanI h ≤ fitI (fitI n - fitI a) := by
  unfold gone
  have h1 := fitI_in (fitI n - fitI a)
  have h2 := spanI_in h
  refine ⟨Int.mul_nonneg (Int.ediv_nonneg h1.1 (by omega)) (by omega), Int.ediv_mul_le _ (by omega)⟩
theorem decAt_in (a h n : Int) : 0 ≤ decAt a h n ∧ decAt a h n ≤ 1099511627776 := by
  unfold decAt
  have h1 := fitI_in a
  have h2 := gone_mul a h n
  have h3 := fitI_in n
  generalize gone a h n * spanI h = m at *
  generalize fitI a = x at *
  generalize fitI n = y at *
  unfold fitI at h2
  split at h2
  · omega
  · split at h2 <;> omega
theorem pow_mono2 {j g : Nat} (h : j ≤ g) : (2 : Int) ^ j ≤ 2 ^ g := by
  have := Nat.pow_le_pow_right (n := 2) (by omega) h
  have e : ∀ k : Nat, ((2 ^ k : Nat) : Int) = 2 ^ k := fun k => by simp
  rw [← e j, ← e g]; exact Int.ofNat_le.2 this
theorem pow41 : (2 : Int) ^ 41 = 2199023255552 := by decide
theorem lt_of_div0 {p : Int} {j : Nat} (h : p / 2 ^ j = 0) : p < 2 ^ j := by
  have h1 := Int.emod_add_mul_ediv p (2 ^ j)
  rw [h] at h1
  have h2 := Int.emod_lt_of_pos p (pow2_pos j)
  omega
theorem halves_step (p : Int) (j : Nat) : p / 2 ^ j / 2 = p / 2 ^ (j + 1) := by
  rw [Int.ediv_ediv_of_nonneg (Int.le_of_lt (pow2_pos j)), Int.pow_succ]
theorem pts_gone (p : Int) (k : Nat) (hp : p ≤ 1099511627776) (h0 : 0 ≤ p) (hk : 41 ≤ k) : p / 2 ^ k = 0 := by
  refine Int.ediv_eq_zero_of_lt h0 ?_
  have h1 := pow_mono2 hk
  have h2 := pow41
  generalize (2 : Int) ^ 41 = x at *
  generalize (2 : Int) ^ k = y at *
  omega
theorem div0_mono {p : Int} {j g : Nat} (h0 : 0 ≤ p) (h : p / 2 ^ j = 0) (hg : j ≤ g) : p / 2 ^ g = 0 :=
  Int.ediv_eq_zero_of_lt h0 (Int.lt_of_lt_of_le (lt_of_div0 h) (pow_mono2 hg))
/-- the reference's rounds: behind j of them -/
theorem dec_end {p a h n : Int} {j : Nat} (hj : (j : Int) ≤ gone a h n) (hz : fitI p / 2 ^ j = 0 ∨ (j : Int) = gone a h n) : fitI p / 2 ^ j = decPts p a h n := by
  unfold decPts
  have hg := gone_in a h n
  have hp := fitI_in p
  obtain ⟨g, hgg⟩ : ∃ g : Nat, gone a h n = g := ⟨(gone a h n).toNat, by omega⟩
  rw [hgg] at hj hz ⊢
  have hm : (min (g : Int) 41).toNat = min g 41 := by omega
  rw [hm]
  rcases hz with hz | hz
  · rw [hz]
    symm
    rcases Nat.le_total j 41 with h1 | h1
    · exact div0_mono hp.1 hz (by omega)
    · exact pts_gone _ _ hp.2 hp.1 (by omega)
  · obtain rfl : j = g := by omega
    rcases Nat.le_total j 41 with h1 | h1
    · rw [Nat.min_eq_left h1]
    · rw [Nat.min_eq_right h1, pts_gone _ j hp.2 hp.1 h1, pts_gone _ 41 hp.2 hp.1 (Nat.le_refl _)]
theorem gone_round {a h n : Int} {j : Nat} (hj : spanI h ≤ fitI n - (fitI a + j * spanI h)) : ((j + 1 : Nat) : Int) ≤ gone a h n := by
  have h1 := fitI_in a
  have h2 := fitI_in n
  have h3 := spanI_in h
  unfold gone
  have hm : 0 ≤ (j : Int) * spanI h := Int.mul_nonneg (by omega) (by omega)
  rw [fitI_same (n := fitI n - fitI a) (by omega) (by omega)]
  refine (Int.le_ediv_iff_mul_le (by omega)).2 ?_
  rw [show ((j + 1 : Nat) : Int) = j + 1 from by omega, Int.add_mul]
  omega
theorem gone_stop {a h n : Int} {j : Nat} (hg : (j : Int) ≤ gone a h n) (hj : fitI n - (fitI a + j * spanI h) < spanI h) : (j : Int) = gone a h n := by
  have h1 := fitI_in a
  have h2 := fitI_in n
  have h3 := spanI_in h
  have h4 := gone_mul a h n
  by_cases hlt : (j : Int) + 1 ≤ gone a h n
  · exfalso
    have h5 := Int.mul_le_mul_of_nonneg_right (c := spanI h) hlt (by omega)
    have h7 : 0 ≤ (j : Int) * spanI h := Int.mul_nonneg (by omega) (by omega)
    rw [Int.add_mul] at h5
    generalize gone a h n * spanI h = m at *
    generalize (j : Int) * spanI h = mj at *
    have hmj : 0 ≤ m := h4.1
    have h6 := h4.2
    have hfit : fitI (fitI n - fitI a) ≤ max (fitI n - fitI a) 0 := by
      rw [show fitI (fitI n - fitI a) = if fitI n - fitI a < 0 then 0 else if 1099511627776 < fitI n - fitI a then 1099511627776 else fitI n - fitI a from rfl]
      split <;> (try split) <;> omega
    omega
  · omega
theorem atI_end {a h n : Int} {j : Nat} (hj : spanI h ≤ fitI n - (fitI a + j * spanI h)) : fitI n - (fitI n - (fitI a + j * spanI h)) % spanI h = decAt a h n := by
  have h1 := fitI_in a
  have h2 := fitI_in n
  have h3 := spanI_in h
  have hm : 0 ≤ (j : Int) * spanI h := Int.mul_nonneg (by omega) (by omega)
  unfold decAt gone
  rw [fitI_same (n := fitI n - fitI a) (by omega) (by omega)]
  have e : (fitI n - (fitI a + j * spanI h)) % spanI h = (fitI n - fitI a) % spanI h := by
    rw [show fitI n - (fitI a + j * spanI h) = fitI n - fitI a - j * spanI h from by omega, Int.sub_mul_emod_self_right]
  rw [e]
  have := Int.emod_add_mul_ediv (fitI n - fitI a) (spanI h)
  rw [Int.mul_comm] at this
  omega
theorem at_stop {a h n : Int} {j : Nat} (hg : (j : Int) ≤ gone a h n) (hj : fitI n - (fitI a + j * spanI h) < spanI h) : fitI a + j * spanI h = decAt a h n := by
  rw [gone_stop hg hj]; rfl
/-! ### points added, whole points -/
def addPts (p at' half now points : Int) : Int := fitI (decPts p at' half now + min (fitI points) 16777216 * 65536)
theorem addPts_in (p a h n x : Int) : 0 ≤ addPts p a h n x ∧ addPts p a h n x ≤ 1099511627776 := fitI_in _
def wholeI (p : Int) : Int := if p < 0 then 0 else p / 65536
end Go.Proofs.Ytppmjbnhghaffaa
