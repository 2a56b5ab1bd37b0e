/- Texts put together: Pl, PlOrd, Eq. No condition. -/
import Derived.WalkKit
import Derived.Lib.Hide
import Derived.Test.YtnohkfbapibmdaaGreatRows
import Derived.WalkSpells
import Derived.WalkLawsBesides
import Derived.Deep.Light
namespace Go.Proofs.YtnohkfbapibmdaaGreat
open Go.RowKit

/-! ### strings as lists of bytes -/
def bs (l : List UInt8) : ByteArray := ⟨l.toArray⟩
theorem bs_data (l : List UInt8) : (bs l).data.toList = l := by simp [bs]
theorem bs_size (l : List UInt8) : (bs l).size = l.length := by show l.toArray.size = _; simp
theorem bs_of (s : ByteArray) : bs s.data.toList = s := by cases s; simp [bs]
theorem bs_append (a b : List UInt8) : bs a ++ bs b = bs (a ++ b) := by
  rw [← bs_of (bs a ++ bs b)]; congr 1
theorem len_data (s : ByteArray) : s.data.toList.length = s.size := by simp
theorem isE (s : ByteArray) : s.toList.isEmpty = s.data.toList.isEmpty := by rw [ByteArray.toList_eq]
theorem toL (s : ByteArray) : s.toList = s.data.toList := ByteArray.toList_eq s
theorem bs_toL (l : List UInt8) : (bs l).toList = l := by rw [toL, bs_data]
theorem ext_data {s t : ByteArray} (h : s.data.toList = t.data.toList) : s = t := by rw [← bs_of s, ← bs_of t, h]

theorem take_snoc (s : ByteArray) (k : Nat) (h : k < s.size) : s.data.toList.take (k + 1) = s.data.toList.take k ++ [s[k]] := by
  rw [List.take_succ_eq_append_getElem (by simpa using h)]; rfl
theorem get_data (s : ByteArray) (k : Nat) (h : k < s.size) : s.data.toList[k]? = some s[k] := by
  rw [List.getElem?_eq_getElem (by simpa using h)]; rfl
theorem drop_cons (s : ByteArray) (k : Nat) (h : k < s.size) : s.data.toList.drop k = s[k] :: s.data.toList.drop (k + 1) := by
  rw [List.drop_eq_getElem_cons (by simpa using h)]; rfl

/-! ### bytes as numbers -/
theorem byte_lt (c : UInt8) : (c.toNat : Int) < 256 := by have := c.toNat_lt; omega
theorem byte_eq {c d : UInt8} (h : (c.toNat : Int) = d.toNat) : c = d := UInt8.toNat_inj.1 (by omega)
theorem byte_beq (c d : UInt8) : ((c.toNat : Int) == (d.toNat : Int)) = (c == d) := by
  rw [Bool.eq_iff_iff]; simp only [beq_iff_eq]; exact ⟨byte_eq, fun h => by rw [h]⟩
theorem w64_in (n : Int) (h1 : -1000000 ≤ n) (h2 : n ≤ 1000000) : wrap64 n = n := IntWalk.wrap64_in n ⟨by omega, by omega⟩
theorem w64_byte (c : UInt8) : wrap64 (c.toNat : Int) = c.toNat := w64_in _ (by omega) (by have := byte_lt c; omega)
theorem w64_byte_sub (c : UInt8) : wrap64 ((c.toNat : Int) - 48) = c.toNat - 48 := w64_in _ (by omega) (by have := byte_lt c; omega)
theorem u8_of (n : Nat) (h : n < 256) : (UInt8.ofNat n).toNat = n := by simp; omega

/-- two strings of moderate length may be put together -/
theorem cat_ok {a b : ByteArray} (ha : a.size ≤ 1000000000000000) (hb : b.size ≤ 1000000000000000) : ¬ 9223372036854775807 < a.size + b.size := by omega

/-! ### decimal digits -/
def digs (n : Nat) : List UInt8 := if _h : n < 10 then [UInt8.ofNat (48 + n)] else digs (n / 10) ++ [UInt8.ofNat (48 + n % 10)]
theorem digs_lo {n : Nat} (h : n < 10) : digs n = [UInt8.ofNat (48 + n)] := by rw [digs, dif_pos h]
theorem digs_hi {n : Nat} (h : ¬ n < 10) : digs n = digs (n / 10) ++ [UInt8.ofNat (48 + n % 10)] := by rw [digs, dif_neg h]
def decText (n : Int) : List UInt8 := if n < 0 then 45 :: digs n.natAbs else digs n.natAbs

theorem wrap_u64 (n : Int) : IntKind.u64.wrap n = n % 18446744073709551616 := rfl
theorem wrap_u32 (n : Int) : IntKind.u32.wrap n = n % 4294967296 := rfl
theorem wrap_neg (n : Int) (h0 : -9223372036854775808 ≤ n) (hn : n < 0) : IntKind.u64.wrap (-IntKind.u64.wrap n) = (n.natAbs : Int) := by
  rw [wrap_u64, wrap_u64]; omega
theorem digs_len_pos (n : Nat) : 0 < (digs n).length := by
  by_cases h : n < 10
  · rw [digs_lo h]; simp
  · rw [digs_hi h]; simp
theorem digs_len (k : Nat) : ∀ n, n < 10 ^ (k + 1) → (digs n).length ≤ k + 1 := by
  induction k with
  | zero => intro n h; rw [digs_lo (by simpa using h)]; simp
  | succ k ih =>
    intro n h
    by_cases h1 : n < 10
    · rw [digs_lo h1]; simp
    · rw [digs_hi h1]
      have := ih (n / 10) (by rw [Nat.pow_succ] at h; omega)
      simp; omega

theorem digs_len20 (n : Nat) (h : n ≤ 18446744073709551615) : (digs n).length ≤ 20 := digs_len 19 n (by omega)
theorem decText_len (n : Int) (h0 : -9223372036854775808 ≤ n) (h1 : n ≤ 9223372036854775807) : (decText n).length ≤ 21 := by
  unfold decText; have := digs_len20 n.natAbs (by omega); split <;> simp <;> omega

/-! ### reading decimal digits, as dec.Parse does -/
def dstep (n : Option Int) (c : UInt8) : Option Int := match n with
  | none => none
  | some n => if (c.toNat : Int) < 48 ∨ 58 ≤ (c.toNat : Int) ∨ (9223372036854775807 - ((c.toNat : Int) - 48)) / 10 < n then none else some (n * 10 + ((c.toNat : Int) - 48))
def dloop (l : List UInt8) : Option Int := l.foldl dstep (some 0)
def decParse (l : List UInt8) (most : Int) : Int × Bool :=
  if l = [] ∨ (1 < l.length ∧ l[0]? = some 48) then (0, false)
  else match dloop l with
    | none => (0, false)
    | some n => if most < n then (0, false) else (n, true)
theorem dloop_snoc (l : List UInt8) (c : UInt8) : dloop (l ++ [c]) = dstep (dloop l) c := by simp [dloop]
theorem dfold_none (c : List UInt8) : c.foldl dstep none = none := by
  induction c with
  | nil => rfl
  | cons x r ih => simpa [dstep] using ih
theorem dloop_none (l : List UInt8) (c : List UInt8) (h : dloop l = none) : dloop (l ++ c) = none := by
  unfold dloop at *; rw [List.foldl_append, h]; exact dfold_none c
theorem dloop_stop (s : ByteArray) (k : Nat) (h : k < s.size) (v : Int) (hv : dloop (s.data.toList.take k) = some v) (hd : dstep (some v) s[k] = none) : dloop s.data.toList = none := by
  have := dloop_none (s.data.toList.take (k+1)) (s.data.toList.drop (k+1)) (by rw [take_snoc s k h, dloop_snoc, hv, hd])
  rwa [List.take_append_drop] at this
theorem dec_bad (s : ByteArray) (most : Int) (h : s.toList.isEmpty = true) : decParse s.data.toList most = (0, false) := by
  rw [isE] at h; unfold decParse; rw [if_pos (Or.inl (List.isEmpty_iff.1 h))]
theorem dec_lead (s : ByteArray) (most : Int) (h1 : 1 < (s.size : Int)) (h0 : 0 < s.size) (h : ((s[0].toNat : Int) == 48) = true) : decParse s.data.toList most = (0, false) := by
  unfold decParse
  rw [if_pos]
  refine Or.inr ⟨by have := len_data s; omega, ?_⟩
  rw [get_data s 0 h0]
  have h := beq_iff_eq.1 h
  congr 1
  exact UInt8.toNat_inj.1 (by simpa using (by omega : s[0].toNat = 48))
theorem dec_go (s : ByteArray) (most : Int) (he : s.toList.isEmpty = false) (hl : (s.size : Int) ≤ 1 ∨ ∃ h : 0 < s.size, ((s[0].toNat : Int) == 48) = false) :
    decParse s.data.toList most = match dloop s.data.toList with
    | none => (0, false)
    | some n => if most < n then (0, false) else (n, true) := by
  unfold decParse
  rw [if_neg]
  rintro (h | ⟨h1, h2⟩)
  · rw [isE, h] at he; simp at he
  · have e := len_data s
    rcases hl with hl | ⟨h0, hl⟩
    · omega
    · rw [get_data s 0 h0] at h2
      simp at h2
      rw [h2] at hl
      simp at hl
theorem dstep_out (v : Int) (c : UInt8) (h : (c.toNat : Int) - 48 < 0 ∨ 10 ≤ (c.toNat : Int) - 48 ∨ (9223372036854775807 - ((c.toNat : Int) - 48)) / 10 < v) : dstep (some v) c = none := by
  unfold dstep; simp only; rw [if_pos (by omega)]
theorem dstep_in (v : Int) (c : UInt8) (h1 : ¬ (c.toNat : Int) - 48 < 0) (h2 : ¬ 10 ≤ (c.toNat : Int) - 48) (h3 : v ≤ (9223372036854775807 - ((c.toNat : Int) - 48)) / 10) : dstep (some v) c = some (v * 10 + ((c.toNat : Int) - 48)) := by
  unfold dstep; simp only; rw [if_neg (by omega)]

/-! ### a number written into a row of bytes from its end on -/
def bv (c : UInt8) : Value := .int .u8 c.toNat
/-- from place k on the row holds the bytes acc -/
def Tail (arr : List Value) (k : Nat) (acc : List UInt8) : Prop := arr.drop k = acc.map bv
theorem Tail.set {arr : List Value} {k : Nat} {acc : List UInt8} (h : Tail arr k acc) (hk : 0 < k) (hl : k ≤ arr.length) (c : UInt8) : Tail (arr.set (k - 1) (bv c)) (k - 1) (c :: acc) := by
  unfold Tail at *
  have hl' : k - 1 < (arr.set (k - 1) (bv c)).length := by rw [List.length_set]; omega
  rw [List.drop_eq_getElem_cons hl', List.getElem_set_self, List.drop_set_of_lt (by omega), show k - 1 + 1 = k from by omega, h]
  rfl
theorem Tail.len {arr : List Value} {k : Nat} {acc : List UInt8} (h : Tail arr k acc) : arr.length - k = acc.length := by
  have := congrArg List.length h; simpa using this
/-- what stands in the row behind some rounds: the digits that are written, and the number that is left -/
def TextAt (N m k : Nat) (arr : List Value) : Prop := m < 10 ^ (k - 1) ∧ ∃ acc, Tail arr k acc ∧ digs N = digs m ++ acc
theorem TextAt.step {N m k : Nat} {arr : List Value} (h : TextAt N m k arr) (hk : 3 ≤ k) (hl : k ≤ arr.length) (hm : 10 ≤ m) (v : Value) (hv : v = bv (UInt8.ofNat (48 + m % 10))) (hd : m / 10 < 10 ^ (k - 1 - 1)) : TextAt N (m / 10) (k - 1) (arr.set (k - 1) v) := by
  obtain ⟨h1, acc, h2, h3⟩ := h
  refine ⟨hd, _, by rw [hv]; exact h2.set (by omega) hl _, ?_⟩
  rw [h3, digs_hi (by omega)]; simp
theorem TextAt.last {N m k : Nat} {arr : List Value} (h : TextAt N m k arr) (hk : 1 ≤ k) (hl : k ≤ arr.length) (hm : m < 10) (v : Value) (hv : v = bv (UInt8.ofNat (48 + m))) : Tail (arr.set (k - 1) v) (k - 1) (digs N) := by
  obtain ⟨h1, acc, h2, h3⟩ := h
  rw [hv, h3, digs_lo hm]
  exact h2.set (by omega) hl _
theorem pow_lt (m k : Nat) (h : m < 10 ^ (k - 1)) (hm : 10 ≤ m) : 3 ≤ k := by
  rcases Nat.lt_or_ge k 3 with h1 | h1
  · have : 10 ^ (k - 1) ≤ 10 ^ 1 := Nat.pow_le_pow_right (by omega) (by omega)
    omega
  · exact h1
theorem pow_div (m k : Nat) (h : m < 10 ^ (k - 1)) (hk : 3 ≤ k) : m / 10 < 10 ^ (k - 1 - 1) := by
  have : 10 ^ (k - 1) = 10 ^ (k - 1 - 1) * 10 := by rw [← Nat.pow_succ]; congr 1; omega
  omega

/-! ### hex digits -/
def hexDig (n : Nat) : UInt8 := if n < 10 then UInt8.ofNat (48 + n) else UInt8.ofNat (87 + n)
def hexs (n : Nat) : List UInt8 := if _h : n < 16 then [hexDig n] else hexs (n / 16) ++ [hexDig (n % 16)]
theorem hexs_lo {n : Nat} (h : n < 16) : hexs n = [hexDig n] := by rw [hexs, dif_pos h]
theorem hexs_hi {n : Nat} (h : ¬ n < 16) : hexs n = hexs (n / 16) ++ [hexDig (n % 16)] := by rw [hexs, dif_neg h]
def hexText (n : Int) : List UInt8 := if n < 0 ∨ 65535 < n then [] else hexs n.toNat
def hexVal (c : UInt8) : Int :=
  if 48 ≤ (c.toNat : Int) ∧ (c.toNat : Int) ≤ 57 then c.toNat - 48 else if 97 ≤ (c.toNat : Int) ∧ (c.toNat : Int) ≤ 102 then c.toNat - 87 else if 65 ≤ (c.toNat : Int) ∧ (c.toNat : Int) ≤ 70 then c.toNat - 55 else -1
theorem hexVal_bd (c : UInt8) : -1 ≤ hexVal c ∧ hexVal c ≤ 15 := by
  unfold hexVal; have := byte_lt c
  by_cases h1 : 48 ≤ (c.toNat : Int) ∧ (c.toNat : Int) ≤ 57
  · rw [if_pos h1]; omega
  rw [if_neg h1]
  by_cases h2 : 97 ≤ (c.toNat : Int) ∧ (c.toNat : Int) ≤ 102
  · rw [if_pos h2]; omega
  rw [if_neg h2]
  split <;> omega
def hstep (n : Option Int) (c : UInt8) : Option Int := match n with
  | none => none
  | some n => if hexVal c < 0 then none else some (n * 16 + hexVal c)
def hloop (l : List UInt8) : Option Int := l.foldl hstep (some 0)
def hexParse (l : List UInt8) : Int × Bool :=
  if l = [] ∨ 4 < l.length then (0, false) else match hloop l with | none => (0, false) | some n => (n, true)
theorem hloop_snoc (l : List UInt8) (c : UInt8) : hloop (l ++ [c]) = hstep (hloop l) c := by simp [hloop]
theorem hfold_none (c : List UInt8) : c.foldl hstep none = none := by
  induction c with
  | nil => rfl
  | cons x r ih => simpa [hstep] using ih
theorem hloop_stop (s : ByteArray) (k : Nat) (h : k < s.size) (v : Int) (hv : hloop (s.data.toList.take k) = some v) (hd : hexVal s[k] < 0) : hloop s.data.toList = none := by
  rw [← List.take_append_drop (k + 1) s.data.toList, take_snoc s k h]
  unfold hloop at *
  rw [List.foldl_append, List.foldl_append, hv]
  simp only [List.foldl_cons, List.foldl_nil, hstep]
  rw [if_pos hd]; exact hfold_none _
theorem hstep_in (v : Int) (c : UInt8) (h : 0 ≤ hexVal c) : hstep (some v) c = some (v * 16 + hexVal c) := by
  unfold hstep; simp only; rw [if_neg (by omega)]

def HexAt (N m k : Nat) (arr : List Value) : Prop := m < 16 ^ k ∧ ∃ acc, Tail arr k acc ∧ hexs N = hexs m ++ acc
theorem hex_lt (m k : Nat) (h : m < 16 ^ k) (hm : 16 ≤ m) : 2 ≤ k := by
  rcases Nat.lt_or_ge k 2 with h1 | h1
  · have : 16 ^ k ≤ 16 ^ 1 := Nat.pow_le_pow_right (by omega) (by omega)
    omega
  · exact h1
theorem hex_div (m k : Nat) (h : m < 16 ^ k) (hk : 1 ≤ k) : m / 16 < 16 ^ (k - 1) := by
  have : 16 ^ k = 16 ^ (k - 1) * 16 := by rw [← Nat.pow_succ]; congr 1; omega
  omega
theorem HexAt.step {N m k : Nat} {arr : List Value} (h : HexAt N m k arr) (hk : 2 ≤ k) (hl : k ≤ arr.length) (hm : 16 ≤ m) (v : Value) (hv : v = bv (hexDig (m % 16))) : HexAt N (m / 16) (k - 1) (arr.set (k - 1) v) := by
  obtain ⟨h1, acc, h2, h3⟩ := h
  refine ⟨hex_div m k h1 (by omega), _, by rw [hv]; exact h2.set (by omega) hl _, ?_⟩
  rw [h3, hexs_hi (by omega)]; simp
theorem HexAt.last {N m k : Nat} {arr : List Value} (h : HexAt N m k arr) (hk : 1 ≤ k) (hl : k ≤ arr.length) (hm : m < 16) (v : Value) (hv : v = bv (hexDig (m % 16))) : Tail (arr.set (k - 1) v) (k - 1) (hexs N) := by
  obtain ⟨h1, acc, h2, h3⟩ := h
  rw [hv, h3, hexs_lo hm, show m % 16 = m from by omega]
  exact h2.set (by omega) hl _
theorem hexs_len (k : Nat) : ∀ n, n < 16 ^ (k + 1) → (hexs n).length ≤ k + 1 := by
  induction k with
  | zero => intro n h; rw [hexs_lo (by simpa using h)]; simp
  | succ k ih =>
    intro n h
    by_cases h1 : n < 16
    · rw [hexs_lo h1]; simp
    · rw [hexs_hi h1]
      have := ih (n / 16) (by rw [Nat.pow_succ] at h; omega)
      simp; omega
theorem hexText_len (n : Int) : (hexText n).length ≤ 4 := by
  unfold hexText; split
  · simp
  · exact hexs_len 3 n.toNat (by simp; omega)

/-! ### the first place of a byte -/
def placeOf : List UInt8 → UInt8 → Int
  | [], _ => -1
  | x :: r, c => if x = c then 0 else if placeOf r c < 0 then -1 else placeOf r c + 1
theorem placeOf_none {l : List UInt8} {c : UInt8} (h : ∀ j < l.length, l[j]? ≠ some c) : placeOf l c = -1 := by
  induction l with
  | nil => rfl
  | cons x r ih =>
    have h0 := h 0 (by simp)
    have hr := ih (fun j hj => by have := h (j + 1) (by simpa using hj); simpa using this)
    unfold placeOf; rw [if_neg (by simpa using h0), hr]; rfl
theorem placeOf_at {l : List UInt8} {c : UInt8} {k : Nat} (h : ∀ j < k, l[j]? ≠ some c) (hk : l[k]? = some c) : placeOf l c = k := by
  induction l generalizing k with
  | nil => simp at hk
  | cons x r ih =>
    unfold placeOf
    cases k with
    | zero => simp at hk; rw [if_pos hk]; rfl
    | succ k =>
      have h0 := h 0 (by omega)
      have hr := ih (k := k) (fun j hj => by have := h (j + 1) (by omega); simpa using this) (by simpa using hk)
      rw [if_neg (by simpa using h0), hr, if_neg (by omega)]; omega

/-! ### endings -/
theorem ret_of {v v' : Value} (h : v = v') : Ending.returned v = .returned v' := by rw [h]
theorem ret_int {k : IntKind} {a b : Int} (h : a = b) : Ending.returned (.int k a) = .returned (.int k b) := by rw [h]
theorem ret_str {a b : ByteArray} (h : a = b) : Ending.returned (.string a) = .returned (.string b) := by rw [h]
theorem ret_bool {a b : Bool} (h : a = b) : Ending.returned (.bool a) = .returned (.bool b) := by rw [h]
theorem hexDig_lo (n : Int) (h0 : 0 ≤ n) (h : n < 10) : 48 + n = ((hexDig n.toNat).toNat : Int) := by
  unfold hexDig; rw [if_pos (by omega), u8_of _ (by omega)]; omega
theorem hexDig_hi (n : Int) (h1 : n < 16) (h : 10 ≤ n) : 97 + (n - 10) = ((hexDig n.toNat).toNat : Int) := by
  unfold hexDig; rw [if_neg (by omega), u8_of _ (by omega)]; omega
theorem hexVal_1 (c : UInt8) (h : 48 ≤ (c.toNat : Int)) (h2 : (c.toNat : Int) ≤ 57) : hexVal c = c.toNat - 48 := by unfold hexVal; rw [if_pos ⟨h, h2⟩]
theorem hexVal_2 (c : UInt8) (h : 97 ≤ (c.toNat : Int)) (h2 : (c.toNat : Int) ≤ 102) : hexVal c = c.toNat - 97 + 10 := by unfold hexVal; rw [if_neg (by omega), if_pos ⟨h, h2⟩]; omega
theorem hexVal_3 (c : UInt8) (h : 65 ≤ (c.toNat : Int)) (h2 : (c.toNat : Int) ≤ 70) : hexVal c = c.toNat - 65 + 10 := by unfold hexVal; rw [if_neg (by omega), if_neg (by omega), if_pos ⟨h, h2⟩]; omega
theorem hexVal_4 (c : UInt8) (h : ¬ (48 ≤ (c.toNat : Int) ∧ (c.toNat : Int) ≤ 57)) (h2 : ¬ (97 ≤ (c.toNat : Int) ∧ (c.toNat : Int) ≤ 102)) (h3 : ¬ (65 ≤ (c.toNat : Int) ∧ (c.toNat : Int) ≤ 70)) : hexVal c = -1 := by
  unfold hexVal; rw [if_neg h, if_neg h2, if_neg h3]
end Go.Proofs.YtnohkfbapibmdaaGreat
namespace Go.Proofs.YtnohkfbapibmdaaGreat
open Go.RowKit

structure Ad where
  v6 : Bool
  hi : Nat
  lo : Nat
structure En where
  ad : Ad
  port : Int
theorem Ad.ext' {a b : Ad} (h1 : a.v6 = b.v6) (h2 : a.hi = b.hi) (h3 : a.lo = b.lo) : a = b := by cases a; cases b; simp_all
theorem En.ext' {a b : En} (h1 : a.ad = b.ad) (h2 : a.port = b.port) : a = b := by cases a; cases b; simp_all
instance : DecidableEq Ad := fun a b => decidable_of_iff (a.v6 = b.v6 ∧ a.hi = b.hi ∧ a.lo = b.lo) ⟨fun ⟨h1, h2, h3⟩ => Ad.ext' h1 h2 h3, fun h => by subst h; exact ⟨rfl, rfl, rfl⟩⟩
instance : DecidableEq En := fun a b => decidable_of_iff (a.ad = b.ad ∧ a.port = b.port) ⟨fun ⟨h1, h2⟩ => En.ext' h1 h2, fun h => by subst h; exact ⟨rfl, rfl⟩⟩
instance : Inhabited Ad := ⟨⟨false, 0, 0⟩⟩
instance : Inhabited En := ⟨⟨default, 0⟩⟩
/-- the numbers are numbers of 64 bits -/
def Ad.fits (a : Ad) : Prop := a.hi < 18446744073709551616 ∧ a.lo < 18446744073709551616

/-! ### a comparison: of what reads as a total order -/
structure Cmp {α : Type} (c : α → α → Int) : Prop where
  neg : ∀ a b, c b a = -c a b
  trans : ∀ a b d, c a b ≤ 0 → c b d ≤ 0 → c a d ≤ 0
end Go.Proofs.YtnohkfbapibmdaaGreat
namespace Go.Proofs.YtnohkfbapibmdaaGreat
open Go.RowKit
theorem adIff (a b : Ad) : a = b ↔ a.v6 = b.v6 ∧ (a.hi : Int) = b.hi ∧ (a.lo : Int) = b.lo := ⟨fun h => by subst h; exact ⟨rfl, rfl, rfl⟩, fun ⟨h1, h2, h3⟩ => Ad.ext' h1 (by omega) (by omega)⟩
theorem eqlAd (a b : Ad) (W : World) : (binOp .eql 24 (.agg #[.bool a.v6, .int .u64 a.hi, .int .u64 a.lo]) (.agg #[.bool b.v6, .int .u64 b.hi, .int .u64 b.lo])).run Tryz.prog W = .ok (.bool (decide (a = b))) W := by
  go_simp
  by_cases h : a = b
  · have e := (adIff a b).1 h
    simp [e, h]
  · have e := fun e => h ((adIff a b).2 e)
    simp only [h]
    repeat' split
    all_goals simp_all
end Go.Proofs.YtnohkfbapibmdaaGreat
