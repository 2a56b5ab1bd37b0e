/- Texts put together: Pl, PlOrd. No condition. -/
import Derived.WalkKit
import Derived.Lib.Hide
namespace Go.Proofs.Ytnplgagaoeckoaa
open Go.RowKit

/-! ### strings as lists of bytes -/
def bs (l : List UInt8) : ByteArray := ⟨l.toArray⟩
/-! ### bytes as numbers -/
theorem byte_lt (c : UInt8) : (c.toNat : Int) < 256 := by have := c.toNat_lt; omega
theorem w64_in (n : Int) (h1 : -1000000 ≤ n) (h2 : n ≤ 1000000) : wrap64 n = n := IntWalk.wrap64_in n ⟨by omega, by omega⟩
theorem w64_byte (c : UInt8) : wrap64 (c.toNat : Int) = c.toNat := w64_in _ (by omega) (by have := byte_lt c; omega)
theorem w64_byte_sub (c : UInt8) : wrap64 ((c.toNat : Int) - 48) = c.toNat - 48 := w64_in _ (by omega) (by have := byte_lt c; omega)
/-! ### decimal digits -/
def digs (n : Nat) : List UInt8 := if _h : n < 10 then [UInt8.ofNat (48 + n)] else digs (n / 10) ++ [UInt8.ofNat (48 + n % 10)]
theorem digs_lo {n : Nat} (h : n < 10) : digs n = [UInt8.ofNat (48 + n)] := by rw [digs, dif_pos h]
theorem digs_hi {n : Nat} (h : ¬ n < 10) : digs n = digs (n / 10) ++ [UInt8.ofNat (48 + n % 10)] := by rw [digs, dif_neg h]
theorem wrap_u64 (n : Int) : IntKind.u64.wrap n = n % 18446744073709551616 := rfl
/-! ### reading decimal digits, as dec.Parse does -/
def dstep (n : Option Int) (c : UInt8) : Option Int := match n with
  | none => none
  | some n => if (c.toNat : Int) < 48 ∨ 58 ≤ (c.toNat : Int) ∨ (9223372036854775807 - ((c.toNat : Int) - 48)) / 10 < n then none else some (n * 10 + ((c.toNat : Int) - 48))
def dloop (l : List UInt8) : Option Int := l.foldl dstep (some 0)
def decParse (l : List UInt8) (most : Int) : Int × Bool :=
  if l = [] ∨ (1 < l.length ∧ l[0]? = some 48) then (0, false)
  else match dloop l with
    | none => (0, false)
    | some n => if most < n then (0, false) else (n, true)
/-! ### a number written into a row of bytes from its end on -/
def bv (c : UInt8) : Value := .int .u8 c.toNat
/-- from place k on the row holds the bytes acc -/
def Tail (arr : List Value) (k : Nat) (acc : List UInt8) : Prop := arr.drop k = acc.map bv
theorem Tail.set {arr : List Value} {k : Nat} {acc : List UInt8} (h : Tail arr k acc) (hk : 0 < k) (hl : k ≤ arr.length) (c : UInt8) : Tail (arr.set (k - 1) (bv c)) (k - 1) (c :: acc) := by
  unfold Tail at *
  have hl' : k - 1 < (arr.set (k - 1) (bv c)).length := by rw [List.length_set]; omega
  rw [List.drop_eq_getElem_cons hl', List.getElem_set_self, List.drop_set_of_lt (by omega), show k - 1 + 1 = k from by omega, h]
  rfl
theorem Tail.len {arr : List Value} {k : Nat} {acc : List UInt8} (h : Tail arr k acc) : arr.length - k = acc.length := by
  have := congrArg List.length h; simpa using this
/-- what stands in the row behind some rounds: the digits that are written, and the number that is left -/
def TextAt (N m k : Nat) (arr : List Value) : Prop := m < 10 ^ (k - 1) ∧ ∃ acc, Tail arr k acc ∧ digs N = digs m ++ acc
theorem TextAt.step {N m k : Nat} {arr : List Value} (h : TextAt N m k arr) (hk : 3 ≤ k) (hl : k ≤ arr.length) (hm : 10 ≤ m) (v : Value) (hv : v = bv (UInt8.ofNat (48 + m % 10))) (hd : m / 10 < 10 ^ (k - 1 - 1)) : TextAt N (m / 10) (k - 1) (arr.set (k - 1) v) := by
  obtain ⟨h1, acc, h2, h3⟩ := h
  refine ⟨hd, _, by rw [hv]; exact h2.set (by omega) hl _, ?_⟩
  rw [h3, digs_hi (by omega)]; simp
theorem TextAt.last {N m k : Nat} {arr : List Value} (h : TextAt N m k arr) (hk : 1 ≤ k) (hl : k ≤ arr.length) (hm : m < 10) (v : Value) (hv : v = bv (UInt8.ofNat (48 + m))) : Tail (arr.set (k - 1) v) (k - 1) (digs N) := by
  obtain ⟨h1, acc, h2, h3⟩ := h
  rw [hv, h3, digs_lo hm]
  exact h2.set (by omega) hl _
/-! ### hex digits -/
def hexDig (n : Nat) : UInt8 := if n < 10 then UInt8.ofNat (48 + n) else UInt8.ofNat (87 + n)
def hexs (n : Nat) : List UInt8 := if _h : n < 16 then [hexDig n] else hexs (n / 16) ++ [hexDig (n % 16)]
theorem hexs_lo {n : Nat} (h : n < 16) : hexs n = [hexDig n] := by rw [hexs, dif_pos h]
theorem hexs_hi {n : Nat} (h : ¬ n < 16) : hexs n = hexs (n / 16) ++ [hexDig (n % 16)] := by rw [hexs, dif_neg h]
def HexAt (N m k : Nat) (arr : List Value) : Prop := m < 16 ^ k ∧ ∃ acc, Tail arr k acc ∧ hexs N = hexs m ++ acc
theorem hex_div (m k : Nat) (h : m < 16 ^ k) (hk : 1 ≤ k) : m / 16 < 16 ^ (k - 1) := by
  have : 16 ^ k = 16 ^ (k - 1) * 16 := by rw [← Nat.pow_succ]; congr 1; omega
  omega
theorem HexAt.step {N m k : Nat} {arr : List Value} (h : HexAt N m k arr) (hk : 2 ≤ k) (hl : k ≤ arr.length) (hm : 16 ≤ m) (v : Value) (hv : v = bv (hexDig (m % 16))) : HexAt N (m / 16) (k - 1) (arr.set (k - 1) v) := by
  obtain ⟨h1, acc, h2, h3⟩ := h
  refine ⟨hex_div m k h1 (by omega), _, by rw [hv]; exact h2.set (by omega) hl _, ?_⟩
  rw [h3, hexs_hi (by omega)]; simp
theorem HexAt.last {N m k : Nat} {arr : List Value} (h : HexAt N m k arr) (hk : 1 ≤ k) (hl : k ≤ arr.length) (hm : m < 16) (v : Value) (hv : v = bv (hexDig (m % 16))) : Tail (arr.set (k - 1) v) (k - 1) (hexs N) := by
  obtain ⟨h1, acc, h2, h3⟩ := h
  rw [hv, h3, hexs_lo hm, show m % 16 = m from by omega]
  exact h2.set (by omega) hl _
/-! ### the first place of a byte -/
/-! ### endings -/
theorem ret_int {k : IntKind} {a b : Int} (h : a = b) : Ending.returned (.int k a) = .returned (.int k b) := by rw [h]
theorem ret_bool {a b : Bool} (h : a = b) : Ending.returned (.bool a) = .returned (.bool b) := by rw [h]
end Go.Proofs.Ytnplgagaoeckoaa
namespace Go.Proofs.Ytnplgagaoeckoaa
open Go.RowKit

structure Ad where
  v6 : Bool
  hi : Nat
  lo : Nat
structure En where
  ad : Ad
  port : Int
theorem Ad.ext' {a b : Ad} (h1 : a.v6 = b.v6) (h2 : a.hi = b.hi) (h3 : a.lo = b.lo) : a = b := by cases a; cases b; simp_all
theorem En.ext' {a b : En} (h1 : a.ad = b.ad) (h2 : a.port = b.port) : a = b := by cases a; cases b; simp_all
instance : DecidableEq Ad := fun a b => decidable_of_iff (a.v6 = b.v6 ∧ a.hi = b.hi ∧ a.lo = b.lo) ⟨fun ⟨h1, h2, h3⟩ => Ad.ext' h1 h2 h3, fun h => by subst h; exact ⟨rfl, rfl, rfl⟩⟩
instance : DecidableEq En := fun a b => decidable_of_iff (a.ad = b.ad ∧ a.port = b.port) ⟨fun ⟨h1, h2⟩ => En.ext' h1 h2, fun h => by subst h; exact ⟨rfl, rfl⟩⟩
instance : Inhabited Ad := ⟨⟨false, 0, 0⟩⟩
instance : Inhabited En := ⟨⟨default, 0⟩⟩
/-- the numbers are numbers of 64 bits -/
def Ad.fits (a : Ad) : Prop := a.hi < 18446744073709551616 ∧ a.lo < 18446744073709551616

/-! ### a comparison: of what reads as a total order -/
structure Cmp {α : Type} (c : α → α → Int) : Prop where
  neg : ∀ a b, c b a = -c a b
  trans : ∀ a b d, c a b ≤ 0 → c b d ≤ 0 → c a d ≤ 0
end Go.Proofs.Ytnplgagaoeckoaa
