/- Texts put together: Pl, PlOrd. No condition. -/
import Derived.WalkKit
import Derived.Lib.Hide
set_option linter.unusedSimpArgs false
set_option linter.unusedVariables false
namespace Go.Proofs.YtnplgagaoeckoaaGreat
open Go.RowKit
/-! ### strings as lists of bytes -/
def bs (l : List UInt8) : ByteArray := ⟨l.toArray⟩
/-! ### bytes as numbers -/
theorem byte_lt (c : UInt8) : (c.toNat : Int) < 256 := by have := c.toNat_lt; omega
theorem w64_in (n : Int) (h1 : -1000000 ≤ n) (h2 : n ≤ 1000000) : wrap64 n = n := IntWalk.wrap64_in n ⟨by omega, by omega⟩
theorem w64_byte (c : UInt8) : wrap64 (c.toNat : Int) = c.toNat := w64_in _ (by omega) (by have := byte_lt c; omega)
theorem w64_byte_sub (c : UInt8) : wrap64 ((c.toNat : Int) - 48) = c.toNat - 48 := w64_in _ (by omega) (by have := byte_lt c; omega)
/-! ### decimal digits -/
def digs (n : Nat) : List UInt8 := if _h : n < 10 then [UInt8.ofNat (48 + n)] else digs (n / 10) ++ [UInt8.ofNat (48 + n % 10)]
theorem digs_lo {n : Nat} (h : n < 10) : digs n = [UInt8.ofNat (48 + n)] := by rw [digs, dif_pos h]
theorem digs_hi {n : Nat} (h : ¬ n < 10) : digs n = digs (n / 10) ++ [UInt8.ofNat (48 + n % 10)] := by rw [digs, dif_neg h]
theorem wrap_u64 (n : Int) : IntKind.u64.wrap n = n % 18446744073709551616 := rfl
/-! ### reading decimal digits, as dec.Parse does -/
def dstep (n : Option Int) (c : UInt8) : Option Int := match n with
 | none => none
 | some n => if (c.toNat : Int) < 48 ∨ 58 ≤ (c.toNat : Int) ∨ (9223372036854775807 - ((c.toNat : Int) - 48)) / 10 < n then none else some (n * 10 + ((c.toNat : Int) - 48))
def dloop (l : List UInt8) : Option Int := l.foldl dstep (some 0)
def decParse (l : List UInt8) (most : Int) : Int × Bool :=
 if l = [] ∨ (1 < l.length ∧ l[0]? = some 48) then (0, false)
 else match dloop l with
  | none => (0, false)
  | some n => if most < n then (0, false) else (n, true)
/-! ### a number written into a row of bytes from its end on -/
def bv (c : UInt8) : Value := .int .u8 c.toNat
/-- from place k on the row holds the bytes acc -/
def Tail (arr : List Value) (k : Nat) (acc : List UInt8) : Prop := arr.drop k = acc.map bv
theorem Tail.set {arr : List Value} {k : Nat} {acc : List UInt8} (h : Tail arr k acc) (hk : 0 < k) (hl : k ≤ arr.length) (c : UInt8) : Tail (arr.set (k - 1) (bv c)) (k - 1) (c :: acc) := by
 unfold Tail at *
 have hl' : k - 1 < (arr.set (k - 1) (bv c)).length := by rw [List.length_set]; omega
 rw [List.drop_eq_getElem_cons hl', List.getElem_set_self, List.drop_set_of_lt (by omega), show k - 1 + 1 = k from by omega, h]
 rfl
theorem Tail.len {arr : List Value} {k : Nat} {acc : List UInt8} (h : Tail arr k acc) : arr.length - k = acc.length := by
 have := congrArg List.length h; simpa using this
/-- what stands in the row behind some rounds: the digits that are written, and the number that is left -/
def TextAt (N m k : Nat) (arr : List Value) : Prop := m < 10 ^ (k - 1) ∧ ∃ acc, Tail arr k acc ∧ digs N = digs m ++ acc
theorem TextAt.step {N m k : Nat} {arr : List Value} (h : TextAt N m k arr) (hk : 3 ≤ k) (hl : k ≤ arr.length) (hm : 10 ≤ m) (v : Value) (hv : v = bv (UInt8.ofNat (48 + m % 10))) (hd : m / 10 < 10 ^ (k - 1 - 1)) : TextAt N (m / 10) (k - 1) (arr.set (k - 1) v) := by
 obtain ⟨h1, acc, h2, h3⟩ := h
 refine ⟨hd, _, by rw [hv]; exact h2.set (by omega) hl _, ?_⟩
 rw [h3, digs_hi (by omega)]; simp
theorem TextAt.last {N m k : Nat} {arr : List Value} (h : TextAt N m k arr) (hk : 1 ≤ k) (hl : k ≤ arr.length) (hm : m < 10) (v : Value) (hv : v = bv (UInt8.ofNat (48 + m))) : Tail (arr.set (k - 1) v) (k - 1) (digs N) := by
 obtain ⟨h1, acc, h2, h3⟩ := h
 rw [hv, h3, digs_lo hm]
 exact h2.set (by omega) hl _
/-! ### hex digits -/
def hexDig (n : Nat) : UInt8 := if n < 10 then UInt8.ofNat (48 + n) else UInt8.ofNat (87 + n)
def hexs (n : Nat) : List UInt8 := if _h : n < 16 then [hexDig n] else hexs (n / 16) ++ [hexDig (n % 16)]
theorem hexs_lo {n : Nat} (h : n < 16) : hexs n = [hexDig n] := by rw [hexs, dif_pos h]
theorem hexs_hi {n : Nat} (h : ¬ n < 16) : hexs n = hexs (n / 16) ++ [hexDig (n % 16)] := by rw [hexs, dif_neg h]
def HexAt (N m k : Nat) (arr : List Value) : Prop := m < 16 ^ k ∧ ∃ acc, Tail arr k acc ∧ hexs N = hexs m ++ acc
theorem hex_div (m k : Nat) (h : m < 16 ^ k) (hk : 1 ≤ k) : m / 16 < 16 ^ (k - 1) := by
 have : 16 ^ k = 16 ^ (k - 1) * 16 := by rw [← Nat.pow_succ]; congr 1; omega
 omega
theorem HexAt.step {N m k : Nat} {arr : List Value} (h : HexAt N m k arr) (hk : 2 ≤ k) (hl : k ≤ arr.length) (hm : 16 ≤ m) (v : Value) (hv : v = bv (hexDig (m % 16))) : HexAt N (m / 16) (k - 1) (arr.set (k - 1) v) := by
 obtain ⟨h1, acc, h2, h3⟩ := h
 refine ⟨hex_div m k h1 (by omega), _, by rw [hv]; exact h2.set (by omega) hl _, ?_⟩
 rw [h3, hexs_hi (by omega)]; simp
theorem HexAt.last {N m k : Nat} {arr : List Value} (h : HexAt N m k arr) (hk : 1 ≤ k) (hl : k ≤ arr.length) (hm : m < 16) (v : Value) (hv : v = bv (hexDig (m % 16))) : Tail (arr.set (k - 1) v) (k - 1) (hexs N) := by
 obtain ⟨h1, acc, h2, h3⟩ := h
 rw [hv, h3, hexs_lo hm, show m % 16 = m from by omega]
 exact h2.set (by omega) hl _
/-! ### the first place of a byte -/
/-! ### endings -/
theorem ret_int {k : IntKind} {a b : Int} (h : a = b) : Ending.returned (.int k a) = .returned (.int k b) := by rw [h]
theorem ret_bool {a b : Bool} (h : a = b) : Ending.returned (.bool a) = .returned (.bool b) := by rw [h]
structure Ad where
 v6 : Bool
 hi : Nat
 lo : Nat
structure En where
 ad : Ad
 port : Int
theorem Ad.ext' {a b : Ad} (h1 : a.v6 = b.v6) (h2 : a.hi = b.hi) (h3 : a.lo = b.lo) : a = b := by cases a; cases b; simp_all
theorem En.ext' {a b : En} (h1 : a.ad = b.ad) (h2 : a.port = b.port) : a = b := by cases a; cases b; simp_all
instance : DecidableEq Ad := fun a b => decidable_of_iff (a.v6 = b.v6 ∧ a.hi = b.hi ∧ a.lo = b.lo) ⟨fun ⟨h1, h2, h3⟩ => Ad.ext' h1 h2 h3, fun h => by subst h; exact ⟨rfl, rfl, rfl⟩⟩
instance : DecidableEq En := fun a b => decidable_of_iff (a.ad = b.ad ∧ a.port = b.port) ⟨fun ⟨h1, h2⟩ => En.ext' h1 h2, fun h => by subst h; exact ⟨rfl, rfl⟩⟩
instance : Inhabited Ad := ⟨⟨false, 0, 0⟩⟩
instance : Inhabited En := ⟨⟨default, 0⟩⟩
/-- the numbers are numbers of 64 bits -/
def Ad.fits (a : Ad) : Prop := a.hi < 18446744073709551616 ∧ a.lo < 18446744073709551616

/-- which of two numbers stands first: -1, 0, 1 -/
def cmpI (a b : Int) : Int := if a < b then -1 else if b < a then 1 else 0
/-- the first that is not 0 -/
def orI : List Int → Int
 | [] => 0
 | x :: r => if x = 0 then orI r else x
def famI (a : Ad) : Int := if a.v6 then 1 else 0
def adCmp (a b : Ad) : Int := orI [cmpI (famI a) (famI b), cmpI a.hi b.hi, cmpI a.lo b.lo]
def enCmp (a b : En) : Int := orI [adCmp a.ad b.ad, cmpI a.port b.port]

theorem cmpI_zero {a b : Int} (h : cmpI a b = 0) : a = b := by
 unfold cmpI at h; split at h
 ·omega
 ·split at h <;> omega
theorem cmpI_self (a : Int) : cmpI a a = 0 := by unfold cmpI; simp
theorem cmpI_neg (a b : Int) : cmpI b a = -cmpI a b := by
 unfold cmpI; split <;> split <;> (try split) <;> omega
theorem orI_two (x y : Int) : orI [x, y] = if x = 0 then y else x := by
 simp only [orI]; split
 ·split <;> omega
 ·rfl
theorem orI_three (x y z : Int) : orI [x, y, z] = if x = 0 then (if y = 0 then z else y) else x := by
 rw [orI, orI_two]
theorem cmp_gt_iff (a b : Int) : 0 < cmpI a b ↔ b < a := by
 unfold cmpI; split
 ·omega
 ·split <;> omega

/-! ### a comparison: of what reads as a total order -/
structure Cmp {α : Type} (c : α → α → Int) : Prop where
 neg : ∀ a b, c b a = -c a b
 trans : ∀ a b d, c a b ≤ 0 → c b d ≤ 0 → c a d ≤ 0
theorem Cmp.self {α : Type} {c : α → α → Int} (C : Cmp c) (a : α) : c a a = 0 := by have := C.neg a a; omega
theorem Cmp.eq_trans {α : Type} {c : α → α → Int} (C : Cmp c) {a b d : α} (h1 : c a b = 0) (h2 : c b d = 0) : c a d = 0 := by
 have := C.trans a b d (by omega) (by omega)
 have := C.trans d b a (by rw [C.neg b d]; omega) (by rw [C.neg a b]; omega)
 have := C.neg a d; omega
theorem Cmp.le_eq {α : Type} {c : α → α → Int} (C : Cmp c) {a b d : α} (h1 : c a b < 0) (h2 : c b d ≤ 0) : c a d < 0 := by
 have h3 := C.trans a b d (by omega) h2
 rcases Int.lt_or_eq_of_le h3 with h | h
 ·exact h
 ·have := C.trans b d a h2 (by rw [C.neg a d]; omega)
  rw [C.neg a b] at this; omega
theorem Cmp.eq_le {α : Type} {c : α → α → Int} (C : Cmp c) {a b d : α} (h1 : c a b ≤ 0) (h2 : c b d < 0) : c a d < 0 := by
 have h3 := C.trans a b d h1 (by omega)
 rcases Int.lt_or_eq_of_le h3 with h | h
 ·exact h
 ·have := C.trans d a b (by rw [C.neg a d]; omega) h1
  rw [C.neg b d] at this; omega
theorem cmp_int : Cmp cmpI := ⟨cmpI_neg, fun a b d h1 h2 => by
 have e1 : ¬ b < a := fun h => by have := (cmp_gt_iff a b).2 h; omega
 have e2 : ¬ d < b := fun h => by have := (cmp_gt_iff b d).2 h; omega
 have : ¬ 0 < cmpI a d := fun h => by have := (cmp_gt_iff a d).1 h; omega
 omega⟩
theorem cmp_on {α β : Type} {c : β → β → Int} (C : Cmp c) (f : α → β) : Cmp fun a b => c (f a) (f b) := ⟨fun a b => C.neg _ _, fun a b d => C.trans _ _ _⟩
/-- one comparison, and of alike ones another -/
theorem cmp_then {α : Type} {c d : α → α → Int} (C : Cmp c) (D : Cmp d) : Cmp fun a b => if c a b = 0 then d a b else c a b := by
 constructor
 ·intro a b
  have := C.neg a b; have := D.neg a b
  split <;> split <;> omega
 ·intro a b e h1 h2
  by_cases e1 : c a b = 0
  ·rw [if_pos e1] at h1
   by_cases e2 : c b e = 0
   ·rw [if_pos e2] at h2
    rw [if_pos (C.eq_trans e1 e2)]; exact D.trans _ _ _ h1 h2
   ·rw [if_neg e2] at h2
    have := C.eq_le (a := a) (b := b) (d := e) (by omega) (by omega)
    rw [if_neg (by omega)]; omega
  ·rw [if_neg e1] at h1
   have h3 : c b e ≤ 0 := by split at h2 <;> omega
   have := C.le_eq (a := a) (b := b) (d := e) (by omega) h3
   rw [if_neg (by omega)]; omega
theorem cmp_ad : Cmp adCmp := by
 have h := cmp_then (cmp_on cmp_int famI) (cmp_then (cmp_on cmp_int (fun a : Ad => (a.hi : Int))) (cmp_on cmp_int (fun a : Ad => (a.lo : Int))))
 have e : adCmp = _ := funext fun a => funext fun b => orI_three (cmpI (famI a) (famI b)) (cmpI a.hi b.hi) (cmpI a.lo b.lo)
 rw [e]; exact h
theorem cmp_en : Cmp enCmp := by
 have h := cmp_then (cmp_on cmp_ad En.ad) (cmp_on cmp_int En.port)
 have e : enCmp = _ := funext fun a => funext fun b => orI_two (adCmp a.ad b.ad) (cmpI a.port b.port)
 rw [e]; exact h
theorem famI_inj {a b : Ad} (h : famI a = famI b) : a.v6 = b.v6 := by
 unfold famI at h; cases ha : a.v6 <;> cases hb : b.v6 <;> rw [ha, hb] at h <;> simp at h ⊢
/-- the reference's comparison of addresses -/
theorem adCmp_eq (a b : Ad) : adCmp a b = if a = b then 0 else if (if a.v6 ≠ b.v6 then !a.v6 else if a.hi ≠ b.hi then decide (a.hi < b.hi) else decide (a.lo < b.lo)) = true then -1 else 1 := by
 by_cases h : a = b
 ·subst h; rw [if_pos rfl]; exact cmp_ad.self a
 ·rw [if_neg h]
  unfold adCmp; rw [orI_three]
  by_cases h1 : a.v6 = b.v6
  ·have f : famI a = famI b := by unfold famI; rw [h1]
   rw [f, cmpI_self, if_pos rfl, if_neg (not_not_intro h1)]
   by_cases h2 : a.hi = b.hi
   ·rw [h2, cmpI_self, if_pos rfl, if_neg (not_not_intro rfl)]
    have h3 : a.lo ≠ b.lo := fun e => h (Ad.ext' h1 h2 e)
    unfold cmpI
    by_cases h4 : a.lo < b.lo
    ·rw [if_pos (by omega), if_pos (by simpa using h4)]
    ·rw [if_neg (by omega), if_pos (by omega), if_neg (by simpa using h4)]
   ·have h3 : cmpI a.hi b.hi ≠ 0 := fun e => h2 (by have := cmpI_zero e; omega)
    rw [if_neg h3, if_pos h2]
    unfold cmpI
    by_cases h4 : a.hi < b.hi
    ·rw [if_pos (by omega), if_pos (by simpa using h4)]
    ·rw [if_neg (by omega), if_pos (by omega), if_neg (by simpa using h4)]
  ·have h3 : cmpI (famI a) (famI b) ≠ 0 := fun e => h1 (famI_inj (cmpI_zero e))
   rw [if_neg h3, if_pos h1]
   unfold cmpI famI
   cases ha : a.v6 <;> cases hb : b.v6 <;> simp_all
end Go.Proofs.YtnplgagaoeckoaaGreat
