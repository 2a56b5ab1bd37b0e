/- Texts put together: PlWords, PlIp4, PlAddr, PlNet. No condition. -/
import Derived.Test.YtnplgagaoeckoaaGreatRhswffbbxtu
import Derived.Lib.IndexLaws
import Derived.Lib.Join
import Derived.Lib.Strings
import Derived.Test.YtnplgagaoeckoaaGreatRfnolrsgeod
import Derived.Lib.IndexBytes
set_option linter.unusedSimpArgs false
set_option linter.unusedVariables false
namespace Go.Proofs.YtnplgagaoeckoaaGreat
open Go.RowKit
/-- a string as a cell -/
def sv (l : List UInt8) : Value := .string (bs l)
/-- the parts, from the last one on -/
def v4pk : Nat → Nat → List (List UInt8)
 | 0, _ => []
 | k + 1, m => v4pk k (m / 256) ++ [digs (m % 256)]
def V4At (N m k : Nat) (arr : List Value) : Prop := ∃ acc : List (List UInt8), arr.drop k = acc.map sv ∧ v4pk 4 N = v4pk k m ++ acc
theorem V4At.step {N m k : Nat} {arr : List Value} (h : V4At N m (k + 1) arr) (hl : k + 1 ≤ arr.length) : V4At N (m / 256) k (arr.set k (sv (digs (m % 256)))) := by
 obtain ⟨acc, h1, h2⟩ := h
 refine ⟨digs (m % 256) :: acc, ?_, by rw [h2]; simp [v4pk]⟩
 have hl' : k < (arr.set k (sv (digs (m % 256)))).length := by rw [List.length_set]; omega
 rw [List.drop_eq_getElem_cons hl', List.getElem_set_self, List.drop_set_of_lt (by omega), h1]; rfl
def adOf (hi lo : Nat) : Ad := if hi = 0 ∧ lo / 4294967296 = 65535 then ⟨false, 0, lo % 4294967296⟩ else ⟨true, hi, lo⟩
def ad4 (n : Nat) : Ad := ⟨false, 0, n⟩
def adRight (a : Ad) : Bool := if a.v6 = true then !decide (a.hi = 0 ∧ a.lo / 4294967296 = 65535) else decide (a.hi = 0 ∧ a.lo < 4294967296)
def adBits (a : Ad) : Int := if a.v6 = true then 128 else 32
theorem right6 (a : Ad) (h : a.v6 = true) : decide (adOf a.hi a.lo = a) = adRight a := by
 unfold adRight adOf
 rw [if_pos h]
 by_cases hc : a.hi = 0 ∧ a.lo / 4294967296 = 65535
 ·rw [if_pos hc, decide_eq_true hc]
  refine decide_eq_false fun e => ?_
  have := congrArg Ad.v6 e; rw [h] at this; cases this
 ·rw [if_neg hc, decide_eq_false hc]
  exact decide_eq_true (Ad.ext' h.symm rfl rfl)
theorem right4 (a : Ad) (h : a.v6 = false) : decide (ad4 (a.lo % 4294967296) = a) = adRight a := by
 unfold adRight ad4
 rw [if_neg (by rw [h]; simp)]
 by_cases hc : a.hi = 0 ∧ a.lo < 4294967296
 ·rw [decide_eq_true hc]
  exact decide_eq_true (Ad.ext' h.symm hc.1.symm (Nat.mod_eq_of_lt hc.2))
 ·rw [decide_eq_false hc]
  refine decide_eq_false fun e => hc ⟨?_, ?_⟩
  ·exact (congrArg Ad.hi e).symm
  ·have := congrArg Ad.lo e; simp only at this; omega
structure Nt where
 ad : Ad
 bits : Int
theorem Nt.ext' {a b : Nt} (h1 : a.ad = b.ad) (h2 : a.bits = b.bits) : a = b := by cases a; cases b; simp_all
instance : DecidableEq Nt := fun a b => decidable_of_iff (a.ad = b.ad ∧ a.bits = b.bits) ⟨fun ⟨h1, h2⟩ => Nt.ext' h1 h2, fun h => by subst h; exact ⟨rfl, rfl⟩⟩
instance : Inhabited Nt := ⟨⟨default, 0⟩⟩

/-- the first n bits of w -/
def cutW (w x n : Nat) : Nat := x / 2 ^ (w - n) * 2 ^ (w - n)
/-- a number whose first n bits of 64 alone are 1 -/
def topN (n : Nat) : Nat := 2 ^ 64 - 2 ^ (64 - n)
theorem cutW_all (w x n : Nat) (h : w ≤ n) : cutW w x n = x := by
 unfold cutW; rw [show w - n = 0 from by omega]; simp
theorem cutW_none (w x : Nat) (h : x < 2 ^ w) : cutW w x 0 = 0 := by
 unfold cutW; rw [Nat.sub_zero, Nat.div_eq_of_lt h]; simp
theorem cutW_le (w x n : Nat) : cutW w x n ≤ x := Nat.div_mul_le_self _ _
theorem pow_succ_of {a b : Nat} (h : a = b + 1) : 2 ^ a = 2 ^ b * 2 := by rw [h, Nat.pow_succ]
theorem cutW_succ (w x i : Nat) (h : i < w) : cutW w x (i + 1) = cutW w x i + x / 2 ^ (w - 1 - i) % 2 * 2 ^ (w - 1 - i) := by
 unfold cutW
 rw [show w - (i + 1) = w - 1 - i from by omega, pow_succ_of (show w - i = (w - 1 - i) + 1 from by omega), ← Nat.div_div_eq_div_mul]
 generalize 2 ^ (w - 1 - i) = p
 generalize x / p = y
 rw [Nat.mul_comm p 2, ← Nat.mul_assoc, ← Nat.add_mul]
 congr 1; omega
theorem topN_eq (n : Nat) (h : n ≤ 64) : topN n = (2 ^ n - 1) <<< (64 - n) := by
 unfold topN
 rw [Nat.shiftLeft_eq, Nat.sub_mul, ← Nat.pow_add, show n + (64 - n) = 64 from by omega, Nat.one_mul]
theorem and_top (x n : Nat) (hx : x < 2 ^ 64) (hn : n ≤ 64) : x &&& topN n = cutW 64 x n := by
 rw [topN_eq n hn]
 unfold cutW
 rw [← Nat.shiftLeft_eq, ← Nat.shiftRight_eq_div_pow]
 refine Nat.eq_of_testBit_eq fun i => ?_
 rw [Nat.testBit_and, Nat.testBit_shiftLeft, Nat.testBit_shiftLeft, Nat.testBit_shiftRight, Nat.testBit_two_pow_sub_one]
 by_cases h1 : 64 - n ≤ i
 ·rw [decide_eq_true h1, Bool.true_and, Bool.true_and, show 64 - n + (i - (64 - n)) = i from by omega]
  by_cases h2 : i < 64
  ·rw [decide_eq_true (show i - (64 - n) < n from by omega), Bool.and_true]
  ·have : x.testBit i = false := Nat.testBit_lt_two_pow (Nat.lt_of_lt_of_le hx (Nat.pow_le_pow_right (by omega) (by omega)))
   rw [this, Bool.false_and]
 ·rw [decide_eq_false h1]; simp
theorem topN_lt (n : Nat) : topN n < 18446744073709551616 := by
 unfold topN
 have := Nat.two_pow_pos (64 - n)
 show 18446744073709551616 - _ < _
 omega
/-- of an address of 32 bits -/
theorem top_high (n : Nat) (h : n ≤ 32) : topN n / 4294967296 = 2 ^ 32 - 2 ^ (32 - n) := by
 unfold topN
 have e : 2 ^ (64 - n) = 2 ^ (32 - n) * 4294967296 := by
  rw [show 64 - n = (32 - n) + 32 from by omega, Nat.pow_add]
 have hp : 2 ^ (32 - n) ≤ 2 ^ 32 := Nat.pow_le_pow_right (by omega) (by omega)
 rw [e]
 generalize 2 ^ (32 - n) = p at *
 omega
theorem and_high (x n : Nat) (hx : x < 4294967296) (hn : n ≤ 32) : x &&& (topN n / 4294967296) = cutW 32 x n := by
 have h := and_top x (32 + n) (by omega) (by omega)
 have e1 : cutW 64 x (32 + n) = cutW 32 x n := by unfold cutW; rw [show 64 - (32 + n) = 32 - n from by omega]
 rw [e1] at h
 rw [← h, top_high n hn]
 refine Nat.eq_of_testBit_eq fun i => ?_
 rw [Nat.testBit_and, Nat.testBit_and]
 by_cases h2 : i < 32
 ·congr 1
  have e2 : 2 ^ 32 - 2 ^ (32 - n) = (2 ^ n - 1) <<< (32 - n) := by
   rw [Nat.shiftLeft_eq, Nat.sub_mul, ← Nat.pow_add, show n + (32 - n) = 32 from by omega, Nat.one_mul]
  rw [e2, topN_eq _ (by omega), show 64 - (32 + n) = 32 - n from by omega, Nat.testBit_shiftLeft, Nat.testBit_shiftLeft, Nat.testBit_two_pow_sub_one, Nat.testBit_two_pow_sub_one]
  by_cases h4 : 32 - n ≤ i
  ·rw [decide_eq_true (show i - (32 - n) < n from by omega), decide_eq_true (show i - (32 - n) < 32 + n from by omega)]
  ·rw [decide_eq_false (show ¬ i ≥ 32 - n from by omega), Bool.false_and, Bool.false_and]
 ·have : x.testBit i = false := Nat.testBit_lt_two_pow (Nat.lt_of_lt_of_le hx (show 2 ^ 32 ≤ 2 ^ i from Nat.pow_le_pow_right (by omega) (by omega)))
  rw [this, Bool.false_and, Bool.false_and]

/-! ### masked -/
def clampB (a : Ad) (n : Int) : Nat := (min (max n 0) (adBits a)).toNat
def adMask (a : Ad) (n : Int) : Ad :=
 if adRight a = true then (if a.v6 = true then ⟨true, cutW 64 a.hi (clampB a n), cutW 64 a.lo (clampB a n - 64)⟩ else ⟨false, 0, cutW 32 a.lo (clampB a n)⟩) else ⟨false, 0, 0⟩
def adMake (a : Ad) (n : Int) : Nt × Bool := if adRight a = true ∧ 0 ≤ n ∧ n ≤ adBits a then (⟨adMask a n, n⟩, true) else (⟨⟨false, 0, 0⟩, 0⟩, false)
def ntFull (a : Ad) : Nt := (adMake a (adBits a)).1
theorem adBits_of {a : Ad} (h : a.v6 = true) : adBits a = 128 := by unfold adBits; rw [if_pos h]
theorem adBits_of4 {a : Ad} (h : a.v6 = false) : adBits a = 32 := by unfold adBits; rw [if_neg (by rw [h]; simp)]
theorem adMask_fits (a : Ad) (n : Int) (hf : a.fits) : (adMask a n).fits := by
 have h1 := hf.1; have h2 := hf.2
 unfold adMask
 split
 ·split
  ·have := cutW_le 64 a.hi (clampB a n); have := cutW_le 64 a.lo (clampB a n - 64)
   exact ⟨by simp only; omega, by simp only; omega⟩
  ·have := cutW_le 32 a.lo (clampB a n)
   exact ⟨by simp only; omega, by simp only; omega⟩
 ·exact ⟨by simp, by simp⟩
end Go.Proofs.YtnplgagaoeckoaaGreat
