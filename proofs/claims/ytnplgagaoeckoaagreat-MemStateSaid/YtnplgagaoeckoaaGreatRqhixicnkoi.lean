/- Texts put together: PlWords, PlIp4, PlAddr, PlAddrB, PlNet. No condition. -/
import Derived.Test.YtnplgagaoeckoaaGreatRfwnkgoffnn
import Derived.Lib.IndexLaws
import Derived.Lib.Join
import Derived.Lib.Strings
import Derived.Test.YtnplgagaoeckoaaGreatRnwkkgscqya
import Derived.Lib.IndexBytes
namespace Go.Proofs.YtnplgagaoeckoaaGreat
open Go.RowKit

/-- a string as a cell -/
def sv (l : List UInt8) : Value := .string (bs l)
end Go.Proofs.YtnplgagaoeckoaaGreat
namespace Go.Proofs.YtnplgagaoeckoaaGreat
open Go.RowKit

/-- the parts, from the last one on -/
def v4pk : Nat → Nat → List (List UInt8)
  | 0, _ => []
  | k + 1, m => v4pk k (m / 256) ++ [digs (m % 256)]
def V4At (N m k : Nat) (arr : List Value) : Prop := ∃ acc : List (List UInt8), arr.drop k = acc.map sv ∧ v4pk 4 N = v4pk k m ++ acc
theorem V4At.step {N m k : Nat} {arr : List Value} (h : V4At N m (k + 1) arr) (hl : k + 1 ≤ arr.length) : V4At N (m / 256) k (arr.set k (sv (digs (m % 256)))) := by
  obtain ⟨acc, h1, h2⟩ := h
  refine ⟨digs (m % 256) :: acc, ?_, by rw [h2]; simp [v4pk]⟩
  have hl' : k < (arr.set k (sv (digs (m % 256)))).length := by rw [List.length_set]; omega
  rw [List.drop_eq_getElem_cons hl', List.getElem_set_self, List.drop_set_of_lt (by omega), h1]; rfl
end Go.Proofs.YtnplgagaoeckoaaGreat
namespace Go.Proofs.YtnplgagaoeckoaaGreat
open Go.RowKit

def adOf (hi lo : Nat) : Ad := if hi = 0 ∧ lo / 4294967296 = 65535 then ⟨false, 0, lo % 4294967296⟩ else ⟨true, hi, lo⟩
def ad4 (n : Nat) : Ad := ⟨false, 0, n⟩
def adRight (a : Ad) : Bool := if a.v6 = true then !decide (a.hi = 0 ∧ a.lo / 4294967296 = 65535) else decide (a.hi = 0 ∧ a.lo < 4294967296)
def adBits (a : Ad) : Int := if a.v6 = true then 128 else 32
def adBit (a : Ad) (i : Int) : Nat := if i < 0 ∨ adBits a ≤ i then 0 else if a.v6 = true then (if i < 64 then a.hi / 2 ^ (63 - i.toNat) % 2 else a.lo / 2 ^ (127 - i.toNat) % 2) else a.lo / 2 ^ (31 - i.toNat) % 2
theorem right6 (a : Ad) (h : a.v6 = true) : decide (adOf a.hi a.lo = a) = adRight a := by
  unfold adRight adOf
  rw [if_pos h]
  by_cases hc : a.hi = 0 ∧ a.lo / 4294967296 = 65535
  · rw [if_pos hc, decide_eq_true hc]
    refine decide_eq_false fun e => ?_
    have := congrArg Ad.v6 e; rw [h] at this; cases this
  · rw [if_neg hc, decide_eq_false hc]
    exact decide_eq_true (Ad.ext' h.symm rfl rfl)
theorem right4 (a : Ad) (h : a.v6 = false) : decide (ad4 (a.lo % 4294967296) = a) = adRight a := by
  unfold adRight ad4
  rw [if_neg (by rw [h]; simp)]
  by_cases hc : a.hi = 0 ∧ a.lo < 4294967296
  · rw [decide_eq_true hc]
    exact decide_eq_true (Ad.ext' h.symm hc.1.symm (Nat.mod_eq_of_lt hc.2))
  · rw [decide_eq_false hc]
    refine decide_eq_false fun e => hc ⟨?_, ?_⟩
    · exact (congrArg Ad.hi e).symm
    · have := congrArg Ad.lo e; simp only at this; omega
end Go.Proofs.YtnplgagaoeckoaaGreat
namespace Go.Proofs.YtnplgagaoeckoaaGreat
open Go.RowKit

theorem bits_eq (w n m : Nat) (hn : n < 2 ^ w) (hm : m < 2 ^ w) (h : ∀ k, k < w → n / 2 ^ k % 2 = m / 2 ^ k % 2) : n = m := by
  refine Nat.eq_of_testBit_eq fun i => ?_
  rw [Nat.testBit_eq_decide_div_mod_eq, Nat.testBit_eq_decide_div_mod_eq]
  by_cases hi : i < w
  · rw [h i hi]
  · have hp : 2 ^ w ≤ 2 ^ i := Nat.pow_le_pow_right (by omega) (by omega)
    rw [Nat.div_eq_of_lt (by omega), Nat.div_eq_of_lt (by omega)]
def sameK (a b : Ad) (k : Nat) : Bool := (List.range k).all fun j => decide (adBit a (j : Int) = adBit b (j : Int))
theorem sameK_iff (a b : Ad) (k : Nat) : sameK a b k = true ↔ ∀ j, j < k → adBit a (j : Int) = adBit b (j : Int) := by
  unfold sameK; simp
theorem adBit_hi (a : Ad) (h : a.v6 = true) (j : Nat) (hj : j < 64) : adBit a (j : Int) = a.hi / 2 ^ (63 - j) % 2 := by
  have c : ¬ ((j : Int) < 0 ∨ adBits a ≤ (j : Int)) := by unfold adBits; rw [if_pos h]; omega
  have d : (j : Int) < 64 := by omega
  unfold adBit; rw [if_neg c, if_pos h, if_pos d, Int.toNat_natCast]
theorem adBit_lo (a : Ad) (h : a.v6 = true) (j : Nat) (hj : 64 ≤ j) (hj2 : j < 128) : adBit a (j : Int) = a.lo / 2 ^ (127 - j) % 2 := by
  have c : ¬ ((j : Int) < 0 ∨ adBits a ≤ (j : Int)) := by unfold adBits; rw [if_pos h]; omega
  have d : ¬ (j : Int) < 64 := by omega
  unfold adBit; rw [if_neg c, if_pos h, if_neg d, Int.toNat_natCast]
theorem adBit_4 (a : Ad) (h : a.v6 = false) (j : Nat) (hj : j < 32) : adBit a (j : Int) = a.lo / 2 ^ (31 - j) % 2 := by
  have c : ¬ ((j : Int) < 0 ∨ adBits a ≤ (j : Int)) := by unfold adBits; rw [if_neg (by rw [h]; simp)]; omega
  unfold adBit; rw [if_neg c, if_neg (by rw [h]; simp), Int.toNat_natCast]
theorem same_end (a b : Ad) (fa : a.fits) (fb : b.fits) (ra : adRight a = true) (rb : adRight b = true) (hb : adBits a = adBits b) (k : Nat) (hk : (k : Int) = adBits a) : sameK a b k = decide (a = b) := by
  rw [Bool.eq_iff_iff, decide_eq_true_iff, sameK_iff]
  refine ⟨fun h => ?_, fun h j _ => by rw [h]⟩
  unfold adBits at hb hk
  have hv : a.v6 = b.v6 := by
    cases h1 : a.v6 <;> cases h2 : b.v6 <;> rw [h1, h2] at hb <;> simp at hb ⊢
  unfold adRight at ra rb
  cases h6 : a.v6 with
  | true =>
    have h6b : b.v6 = true := by rw [← hv, h6]
    rw [h6, if_pos rfl] at hk
    have e1 : a.hi = b.hi := bits_eq 64 _ _ fa.1 fb.1 fun j hj => by
      have := h (63 - j) (by omega)
      rw [adBit_hi a h6 _ (by omega), adBit_hi b h6b _ (by omega), show 63 - (63 - j) = j from by omega] at this; exact this
    have e2 : a.lo = b.lo := bits_eq 64 _ _ fa.2 fb.2 fun j hj => by
      have := h (127 - j) (by omega)
      rw [adBit_lo a h6 _ (by omega) (by omega), adBit_lo b h6b _ (by omega) (by omega), show 127 - (127 - j) = j from by omega] at this; exact this
    exact Ad.ext' hv e1 e2
  | false =>
    have h6b : b.v6 = false := by rw [← hv, h6]
    rw [h6, if_neg (by simp)] at hk ra
    rw [h6b, if_neg (by simp)] at rb
    have ra := of_decide_eq_true ra
    have rb := of_decide_eq_true rb
    have e2 : a.lo = b.lo := bits_eq 32 _ _ ra.2 rb.2 fun j hj => by
      have := h (31 - j) (by omega)
      rw [adBit_4 a h6 _ (by omega), adBit_4 b h6b _ (by omega), show 31 - (31 - j) = j from by omega] at this; exact this
    exact Ad.ext' hv (by rw [ra.1, rb.1]) e2
end Go.Proofs.YtnplgagaoeckoaaGreat
namespace Go.Proofs.YtnplgagaoeckoaaGreat
open Go.RowKit

structure Nt where
  ad : Ad
  bits : Int
theorem Nt.ext' {a b : Nt} (h1 : a.ad = b.ad) (h2 : a.bits = b.bits) : a = b := by cases a; cases b; simp_all
instance : DecidableEq Nt := fun a b => decidable_of_iff (a.ad = b.ad ∧ a.bits = b.bits) ⟨fun ⟨h1, h2⟩ => Nt.ext' h1 h2, fun h => by subst h; exact ⟨rfl, rfl⟩⟩
instance : Inhabited Nt := ⟨⟨default, 0⟩⟩

/-- the first n bits of w -/
def cutW (w x n : Nat) : Nat := x / 2 ^ (w - n) * 2 ^ (w - n)
/-- a number whose first n bits of 64 alone are 1 -/
def topN (n : Nat) : Nat := 2 ^ 64 - 2 ^ (64 - n)
theorem cutW_all (w x n : Nat) (h : w ≤ n) : cutW w x n = x := by
  unfold cutW; rw [show w - n = 0 from by omega]; simp
theorem cutW_le (w x n : Nat) : cutW w x n ≤ x := Nat.div_mul_le_self _ _
theorem cutW_bit (w x n j : Nat) (hj : j < w) : cutW w x n / 2 ^ (w - 1 - j) % 2 = if j < n then x / 2 ^ (w - 1 - j) % 2 else 0 := by
  unfold cutW
  by_cases h : j < n
  · rw [if_pos h]
    have e : 2 ^ (w - 1 - j) = 2 ^ (w - n) * 2 ^ (w - 1 - j - (w - n)) := by rw [← Nat.pow_add]; congr 1; omega
    rw [e, ← Nat.div_div_eq_div_mul, Nat.mul_div_cancel _ (Nat.two_pow_pos _), Nat.div_div_eq_div_mul]
  · rw [if_neg h]
    have e : 2 ^ (w - n) = 2 ^ (w - n - (w - 1 - j) - 1) * 2 * 2 ^ (w - 1 - j) := by rw [← Nat.pow_succ, ← Nat.pow_add]; congr 1; omega
    rw [e, ← Nat.mul_assoc, Nat.mul_div_cancel _ (Nat.two_pow_pos _), ← Nat.mul_assoc, Nat.mul_mod_left]
theorem topN_eq (n : Nat) (h : n ≤ 64) : topN n = (2 ^ n - 1) <<< (64 - n) := by
  unfold topN
  rw [Nat.shiftLeft_eq, Nat.sub_mul, ← Nat.pow_add, show n + (64 - n) = 64 from by omega, Nat.one_mul]
theorem and_top (x n : Nat) (hx : x < 2 ^ 64) (hn : n ≤ 64) : x &&& topN n = cutW 64 x n := by
  rw [topN_eq n hn]
  unfold cutW
  rw [← Nat.shiftLeft_eq, ← Nat.shiftRight_eq_div_pow]
  refine Nat.eq_of_testBit_eq fun i => ?_
  rw [Nat.testBit_and, Nat.testBit_shiftLeft, Nat.testBit_shiftLeft, Nat.testBit_shiftRight, Nat.testBit_two_pow_sub_one]
  by_cases h1 : 64 - n ≤ i
  · rw [decide_eq_true h1, Bool.true_and, Bool.true_and, show 64 - n + (i - (64 - n)) = i from by omega]
    by_cases h2 : i < 64
    · rw [decide_eq_true (show i - (64 - n) < n from by omega), Bool.and_true]
    · have : x.testBit i = false := Nat.testBit_lt_two_pow (Nat.lt_of_lt_of_le hx (Nat.pow_le_pow_right (by omega) (by omega)))
      rw [this, Bool.false_and]
  · rw [decide_eq_false h1]; simp
theorem topN_lt (n : Nat) : topN n < 18446744073709551616 := by
  unfold topN
  have := Nat.two_pow_pos (64 - n)
  show 18446744073709551616 - _ < _
  omega
/-- of an address of 32 bits -/
theorem top_high (n : Nat) (h : n ≤ 32) : topN n / 4294967296 = 2 ^ 32 - 2 ^ (32 - n) := by
  unfold topN
  have e : 2 ^ (64 - n) = 2 ^ (32 - n) * 4294967296 := by
    rw [show 64 - n = (32 - n) + 32 from by omega, Nat.pow_add]
  have hp : 2 ^ (32 - n) ≤ 2 ^ 32 := Nat.pow_le_pow_right (by omega) (by omega)
  rw [e]
  generalize 2 ^ (32 - n) = p at *
  omega
theorem and_high (x n : Nat) (hx : x < 4294967296) (hn : n ≤ 32) : x &&& (topN n / 4294967296) = cutW 32 x n := by
  have h := and_top x (32 + n) (by omega) (by omega)
  have e1 : cutW 64 x (32 + n) = cutW 32 x n := by unfold cutW; rw [show 64 - (32 + n) = 32 - n from by omega]
  rw [e1] at h
  rw [← h, top_high n hn]
  refine Nat.eq_of_testBit_eq fun i => ?_
  rw [Nat.testBit_and, Nat.testBit_and]
  by_cases h2 : i < 32
  · congr 1
    have e2 : 2 ^ 32 - 2 ^ (32 - n) = (2 ^ n - 1) <<< (32 - n) := by
      rw [Nat.shiftLeft_eq, Nat.sub_mul, ← Nat.pow_add, show n + (32 - n) = 32 from by omega, Nat.one_mul]
    rw [e2, topN_eq _ (by omega), show 64 - (32 + n) = 32 - n from by omega, Nat.testBit_shiftLeft, Nat.testBit_shiftLeft, Nat.testBit_two_pow_sub_one, Nat.testBit_two_pow_sub_one]
    by_cases h4 : 32 - n ≤ i
    · rw [decide_eq_true (show i - (32 - n) < n from by omega), decide_eq_true (show i - (32 - n) < 32 + n from by omega)]
    · rw [decide_eq_false (show ¬ i ≥ 32 - n from by omega), Bool.false_and, Bool.false_and]
  · have : x.testBit i = false := Nat.testBit_lt_two_pow (Nat.lt_of_lt_of_le hx (show 2 ^ 32 ≤ 2 ^ i from Nat.pow_le_pow_right (by omega) (by omega)))
    rw [this, Bool.false_and, Bool.false_and]

/-! ### masked -/
def clampB (a : Ad) (n : Int) : Nat := (min (max n 0) (adBits a)).toNat
def adMask (a : Ad) (n : Int) : Ad :=
  if adRight a = true then (if a.v6 = true then ⟨true, cutW 64 a.hi (clampB a n), cutW 64 a.lo (clampB a n - 64)⟩ else ⟨false, 0, cutW 32 a.lo (clampB a n)⟩) else ⟨false, 0, 0⟩
def adMake (a : Ad) (n : Int) : Nt × Bool := if adRight a = true ∧ 0 ≤ n ∧ n ≤ adBits a then (⟨adMask a n, n⟩, true) else (⟨⟨false, 0, 0⟩, 0⟩, false)
def ntFull (a : Ad) : Nt := (adMake a (adBits a)).1
def ntRight (n : Nt) : Bool := adRight n.ad && (decide (0 ≤ n.bits) && (decide (n.bits ≤ adBits n.ad) && decide (adMask n.ad n.bits = n.ad)))
def ntCmp (a b : Nt) : Int := orI [adCmp a.ad b.ad, cmpI a.bits b.bits]
theorem clampB_in {a : Ad} {n : Int} (h0 : 0 ≤ n) (h1 : n ≤ adBits a) : clampB a n = n.toNat := by unfold clampB; omega
theorem adBits_of {a : Ad} (h : a.v6 = true) : adBits a = 128 := by unfold adBits; rw [if_pos h]
theorem adBits_of4 {a : Ad} (h : a.v6 = false) : adBits a = 32 := by unfold adBits; rw [if_neg (by rw [h]; simp)]
theorem adMask_v6 (a : Ad) (n : Int) (h : adRight a = true) : (adMask a n).v6 = a.v6 := by
  unfold adMask; rw [if_pos h]
  split
  · rename_i h6; rw [h6]
  · rename_i h6; simp at h6; rw [h6]
theorem adMask_bits (a : Ad) (n : Int) (h : adRight a = true) : adBits (adMask a n) = adBits a := by unfold adBits; rw [adMask_v6 a n h]
theorem adMask_fits (a : Ad) (n : Int) (hf : a.fits) : (adMask a n).fits := by
  have h1 := hf.1; have h2 := hf.2
  unfold adMask
  split
  · split
    · have := cutW_le 64 a.hi (clampB a n); have := cutW_le 64 a.lo (clampB a n - 64)
      exact ⟨by simp only; omega, by simp only; omega⟩
    · have := cutW_le 32 a.lo (clampB a n)
      exact ⟨by simp only; omega, by simp only; omega⟩
  · exact ⟨by simp, by simp⟩
theorem adMask_right (a : Ad) (n : Int) (hf : a.fits) (h : adRight a = true) : adRight (adMask a n) = true := by
  have hr := h
  unfold adMask; rw [if_pos h]
  unfold adRight at hr
  cases h6 : a.v6 with
  | true =>
    rw [h6, if_pos rfl] at hr
    rw [if_pos rfl]
    unfold adRight; rw [if_pos rfl]
    simp only [Bool.not_eq_true', decide_eq_false_iff_not] at hr ⊢
    intro ⟨c1, c2⟩
    apply hr
    generalize clampB a n = m at *
    by_cases hm : 96 ≤ m
    · rw [cutW_all 64 a.hi m (by omega)] at c1
      refine ⟨c1, ?_⟩
      unfold cutW at c2
      have e : 4294967296 = 2 ^ (64 - (m - 64)) * 2 ^ (32 - (64 - (m - 64))) := by rw [← Nat.pow_add]; show 2 ^ 32 = _; congr 1; omega
      rw [e, ← Nat.div_div_eq_div_mul, Nat.mul_div_cancel _ (Nat.two_pow_pos _), Nat.div_div_eq_div_mul, ← e] at c2
      exact c2
    · exfalso
      have hb := cutW_bit 64 a.lo (m - 64) 31 (by omega)
      rw [if_neg (by omega)] at hb
      change _ / 4294967296 % 2 = 0 at hb
      omega
  | false =>
    rw [h6, if_neg (by simp)] at hr
    rw [if_neg (by simp)]
    have hr := of_decide_eq_true hr
    unfold adRight; rw [if_neg (by simp)]
    have := cutW_le 32 a.lo (clampB a n)
    exact decide_eq_true ⟨rfl, by simp only; omega⟩
theorem adBit_mask (a : Ad) (n : Int) (hf : a.fits) (h : adRight a = true) (h0 : 0 ≤ n) (hn : n ≤ adBits a) (j : Nat) (hj : (j : Int) < adBits a) : adBit (adMask a n) j = if (j : Int) < n then adBit a j else 0 := by
  have h6' := adMask_v6 a n h
  have hm : adMask a n = if a.v6 = true then ⟨true, cutW 64 a.hi n.toNat, cutW 64 a.lo (n.toNat - 64)⟩ else ⟨false, 0, cutW 32 a.lo n.toNat⟩ := by
    unfold adMask; rw [if_pos h, clampB_in h0 hn]
  obtain ⟨m, rfl⟩ : ∃ m : Nat, n = m := ⟨n.toNat, by omega⟩
  simp only [Int.toNat_natCast] at hm
  cases h6 : a.v6 with
  | true =>
    rw [h6] at h6'
    rw [h6, if_pos rfl] at hm
    rw [adBits_of h6] at hn hj
    by_cases hj6 : j < 64
    · rw [adBit_hi a h6 j hj6, adBit_hi _ h6' j hj6, hm]
      have := cutW_bit 64 a.hi m j hj6
      simp only [Int.ofNat_lt]
      exact this
    · rw [adBit_lo a h6 j (by omega) (by omega), adBit_lo _ h6' j (by omega) (by omega), hm]
      have := cutW_bit 64 a.lo (m - 64) (j - 64) (by omega)
      rw [show 64 - 1 - (j - 64) = 127 - j from by omega] at this
      simp only [Int.ofNat_lt]
      rw [this]
      by_cases hc : j < m
      · rw [if_pos hc, if_pos (by omega)]
      · rw [if_neg hc, if_neg (by omega)]
  | false =>
    rw [h6] at h6'
    rw [h6, if_neg (by simp)] at hm
    rw [adBits_of4 h6] at hn hj
    rw [adBit_4 a h6 j (by omega), adBit_4 _ h6' j (by omega), hm]
    have := cutW_bit 32 a.lo m j (by omega)
    simp only [Int.ofNat_lt]
    exact this
theorem adBit_2 (a : Ad) (j : Int) : adBit a j = 0 ∨ adBit a j = 1 := by
  unfold adBit
  split
  · exact Or.inl rfl
  · split
    · split <;> omega
    · omega
/-- the bits behind the first n are 0 -/
def noBits (a : Ad) (n : Int) (k : Nat) : Bool := (List.range k).all fun j => decide ((j : Int) < n ∨ adBit a j ≠ 1)
theorem noBits_iff (a : Ad) (n : Int) (k : Nat) : noBits a n k = true ↔ ∀ j, j < k → (j : Int) < n ∨ adBit a j ≠ 1 := by unfold noBits; simp
theorem mask_same (a b : Ad) (fa : a.fits) (fb : b.fits) (ra : adRight a = true) (rb : adRight b = true) (hv : a.v6 = b.v6) : a = b ↔ ∀ j : Nat, (j : Int) < adBits a → adBit a j = adBit b j := by
  have hb : adBits a = adBits b := by unfold adBits; rw [hv]
  have hk : ((adBits a).toNat : Int) = adBits a := by unfold adBits; split <;> rfl
  have := same_end a b fa fb ra rb hb (adBits a).toNat hk
  rw [Bool.eq_iff_iff, decide_eq_true_iff, sameK_iff] at this
  rw [← this]
  exact ⟨fun h j hj => h j (by omega), fun h j hj => h j (by omega)⟩
theorem noBits_mask (a : Ad) (n : Int) (hf : a.fits) (h : adRight a = true) (h0 : 0 ≤ n) (hn : n ≤ adBits a) : noBits a n (adBits a).toNat = decide (adMask a n = a) := by
  rw [Bool.eq_iff_iff, decide_eq_true_iff, noBits_iff, mask_same _ _ (adMask_fits a n hf) hf (adMask_right a n hf h) h (adMask_v6 a n h), adMask_bits a n h]
  constructor
  · intro hh j hj
    rw [adBit_mask a n hf h h0 hn j hj]
    split
    · rfl
    · rename_i hc
      have := (hh j (by omega)).resolve_left hc
      have := adBit_2 a j
      omega
  · intro hh j hj
    have := hh j (by omega)
    rw [adBit_mask a n hf h h0 hn j (by omega)] at this
    by_cases hc : (j : Int) < n
    · exact Or.inl hc
    · rw [if_neg hc] at this; right; omega
theorem noBits_succ (a : Ad) (n : Int) (k : Nat) : noBits a n (k + 1) = (noBits a n k && decide ((k : Int) < n ∨ adBit a k ≠ 1)) := by
  unfold noBits; rw [List.range_succ]; simp
theorem ntRight_bits (n : Nt) (hf : n.ad.fits) (h : adRight n.ad = true) (h0 : 0 ≤ n.bits) (h1 : n.bits ≤ adBits n.ad) : ntRight n = noBits n.ad n.bits (adBits n.ad).toNat := by
  rw [noBits_mask n.ad n.bits hf h h0 h1]
  unfold ntRight
  rw [h, decide_eq_true h0, decide_eq_true h1]; rfl
theorem noBits_start (a : Ad) (n : Int) (k : Nat) (h : (k : Int) ≤ n) : noBits a n k = true := by
  rw [noBits_iff]; intro j hj; exact Or.inl (by omega)
theorem noBits_bad (a : Ad) (n : Int) (k m : Nat) (h : n ≤ k) (hk : k < m) (hb : adBit a k = 1) : noBits a n m = false := by
  cases hc : noBits a n m with
  | false => rfl
  | true =>
    have := (noBits_iff a n m).1 hc k hk
    omega
theorem noBits_good (a : Ad) (n : Int) (k : Nat) (h : noBits a n k = true) (hb : adBit a k ≠ 1) : noBits a n (k + 1) = true := by
  rw [noBits_succ, h, decide_eq_true (Or.inr hb)]; rfl
theorem adBits_nn (a : Ad) : 0 ≤ adBits a ∧ adBits a ≤ 128 := by unfold adBits; split <;> omega
end Go.Proofs.YtnplgagaoeckoaaGreat
