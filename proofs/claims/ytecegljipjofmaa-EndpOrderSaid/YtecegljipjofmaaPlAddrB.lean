/- Addresses: read of their text; told by their bits. Plain. -/
import Derived.Test.YtecegljipjofmaaPlAddr
namespace Go.Proofs.Ytecegljipjofmaa
open Go.RowKit

theorem digs_no58 (n : Nat) : (58 : UInt8) ∉ digs n := fun h => by have := digs_isDig n _ h; unfold isDig at this; simp at this
theorem v4text_no58 (n : Nat) : (58 : UInt8) ∉ v4text n := by
  unfold v4text v4parts
  rw [joinL_cons, joinL_cons, joinL_cons, joinL_one]
  simp [digs_no58]
theorem v6text_58 (hi lo : Nat) : (58 : UInt8) ∈ v6text hi lo := by
  unfold v6text textG
  split
  · unfold grps hexJ
    simp only [List.map_cons, List.map_nil]
    rw [joinL_cons]; simp
  · simp
theorem v4parse_v6text (hi lo : Nat) : (v4parse (v6text hi lo)).2 = false := by
  cases h : (v4parse (v6text hi lo)).2 with
  | false => rfl
  | true =>
    have := (v4parse_true (l := v6text hi lo) (n := (v4parse (v6text hi lo)).1) (by rw [← h])).2
    have h2 := v6text_58 hi lo
    rw [this] at h2; exact absurd h2 (v4text_no58 _)
theorem adParse_text (a : Ad) (hf : a.fits) (h : adRight a = true) : adParse (adText a) = (a, true) := by
  unfold adText; rw [if_pos h]
  unfold adRight at h
  cases hv : a.v6 with
  | true =>
    rw [hv, if_pos rfl] at h
    rw [if_pos rfl]
    unfold adParse
    rw [if_neg (by rw [v4parse_v6text]; simp), v6parse_text a.hi a.lo hf.1 hf.2, if_pos rfl]
    unfold adOf
    rw [if_neg (fun hc => by rw [decide_eq_true hc] at h; cases h)]
    exact Prod.ext (Ad.ext' hv.symm rfl rfl) rfl
  | false =>
    rw [hv, if_neg (by simp)] at h
    rw [if_neg (by simp)]
    have h := of_decide_eq_true h
    unfold adParse ad4
    rw [v4parse_text a.lo h.2, if_pos rfl]
    exact Prod.ext (Ad.ext' hv.symm h.1.symm rfl) rfl
theorem adText_bad (a : Ad) (h : adRight a = false) : adText a = [] := by
  unfold adText; rw [if_neg (by rw [h]; simp)]
theorem adParse_nil : adParse [] = (⟨false, 0, 0⟩, false) := by decide +kernel

theorem bits_eq (w n m : Nat) (hn : n < 2 ^ w) (hm : m < 2 ^ w) (h : ∀ k, k < w → n / 2 ^ k % 2 = m / 2 ^ k % 2) : n = m := by
  refine Nat.eq_of_testBit_eq fun i => ?_
  rw [Nat.testBit_eq_decide_div_mod_eq, Nat.testBit_eq_decide_div_mod_eq]
  by_cases hi : i < w
  · rw [h i hi]
  · have hp : 2 ^ w ≤ 2 ^ i := Nat.pow_le_pow_right (by omega) (by omega)
    rw [Nat.div_eq_of_lt (by omega), Nat.div_eq_of_lt (by omega)]
def sameK (a b : Ad) (k : Nat) : Bool := (List.range k).all fun j => decide (adBit a (j : Int) = adBit b (j : Int))
theorem sameK_zero (a b : Ad) : sameK a b 0 = true := rfl
theorem sameK_succ (a b : Ad) (k : Nat) : sameK a b (k + 1) = (sameK a b k && decide (adBit a (k : Int) = adBit b (k : Int))) := by
  unfold sameK; rw [List.range_succ]; simp
theorem sameK_iff (a b : Ad) (k : Nat) : sameK a b k = true ↔ ∀ j, j < k → adBit a (j : Int) = adBit b (j : Int) := by
  unfold sameK; simp
theorem adBit_hi (a : Ad) (h : a.v6 = true) (j : Nat) (hj : j < 64) : adBit a (j : Int) = a.hi / 2 ^ (63 - j) % 2 := by
  have c : ¬ ((j : Int) < 0 ∨ adBits a ≤ (j : Int)) := by unfold adBits; rw [if_pos h]; omega
  have d : (j : Int) < 64 := by omega
  unfold adBit; rw [if_neg c, if_pos h, if_pos d, Int.toNat_natCast]
theorem adBit_lo (a : Ad) (h : a.v6 = true) (j : Nat) (hj : 64 ≤ j) (hj2 : j < 128) : adBit a (j : Int) = a.lo / 2 ^ (127 - j) % 2 := by
  have c : ¬ ((j : Int) < 0 ∨ adBits a ≤ (j : Int)) := by unfold adBits; rw [if_pos h]; omega
  have d : ¬ (j : Int) < 64 := by omega
  unfold adBit; rw [if_neg c, if_pos h, if_neg d, Int.toNat_natCast]
theorem adBit_4 (a : Ad) (h : a.v6 = false) (j : Nat) (hj : j < 32) : adBit a (j : Int) = a.lo / 2 ^ (31 - j) % 2 := by
  have c : ¬ ((j : Int) < 0 ∨ adBits a ≤ (j : Int)) := by unfold adBits; rw [if_neg (by rw [h]; simp)]; omega
  unfold adBit; rw [if_neg c, if_neg (by rw [h]; simp), Int.toNat_natCast]
theorem same_end (a b : Ad) (fa : a.fits) (fb : b.fits) (ra : adRight a = true) (rb : adRight b = true) (hb : adBits a = adBits b) (k : Nat) (hk : (k : Int) = adBits a) : sameK a b k = decide (a = b) := by
  rw [Bool.eq_iff_iff, decide_eq_true_iff, sameK_iff]
  refine ⟨fun h => ?_, fun h j _ => by rw [h]⟩
  unfold adBits at hb hk
  have hv : a.v6 = b.v6 := by
    cases h1 : a.v6 <;> cases h2 : b.v6 <;> rw [h1, h2] at hb <;> simp at hb ⊢
  unfold adRight at ra rb
  cases h6 : a.v6 with
  | true =>
    have h6b : b.v6 = true := by rw [← hv, h6]
    rw [h6, if_pos rfl] at hk
    have e1 : a.hi = b.hi := bits_eq 64 _ _ fa.1 fb.1 fun j hj => by
      have := h (63 - j) (by omega)
      rw [adBit_hi a h6 _ (by omega), adBit_hi b h6b _ (by omega), show 63 - (63 - j) = j from by omega] at this; exact this
    have e2 : a.lo = b.lo := bits_eq 64 _ _ fa.2 fb.2 fun j hj => by
      have := h (127 - j) (by omega)
      rw [adBit_lo a h6 _ (by omega) (by omega), adBit_lo b h6b _ (by omega) (by omega), show 127 - (127 - j) = j from by omega] at this; exact this
    exact Ad.ext' hv e1 e2
  | false =>
    have h6b : b.v6 = false := by rw [← hv, h6]
    rw [h6, if_neg (by simp)] at hk ra
    rw [h6b, if_neg (by simp)] at rb
    have ra := of_decide_eq_true ra
    have rb := of_decide_eq_true rb
    have e2 : a.lo = b.lo := bits_eq 32 _ _ ra.2 rb.2 fun j hj => by
      have := h (31 - j) (by omega)
      rw [adBit_4 a h6 _ (by omega), adBit_4 b h6b _ (by omega), show 31 - (31 - j) = j from by omega] at this; exact this
    exact Ad.ext' hv (by rw [ra.1, rb.1]) e2
end Go.Proofs.Ytecegljipjofmaa
