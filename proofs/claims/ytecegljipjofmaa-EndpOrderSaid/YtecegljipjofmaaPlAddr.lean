/- Addresses: what is right, read, written; their bits. Plain. -/
import Derived.Test.YtecegljipjofmaaPlIp6
import Derived.Test.YtecegljipjofmaaPlOrd
namespace Go.Proofs.Ytecegljipjofmaa
open Go.RowKit

def adOf (hi lo : Nat) : Ad := if hi = 0 ∧ lo / 4294967296 = 65535 then ⟨false, 0, lo % 4294967296⟩ else ⟨true, hi, lo⟩
def ad4 (n : Nat) : Ad := ⟨false, 0, n⟩
def adRight (a : Ad) : Bool := if a.v6 = true then !decide (a.hi = 0 ∧ a.lo / 4294967296 = 65535) else decide (a.hi = 0 ∧ a.lo < 4294967296)
def adParse (l : List UInt8) : Ad × Bool := if (v4parse l).2 = true then (ad4 (v4parse l).1, true) else if (v6parse l).2.2 = true then (adOf (v6parse l).1 (v6parse l).2.1, true) else (⟨false, 0, 0⟩, false)
def adText (a : Ad) : List UInt8 := if adRight a = true then (if a.v6 = true then v6text a.hi a.lo else v4text a.lo) else []
def adBits (a : Ad) : Int := if a.v6 = true then 128 else 32
def adBit (a : Ad) (i : Int) : Nat := if i < 0 ∨ adBits a ≤ i then 0 else if a.v6 = true then (if i < 64 then a.hi / 2 ^ (63 - i.toNat) % 2 else a.lo / 2 ^ (127 - i.toNat) % 2) else a.lo / 2 ^ (31 - i.toNat) % 2
theorem right6 (a : Ad) (h : a.v6 = true) : decide (adOf a.hi a.lo = a) = adRight a := by
  unfold adRight adOf
  rw [if_pos h]
  by_cases hc : a.hi = 0 ∧ a.lo / 4294967296 = 65535
  · rw [if_pos hc, decide_eq_true hc]
    refine decide_eq_false fun e => ?_
    have := congrArg Ad.v6 e; rw [h] at this; cases this
  · rw [if_neg hc, decide_eq_false hc]
    exact decide_eq_true (Ad.ext' h.symm rfl rfl)
theorem right4 (a : Ad) (h : a.v6 = false) : decide (ad4 (a.lo % 4294967296) = a) = adRight a := by
  unfold adRight ad4
  rw [if_neg (by rw [h]; simp)]
  by_cases hc : a.hi = 0 ∧ a.lo < 4294967296
  · rw [decide_eq_true hc]
    exact decide_eq_true (Ad.ext' h.symm hc.1.symm (Nat.mod_eq_of_lt hc.2))
  · rw [decide_eq_false hc]
    refine decide_eq_false fun e => hc ⟨?_, ?_⟩
    · exact (congrArg Ad.hi e).symm
    · have := congrArg Ad.lo e; simp only at this; omega
theorem adOf_fits (hi lo : Nat) (h1 : hi < 18446744073709551616) (h2 : lo < 18446744073709551616) : (adOf hi lo).fits := by
  unfold adOf Ad.fits
  split
  · exact ⟨by simp, by simp only; omega⟩
  · exact ⟨h1, h2⟩
theorem adOf_right (hi lo : Nat) : adRight (adOf hi lo) = true := by
  unfold adOf
  split
  · unfold adRight; rw [if_neg (by simp)]; exact decide_eq_true ⟨rfl, by simp only; omega⟩
  · rename_i h; unfold adRight; rw [if_pos rfl]; simp only [decide_eq_false h]; rfl
theorem adParse_lt4 {l : List UInt8} (h : (v4parse l).2 = true) : (v4parse l).1 < 4294967296 := (v4parse_true (l := l) (n := (v4parse l).1) (by rw [← h])).1
theorem adParse_right (l : List UInt8) (h : (adParse l).2 = true) : adRight (adParse l).1 = true := by
  unfold adParse at *
  split
  · rename_i h4
    unfold adRight ad4; rw [if_neg (by simp)]; exact decide_eq_true ⟨rfl, adParse_lt4 h4⟩
  · rename_i h4
    rw [if_neg h4] at h
    split
    · exact adOf_right _ _
    · rename_i h6; rw [if_neg h6] at h; cases h
theorem adParse_bad (l : List UInt8) (h : (adParse l).2 = false) : (adParse l).1 = ⟨false, 0, 0⟩ := by
  unfold adParse at *
  split
  · rename_i h4; rw [if_pos h4] at h; cases h
  · rename_i h4
    rw [if_neg h4] at h
    split
    · rename_i h6; rw [if_pos h6] at h; cases h
    · rfl
theorem adParse_fits (l : List UInt8) : (adParse l).1.fits := by
  unfold adParse
  split
  · rename_i h4; have := adParse_lt4 h4; exact ⟨by simp [ad4], by simp only [ad4]; omega⟩
  · split
    · exact adOf_fits _ _ (v6parse_lt l).1 (v6parse_lt l).2
    · exact ⟨by simp, by simp⟩
end Go.Proofs.Ytecegljipjofmaa
