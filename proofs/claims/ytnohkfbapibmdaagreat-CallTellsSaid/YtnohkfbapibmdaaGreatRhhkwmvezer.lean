/- Texts put together: PlNetP. No condition. -/
import Derived.Test.YtnohkfbapibmdaaGreatRwqesxugwwq
import Derived.Lib.IndexMore
namespace Go.Proofs.YtnohkfbapibmdaaGreat
open Go.RowKit

theorem v4parse_no58 {l : List UInt8} (h : (v4parse l).2 = true) : (58 : UInt8) ∉ l := by
  have := (v4parse_true (l := l) (n := (v4parse l).1) (by rw [← h])).2
  intro hm; rw [this] at hm; exact v4text_no58 _ hm
theorem v6parse_58 {l : List UInt8} (h : (v6parse l).2.2 = true) : (58 : UInt8) ∈ l := by
  refine Decidable.byContradiction fun hm => ?_
  have hg : gapO l = none := gapO_none fun k hk => hm (List.mem_of_getElem? hk.1)
  unfold v6parse spreadL at h
  rw [hg] at h
  simp only at h
  unfold fourL at h
  by_cases hl : l = []
  · rw [if_pos hl] at h; simp at h
  · rw [if_neg hl, splitL_free 58 l hm] at h
    unfold fourP at h
    split at h
    · simp at h
    · rename_i g heq
      split at heq
      · injection heq with heq; subst heq; simp at h
      · split at heq
        · cases heq
        · unfold fourP at heq; injection heq with heq; subst heq; simp at h
/-- read as one of six, an address is what it stands for -/
theorem adParse_six {l : List UInt8} (h : (v6parse l).2.2 = true) : adParse l = (adOf (v6parse l).1 (v6parse l).2.1, true) := by
  unfold adParse
  rw [if_neg (fun h4 => v4parse_no58 h4 (v6parse_58 h)), if_pos h]

/-! ### the first place of a byte -/
def atB (c : UInt8) : List UInt8 → Nat
  | [] => 0
  | x :: r => if x = c then 0 else atB c r + 1
theorem atB_le (c : UInt8) (l : List UInt8) : atB c l ≤ l.length := by
  induction l with
  | nil => exact Nat.le_refl _
  | cons x r ih => unfold atB; split <;> simp; exact ih
theorem index_atB (c : UInt8) (l : List UInt8) : Lib.index l [c] = if atB c l = l.length then -1 else (atB c l : Int) := by
  induction l with
  | nil => rfl
  | cons x r ih =>
    unfold Lib.index atB
    have hp : ([c] : List UInt8).isPrefixOf (x :: r) = decide (x = c) := by
      rw [Bool.eq_iff_iff]; simp [List.isPrefixOf]; exact eq_comm
    rw [hp, ih]
    by_cases hx : x = c
    · rw [if_pos (by simpa using hx), if_pos hx, if_neg (by simp)]; rfl
    · rw [if_neg (by simpa using hx), if_neg hx]
      by_cases hl : atB c r = r.length
      · rw [if_pos hl, if_pos (by decide), if_pos (by simp [hl])]
      · have : ((atB c r : Int) == -1) = false := by rw [beq_eq_false_iff_ne]; omega
        rw [if_neg hl, this, if_neg (by simp), if_neg (by simp [hl])]; simp
theorem cut_atB (c : UInt8) (l : List UInt8) : Lib.cut l [c] = (l.take (atB c l), l.drop (atB c l + 1), decide (atB c l ≠ l.length)) := by
  unfold Lib.cut
  rw [index_atB]
  have := atB_le c l
  by_cases hl : atB c l = l.length
  · rw [if_pos hl, if_neg (by omega), hl, List.take_length, List.drop_eq_nil_of_le (by omega)]; simp
  · rw [if_neg hl, if_pos (by omega), Int.toNat_natCast]; simp [hl]

/-! ### which subnet a text is -/
def zeroN : Nt × Bool := (⟨⟨false, 0, 0⟩, 0⟩, false)
def ntPart (p : Ad × Bool) (full : Bool) (q : Int × Bool) (s : Nat × Nat × Bool) : Nt × Bool :=
  if p.2 = false then zeroN else if full = true then (ntFull p.1, true) else if q.2 = false then zeroN
  else if s.2.2 = true ∧ p.1.v6 = false then (if q.1 < 96 then (⟨⟨true, cutW 64 s.1 q.1.toNat, cutW 64 s.2.1 (q.1.toNat - 64)⟩, q.1⟩, true) else adMake p.1 (q.1 - 96))
  else adMake p.1 q.1
def ntParse (l : List UInt8) : Nt × Bool := ntPart (adParse (l.take (atB 47 l))) (decide (atB 47 l = l.length)) (decParse (l.drop (atB 47 l + 1)) 128) (v6parse (l.take (atB 47 l)))
theorem dec_bd {l : List UInt8} (h : (decParse l 128).2 = true) : 0 ≤ (decParse l 128).1 ∧ (decParse l 128).1 ≤ 128 := by
  obtain ⟨m, h1, _, h2, _⟩ := decParse_true (l := l) (most := 128) (n := (decParse l 128).1) (by rw [← h])
  omega
theorem cut_six {hi lo : Nat} (h : (adOf hi lo).v6 = false) (n : Nat) (hn : n < 96) : ¬ (cutW 64 hi n = 0 ∧ cutW 64 lo (n - 64) / 4294967296 = 65535) := by
  intro ⟨_, h2⟩
  have hb := cutW_bit 64 lo (n - 64) 31 (by omega)
  rw [if_neg (by omega)] at hb
  change _ / 4294967296 % 2 = 0 at hb
  omega
theorem adOf_cut {hi lo : Nat} (h : (adOf hi lo).v6 = false) (n : Nat) (hn : n < 96) : adOf (cutW 64 hi n) (cutW 64 lo (n - 64)) = ⟨true, cutW 64 hi n, cutW 64 lo (n - 64)⟩ := by
  conv => lhs; unfold adOf
  rw [if_neg (cut_six h n hn)]
theorem six_right {hi lo : Nat} (h : (adOf hi lo).v6 = false) (h1 : hi < 18446744073709551616) (h2 : lo < 18446744073709551616) (n : Nat) (hn : n < 96) : ntRight ⟨⟨true, cutW 64 hi n, cutW 64 lo (n - 64)⟩, n⟩ = true := by
  have hr : adRight ⟨true, cutW 64 hi n, cutW 64 lo (n - 64)⟩ = true := by
    unfold adRight; rw [if_pos rfl]; simp only [decide_eq_false (cut_six h n hn)]; rfl
  rw [ntRight_iff]
  refine ⟨hr, by simp only; omega, by rw [adBits_of rfl]; simp only; omega, ?_⟩
  unfold adMask
  rw [if_pos hr, if_pos rfl, clampB_in (by simp only; omega) (by rw [adBits_of rfl]; simp only; omega)]
  simp only [Int.toNat_natCast, cutW_cut]
theorem adMake_fits (a : Ad) (n : Int) (hf : a.fits) : (adMake a n).1.ad.fits := by
  unfold adMake
  split
  · exact adMask_fits a n hf
  · exact ⟨by simp, by simp⟩
theorem adMake_bad {a : Ad} {n : Int} (h : (adMake a n).2 = false) : adMake a n = zeroN := by
  unfold adMake at *
  split
  · rename_i hc; rw [if_pos hc] at h; cases h
  · rfl
theorem ntFull_ok (a : Ad) (hf : a.fits) (h : adRight a = true) : ntRight (ntFull a) = true := by
  unfold ntFull
  refine adMake_right a _ hf ?_
  have := adBits_nn a
  unfold adMake; rw [if_pos ⟨h, by omega, by omega⟩]
theorem ntParse_ok (l : List UInt8) : (ntParse l).1.ad.fits ∧ ((ntParse l).2 = true → ntRight (ntParse l).1 = true) ∧ ((ntParse l).2 = false → ntParse l = zeroN) := by
  unfold ntParse
  have hf := adParse_fits (l.take (atB 47 l))
  have hr := adParse_right (l.take (atB 47 l))
  have hs := adParse_six (l := l.take (atB 47 l))
  have hlt := v6parse_lt (l.take (atB 47 l))
  have hd := dec_bd (l := l.drop (atB 47 l + 1))
  have hz : zeroN.1.ad.fits ∧ (zeroN.2 = true → ntRight zeroN.1 = true) ∧ (zeroN.2 = false → zeroN = zeroN) := ⟨⟨by decide, by decide⟩, fun h => (by cases h), fun _ => rfl⟩
  generalize adParse (l.take (atB 47 l)) = p at *
  generalize decide (atB 47 l = l.length) = full at *
  generalize decParse (l.drop (atB 47 l + 1)) 128 = q at *
  generalize v6parse (l.take (atB 47 l)) = s at *
  unfold ntPart
  split
  · exact hz
  · rename_i hp
    have hp : p.2 = true := by simpa using hp
    have hr := hr hp
    split
    · exact ⟨by unfold ntFull; exact adMake_fits _ _ hf, fun _ => ntFull_ok p.1 hf hr, fun h => by cases h⟩
    · split
      · exact hz
      · rename_i hq
        have hq : q.2 = true := by simpa using hq
        have hd := hd hq
        split
        · rename_i h6
          have hs := hs h6.1
          have hv : (adOf s.1 s.2.1).v6 = false := by rw [hs] at h6; exact h6.2
          split
          · refine ⟨⟨?_, ?_⟩, fun _ => ?_, fun h => by cases h⟩
            · have := cutW_le 64 s.1 q.1.toNat; simp only; omega
            · have := cutW_le 64 s.2.1 (q.1.toNat - 64); simp only; omega
            · have := six_right hv hlt.1 hlt.2 q.1.toNat (by omega)
              rw [show ((q.1.toNat : Nat) : Int) = q.1 from by omega] at this
              exact this
          · exact ⟨adMake_fits _ _ hf, fun h => adMake_right _ _ hf h, fun h => adMake_bad h⟩
        · exact ⟨adMake_fits _ _ hf, fun h => adMake_right _ _ hf h, fun h => adMake_bad h⟩
end Go.Proofs.YtnohkfbapibmdaaGreat
