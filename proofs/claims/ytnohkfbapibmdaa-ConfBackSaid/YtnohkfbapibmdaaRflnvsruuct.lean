/- Texts put together: PlDec. No condition. -/
import Derived.Test.YtnohkfbapibmdaaRpgeuglklpq
namespace Go.Proofs.Ytnohkfbapibmdaa
open Go.RowKit

def isDig (c : UInt8) : Prop := 48 ≤ c.toNat ∧ c.toNat ≤ 57
instance (c : UInt8) : Decidable (isDig c) := by unfold isDig; infer_instance
def nval (l : List UInt8) : Nat := l.foldl (fun n c => 10 * n + (c.toNat - 48)) 0
theorem nval_snoc (l : List UInt8) (c : UInt8) : nval (l ++ [c]) = 10 * nval l + (c.toNat - 48) := by simp [nval]
theorem snoc_ind {P : List UInt8 → Prop} (h0 : P []) (h1 : ∀ l c, P l → P (l ++ [c])) (l : List UInt8) : P l := by
  have : ∀ n (l : List UInt8), l.length = n → P l := by
    intro n
    induction n with
    | zero => intro l h; rw [List.length_eq_zero_iff.1 h]; exact h0
    | succ n ih =>
      intro l h
      have hne : l ≠ [] := by intro e; rw [e] at h; simp at h
      rw [← List.dropLast_concat_getLast hne]
      exact h1 _ _ (ih _ (by simp; omega))
  exact this _ l rfl
theorem dloop_digs (l : List UInt8) (h : ∀ c ∈ l, isDig c) : dloop l = if nval l ≤ 9223372036854775807 then some (nval l : Int) else none := by
  induction l using snoc_ind with
  | h0 => rfl
  | h1 l c ih =>
    have hc : isDig c := h c (by simp)
    obtain ⟨hc1, hc2⟩ := hc
    rw [dloop_snoc, ih (fun x hx => h x (by simp [hx])), nval_snoc]
    by_cases h1 : nval l ≤ 9223372036854775807
    · rw [if_pos h1]; unfold dstep; simp only
      by_cases h2 : 10 * nval l + (c.toNat - 48) ≤ 9223372036854775807
      · rw [if_pos h2, if_neg (by omega)]; congr 1; omega
      · rw [if_neg h2, if_pos (by omega)]
    · rw [if_neg h1, if_neg (by omega)]; rfl
theorem dloop_bad (l : List UInt8) (h : ¬ ∀ c ∈ l, isDig c) : dloop l = none := by
  induction l using snoc_ind with
  | h0 => exact absurd (by simp) h
  | h1 l c ih =>
    rw [dloop_snoc]
    by_cases hl : ∀ c ∈ l, isDig c
    · have hc : ¬ isDig c := fun hc => h (by intro x hx; rcases List.mem_append.1 hx with h1 | h1; exact hl x h1; rw [List.mem_singleton.1 h1]; exact hc)
      cases dloop l with
      | none => rfl
      | some v =>
        unfold dstep; simp only; rw [if_pos]
        unfold isDig at hc; omega
    · rw [ih hl]; rfl
theorem dig_char (n : Nat) (h : n < 10) : isDig (UInt8.ofNat (48 + n)) ∧ (UInt8.ofNat (48 + n)).toNat = 48 + n := by
  have := u8_of (48 + n) (by omega); unfold isDig; omega
theorem digs_isDig (n : Nat) : ∀ c ∈ digs n, isDig c := by
  induction n using Nat.strongRecOn with
  | _ n ih =>
    by_cases h : n < 10
    · rw [digs_lo h]; intro c hc; rw [List.mem_singleton.1 hc]; exact (dig_char n h).1
    · rw [digs_hi h]; intro c hc
      rcases List.mem_append.1 hc with h1 | h1
      · exact ih (n / 10) (by omega) c h1
      · rw [List.mem_singleton.1 h1]; exact (dig_char _ (by omega)).1
theorem nval_digs (n : Nat) : nval (digs n) = n := by
  induction n using Nat.strongRecOn with
  | _ n ih =>
    by_cases h : n < 10
    · rw [digs_lo h]; have := (dig_char n h).2; simp [nval] at *; omega
    · rw [digs_hi h, nval_snoc, ih (n / 10) (by omega), (dig_char _ (by omega)).2]; omega
/-- no leading zero -/
theorem digs_head (n : Nat) (h : 0 < n) : (digs n)[0]? ≠ some 48 := by
  induction n using Nat.strongRecOn with
  | _ n ih =>
    by_cases h1 : n < 10
    · rw [digs_lo h1]; have := (dig_char n h1).2
      intro e; rw [List.getElem?_cons_zero, Option.some.injEq] at e; rw [e] at this; have : (48 : UInt8).toNat = 48 := rfl; omega
    · rw [digs_hi h1]
      have := digs_len_pos (n / 10)
      rw [List.getElem?_append_left this]; exact ih (n / 10) (by omega) (by omega)
theorem digs_nval (l : List UInt8) (h : ∀ c ∈ l, isDig c) (hne : l ≠ []) (hz : l.length = 1 ∨ l[0]? ≠ some 48) : digs (nval l) = l ∧ (1 < l.length → 0 < nval l) := by
  induction l using snoc_ind with
  | h0 => exact absurd rfl hne
  | h1 l c ih =>
    have hc : isDig c := h c (by simp)
    have hcd : UInt8.ofNat (48 + (c.toNat - 48)) = c := by
      obtain ⟨h1, h2⟩ := hc
      rw [show 48 + (c.toNat - 48) = c.toNat from by omega]; simp
    rw [nval_snoc]
    by_cases hl : l = []
    · subst hl
      simp only [nval, List.foldl_nil, List.nil_append]
      obtain ⟨h1, h2⟩ := hc
      refine ⟨?_, by simp⟩
      rw [digs_lo (by omega), show 48 + (10 * 0 + (c.toNat - 48)) = 48 + (c.toNat - 48) from by omega, hcd]
    · have hlen : 0 < l.length := List.length_pos_iff.2 hl
      have hz' : l[0]? ≠ some 48 := by
        rcases hz with hz | hz
        · rw [List.length_append, List.length_singleton] at hz; omega
        · rwa [List.getElem?_append_left hlen] at hz
      obtain ⟨e1, e2⟩ := ih (fun x hx => h x (by simp [hx])) hl (Or.inr hz')
      have hpos : 0 < nval l := by
        rcases Nat.lt_or_ge 1 l.length with h1 | h1
        · exact e2 h1
        · obtain ⟨x, rfl⟩ := List.length_eq_one_iff.1 (by omega : l.length = 1)
          have hx := h x (by simp)
          have : x ≠ 48 := by simpa using hz'
          have : x.toNat ≠ 48 := fun e => this (UInt8.toNat_inj.1 e)
          unfold isDig at hx
          simp [nval]; omega
      refine ⟨?_, fun _ => by omega⟩
      rw [digs_hi (by omega), show (10 * nval l + (c.toNat - 48)) / 10 = nval l from by unfold isDig at hc; omega, e1,
        show 48 + (10 * nval l + (c.toNat - 48)) % 10 = 48 + (c.toNat - 48) from by unfold isDig at hc; omega, hcd]
/-- a number is read of its text -/
theorem decParse_digs (n : Nat) (most : Int) (h1 : n ≤ 9223372036854775807) (h2 : (n : Int) ≤ most) : decParse (digs n) most = ((n : Int), true) := by
  unfold decParse
  rw [if_neg, dloop_digs _ (digs_isDig n), nval_digs, if_pos h1]
  · simp only; rw [if_neg (by omega)]
  · rintro (h | ⟨h3, h4⟩)
    · have := digs_len_pos n; rw [h] at this; simp at this
    · by_cases hn : 0 < n
      · exact digs_head n hn h4
      · rw [show n = 0 from by omega, digs_lo (by omega)] at h3; simp at h3
/-- what is read is a number's text -/
theorem decParse_true {l : List UInt8} {most n : Int} (h : decParse l most = (n, true)) : ∃ m : Nat, n = m ∧ l = digs m ∧ (m : Int) ≤ most ∧ m ≤ 9223372036854775807 := by
  unfold decParse at h
  by_cases hb : l = [] ∨ (1 < l.length ∧ l[0]? = some 48)
  · rw [if_pos hb] at h; simp at h
  rw [if_neg hb] at h
  by_cases hd : ∀ c ∈ l, isDig c
  · rw [dloop_digs l hd] at h
    by_cases hm : nval l ≤ 9223372036854775807
    · rw [if_pos hm] at h; simp only at h
      by_cases hmo : most < (nval l : Int)
      · rw [if_pos hmo] at h; simp at h
      · rw [if_neg hmo] at h
        simp only [Prod.mk.injEq, and_true] at h
        have hne : l ≠ [] := fun e => hb (Or.inl e)
        have hp : 0 < l.length := List.length_pos_iff.2 hne
        refine ⟨nval l, h.symm, (digs_nval l hd hne ?_).1.symm, by omega, hm⟩
        by_cases h0 : l[0]? = some 48
        · left
          rcases Nat.lt_or_ge 1 l.length with h1 | h1
          · exact absurd (Or.inr ⟨h1, h0⟩) hb
          · omega
        · exact Or.inr h0
    · rw [if_neg hm] at h; simp at h
  · rw [dloop_bad l hd] at h; simp at h
/-! ### hex numbers -/
end Go.Proofs.Ytnohkfbapibmdaa
