/- Texts put together: PlNoC. No condition. -/
import Derived.Test.YtdmobgdgeiiicaaRxdzbpsbbdx
namespace Go.Proofs.Ytdmobgdgeiiicaa
open Go.RowKit

/-- a byte that is neither digit, letter nor mark -/
def badC (c : UInt8) : Prop := (c.toNat < 32 ∨ 126 < c.toNat) ∧ ¬ (48 ≤ c.toNat ∧ c.toNat ≤ 57)
theorem badC.hex {c : UInt8} (h : badC c) : hexVal c < 0 := by
  unfold hexVal
  obtain ⟨h1, h2⟩ := h
  rw [if_neg (by omega), if_neg (by omega), if_neg (by omega)]; decide
theorem badC.ne58 {c : UInt8} (h : badC c) : c ≠ 58 := fun e => by subst e; exact absurd h.1 (by decide)
theorem badC.ne46 {c : UInt8} (h : badC c) : c ≠ 46 := fun e => by subst e; exact absurd h.1 (by decide)
theorem badC.ne47 {c : UInt8} (h : badC c) : c ≠ 47 := fun e => by subst e; exact absurd h.1 (by decide)
theorem badC.ne45 {c : UInt8} (h : badC c) : c ≠ 45 := fun e => by subst e; exact absurd h.1 (by decide)
theorem badC.ne32 {c : UInt8} (h : badC c) : c ≠ 32 := fun e => by subst e; exact absurd h.1 (by decide)
theorem digs_noC {c : UInt8} (hc : badC c) (n : Nat) : c ∉ digs n := fun h => by have := digs_isDig n _ h; unfold isDig at this; have := hc.2; omega
theorem v4text_noC {c : UInt8} (hc : badC c) (n : Nat) : c ∉ v4text n := by
  unfold v4text v4parts
  rw [joinL_cons, joinL_cons, joinL_cons, joinL_one]
  simp [digs_noC hc, hc.ne46]
theorem v4parse_noC {c : UInt8} (hc : badC c) {l : List UInt8} (h : (v4parse l).2 = true) : c ∉ l := by
  have := (v4parse_true (l := l) (n := (v4parse l).1) (by rw [← h])).2
  intro hm; rw [this] at hm; exact v4text_noC hc _ hm
theorem hexParse_noC {c : UInt8} (hc : badC c) {p : List UInt8} (h : (hexParse p).2 = true) : c ∉ p := by
  intro hm
  obtain ⟨a, b, rfl⟩ := List.append_of_mem hm
  have hz : hloop (a ++ c :: b) = none := by
    unfold hloop
    rw [List.foldl_append, List.foldl_cons]
    have : ∀ x : Option Int, hstep x c = none := fun x => by
      cases x with
      | none => rfl
      | some n =>
        show (if hexVal c < 0 then none else some (n * 16 + hexVal c)) = none
        rw [if_pos (show hexVal c < 0 from hc.hex)]
    rw [this, hfold_none]
  unfold hexParse at h
  rw [hz] at h
  split at h <;> cases h
theorem fullP_noC {c : UInt8} (hc : badC c) {L : List (List UInt8)} : ∀ (a : List Nat), (∃ p ∈ L, c ∈ p) → fullP L a = none := by
  induction L with
  | nil => intro a ⟨p, hp, _⟩; cases hp
  | cons q r ih =>
    intro a ⟨p, hp, hm⟩
    unfold fullP
    rcases List.mem_cons.1 hp with rfl | hp
    · rw [if_neg (fun hx => hexParse_noC hc hx hm), if_neg (fun hx => v4parse_noC hc hx.1 hm)]
    · by_cases hx : (hexParse q).2 = true
      · rw [if_pos hx]; exact ih _ ⟨p, hp, hm⟩
      · rw [if_neg hx, if_neg (fun hy => by rw [hy.2] at hp; cases hp)]
theorem fourL_noC {c : UInt8} (hc : badC c) {may : Bool} {l : List UInt8} (hm : c ∈ l) : fourL may l = none := by
  unfold fourL
  rw [if_neg (fun h => by rw [h] at hm; cases hm)]
  cases h : fourP may (splitL 58 l) [] with
  | none => rfl
  | some g =>
    have h1 := fourP_full h
    have h2 := fullP_noC hc [] (split_mem (c := 58) (d := c) hc.ne58 l hm)
    rw [h2] at h1; cases h1
theorem v6parse_noC {c : UInt8} (hc : badC c) {l : List UInt8} (h : (v6parse l).2.2 = true) : c ∉ l := by
  intro hm
  have hz : spreadL l = none := by
    unfold spreadL
    cases hg : gapO l with
    | none => exact fourL_noC hc hm
    | some i =>
      obtain ⟨h1, h2, _⟩ := gapO_some hg
      simp only
      obtain ⟨k, hk⟩ := List.mem_iff_getElem?.1 hm
      have k1 : k ≠ i := fun e => by rw [e, h1] at hk; exact hc.ne58 (Option.some.inj hk).symm
      have k2 : k ≠ i + 1 := fun e => by rw [e, h2] at hk; exact hc.ne58 (Option.some.inj hk).symm
      by_cases hlt : k < i
      · have : c ∈ l.take i := List.mem_iff_getElem?.2 ⟨k, by rw [List.getElem?_take, if_pos hlt]; exact hk⟩
        rw [fourL_noC hc this]
      · have : c ∈ l.drop (i + 2) := List.mem_iff_getElem?.2 ⟨k - (i + 2), by rw [List.getElem?_drop, show i + 2 + (k - (i + 2)) = k from by omega]; exact hk⟩
        rw [fourL_noC hc this]
        cases fourL false (l.take i) <;> rfl
  unfold v6parse at h
  rw [hz] at h; cases h
theorem adParse_noC {c : UInt8} (hc : badC c) {l : List UInt8} (h : (adParse l).2 = true) : c ∉ l := by
  unfold adParse at h
  split at h
  · rename_i h4; exact v4parse_noC hc h4
  · split at h
    · rename_i h6; exact v6parse_noC hc h6
    · cases h
theorem adText_noC {c : UInt8} (hc : badC c) (a : Ad) (hf : a.fits) : c ∉ adText a := by
  cases h : adRight a with
  | true => exact adParse_noC hc (by rw [adParse_text a hf h])
  | false => rw [adText_bad a h]; simp
theorem decText_noC {c : UInt8} (hc : badC c) (n : Int) : c ∉ decText n := by unfold decText; split <;> simp [digs_noC hc, hc.ne45]
theorem ntText_noC {c : UInt8} (hc : badC c) (n : Nt) (hf : n.ad.fits) : c ∉ ntText n := by
  unfold ntText; split <;> simp [adText_noC hc n.ad hf, decText_noC hc, hc.ne47]
theorem baText_noC {c : UInt8} (hc : badC c) (b : Ba) (hf : b.nt.ad.fits) : c ∉ baText b := by
  cases h : baRight b with
  | false => rw [baText_bad b h]; simp
  | true =>
    rw [baText_good b h]
    have h1 := ntText_noC hc b.nt hf
    have h2 := decText_noC hc b.till
    have h3 : c ∉ untilL := fun hm => by
      unfold untilL at hm
      have := hc.1
      simp at hm
      rcases hm with rfl | rfl | rfl | rfl | rfl <;> exact absurd this (by decide)
    simp [h1, h2, h3, hc.ne32]
theorem adText_40 (a : Ad) (hf : a.fits) : (adText a).length ≤ 40 := by
  unfold adText
  split
  · split
    · exact v6text_len a.hi a.lo hf.1 hf.2
    · rename_i hr hv
      unfold adRight at hr; rw [if_neg hv] at hr
      have := v4text_len a.lo (by simp at hr; omega)
      omega
  · simp
theorem baText_99 (b : Ba) (hf : b.nt.ad.fits) : (baText b).length ≤ 99 := by
  cases h : baRight b with
  | false => rw [baText_bad b h]; simp
  | true =>
    obtain ⟨h1, h2, h3⟩ := (baRight_iff b).1 h
    have h5 := decText_len b.till (by omega) (by omega)
    have h6 : (ntText b.nt).length ≤ 62 := by
      unfold ntText; rw [if_pos h1]
      obtain ⟨_, r2, r3, _⟩ := (ntRight_iff b.nt).1 h1
      have := adBits_nn b.nt.ad
      have h4 := adText_40 b.nt.ad hf
      have h5 := decText_len b.nt.bits (by omega) (by omega)
      simp; omega
    rw [baText_good b h]; simp [untilL]; omega
end Go.Proofs.Ytdmobgdgeiiicaa
