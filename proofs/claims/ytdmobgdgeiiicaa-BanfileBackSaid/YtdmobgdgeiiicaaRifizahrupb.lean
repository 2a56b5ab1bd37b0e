/- Texts put together: AddrB. No condition. -/
import Derived.Test.YtdmobgdgeiiicaaRyvlkxkumkx
namespace Go.Proofs.Ytdmobgdgeiiicaa
open Go.RowKit

set_option maxRecDepth 100000 in
theorem adRight_any (a : Ad) (hf : a.fits) (w : World) : Calls Try.prog 50 #[.agg #[.bool a.v6, .int .u64 a.hi, .int .u64 a.lo]] w fun e w' => e = .returned (.bool (adRight a)) ∧ Below w.heap.size w w' := by
  obtain ⟨h1, h2⟩ := hf
  have h6 := right6 a
  have h4 := right4 a
  have q6 := fun W => eqlAd (adOf a.hi a.lo) a W
  have q4 : ∀ W, (binOp .eql 24 (.agg #[.bool false, .int .u64 0, .int .u64 ((a.lo : Int) % 4294967296)]) (.agg #[.bool a.v6, .int .u64 a.hi, .int .u64 a.lo])).run Try.prog W = .ok (.bool (decide (ad4 (a.lo % 4294967296) = a))) W := fun W => by
    have := eqlAd (ad4 (a.lo % 4294967296)) a W
    have e : ((ad4 (a.lo % 4294967296)).lo : Int) = (a.lo : Int) % 4294967296 := by unfold ad4; simp only; omega
    rw [e] at this; exact this
  have ha := and32_u64 a.lo h2
  have hw : IntKind.u32.wrap ((a.lo : Int) % 4294967296) = (a.lo : Int) % 4294967296 := IntWalk.u32_in _ (by omega)
  generalize hr : adRight a = r at *
  cases hv : a.v6 with
  | true =>
    rw [h6 hv] at q6
    simp only [hv] at q6
    have H6 := Lib.hid q6; clear h6 h4 q4 q6 hr
    go_enter Try.func50, Try.ntmps50
    go_wp2_with fail
    go_region_held3 (fun w' => w'.cell? ⟨w.heap.size, 0, none⟩ = some (.bool true) ∧ w'.cell? ⟨w.heap.size, 1, none⟩ = some (.int .u64 a.hi) ∧ w'.cell? ⟨w.heap.size, 2, none⟩ = some (.int .u64 a.lo)) (first | go_keep | (simp (disch := omega) [*])) (first | (go_at_call 73; refine (adV6_any a.hi a.lo h1 h2 _).mono ?_; rintro e w1 ⟨rfl, b1⟩; obtain ⟨c1, f1⟩ := bcell b1; have q6 := H6.out))
    go_wp2_with fail
    go_ret
    exact ⟨rfl, Below.trans (Below.drew ((Below.refl _ _).alloc (Nat.le_refl _) _)) (b1.mono (by simp))⟩
  | false =>
    rw [h4 hv] at q4
    simp only [hv] at q4
    have H4 := Lib.hid q4; clear h6 h4 q4 q6 hr
    go_enter Try.func50, Try.ntmps50
    go_wp2_with fail
    go_region_held3 (fun w' => w'.cell? ⟨w.heap.size, 0, none⟩ = some (.bool false) ∧ w'.cell? ⟨w.heap.size, 1, none⟩ = some (.int .u64 a.hi) ∧ w'.cell? ⟨w.heap.size, 2, none⟩ = some (.int .u64 a.lo)) (first | go_keep | (simp (disch := omega) [*])) (first | (go_at_call 72; refine (v4_any _ (by omega) (by omega) _).mono ?_; rintro e w1 ⟨rfl, b1⟩; obtain ⟨c1, f1⟩ := bcell b1; have q4 := H4.out))
    go_wp2_with fail
    go_ret
    exact ⟨rfl, Below.trans (Below.drew ((Below.refl _ _).alloc (Nat.le_refl _) _)) (b1.mono (by simp))⟩
theorem refAdRight_any (a : Ad) (hf : a.fits) (w : World) : Calls Try.prog 58 #[.agg #[.bool a.v6, .int .u64 a.hi, .int .u64 a.lo]] w fun e w' => e = .returned (.bool (adRight a)) ∧ Below w.heap.size w w' := by
  have hr : adRight a = if a.v6 = true then !(decide ((a.hi : Int) = 0 ∧ (a.lo : Int) / 4294967296 = 65535)) else decide ((a.hi : Int) = 0 ∧ (a.lo : Int) < 4294967296) := by
    unfold adRight
    have e1 : ((a.hi : Int) = 0 ∧ (a.lo : Int) / 4294967296 = 65535) ↔ (a.hi = 0 ∧ a.lo / 4294967296 = 65535) := by omega
    have e2 : ((a.hi : Int) = 0 ∧ (a.lo : Int) < 4294967296) ↔ (a.hi = 0 ∧ a.lo < 4294967296) := by omega
    simp only [e1, e2]
  have HR := Lib.hid hr; clear hr
  have hw : IntKind.u64.wrap ((a.lo : Int) / 4294967296) = (a.lo : Int) / 4294967296 := IntWalk.u64_in _ (by have := hf.2; omega)
  go_enter Try.func58, Try.ntmps58
  go_wp2_with fail
  all_goals
    go_ret
    refine ⟨?_, by go_grown⟩
    rw [HR.out]
    simp_all
    try rfl
theorem div_nat (n k : Nat) : (n : Int) / 2 ^ k = ((n / 2 ^ k : Nat) : Int) := by simp
set_option maxRecDepth 100000 in
theorem refAdBit_any (a : Ad) (hf : a.fits) (i : Int) (w : World) : Calls Try.prog 60 #[.agg #[.bool a.v6, .int .u64 a.hi, .int .u64 a.lo], .int .i64 i] w fun e w' => e = .returned (.int .i64 (adBit a i : Nat)) ∧ Below w.heap.size w w' := by
  obtain ⟨h1, h2⟩ := hf
  obtain ⟨r, hr⟩ : ∃ r, r = adBit a i := ⟨_, rfl⟩
  rw [← hr]
  unfold adBit at hr
  have hb := refAdBits_any a
  unfold adBits at hr hb
  cases hv : a.v6 with
  | true =>
    rw [hv] at hr hb
    simp only [if_true, if_false, Bool.false_eq_true] at hr hb
    by_cases h0 : i < 0
    · rw [if_pos (Or.inl h0)] at hr
      subst hr
      have HB := Lib.hid hb; clear hb
      go_enter Try.func60, Try.ntmps60
      go_wp2_with (go_at_call 59; refine (HB.out _).mono ?_; rintro e w1 ⟨rfl, b1⟩; obtain ⟨c1, f1⟩ := bcell b1)
      all_goals
        go_ret
        exact ⟨rfl, by first | exact Below.trans ((Below.refl _ _).alloc (Nat.le_refl _) _) (b1.mono (by simp)) | go_grown⟩
    by_cases h8 : (128 : Int) ≤ i
    · rw [if_pos (Or.inr h8)] at hr
      subst hr
      have HB := Lib.hid hb; clear hb
      go_enter Try.func60, Try.ntmps60
      go_wp2_with (go_at_call 59; refine (HB.out _).mono ?_; rintro e w1 ⟨rfl, b1⟩; obtain ⟨c1, f1⟩ := bcell b1)
      all_goals
        go_ret
        exact ⟨rfl, by first | exact Below.trans ((Below.refl _ _).alloc (Nat.le_refl _) _) (b1.mono (by simp)) | go_grown⟩
    rw [if_neg (by omega)] at hr
    obtain ⟨k, rfl⟩ : ∃ k : Nat, i = k := ⟨i.toNat, by omega⟩
    rw [Int.toNat_natCast] at hr
    by_cases h6 : (k : Int) < 64
    · rw [if_pos h6] at hr
      have hm : (k : Int) % 64 = k := by omega
      have hd := div_nat a.hi (63 - k)
      have hl := Nat.div_le_self a.hi (2 ^ (63 - k))
      generalize a.hi / 2 ^ (63 - k) = m at *
      have ha := and1_u64 m (by omega)
      have hs0 : (63 - (k : Int)).toNat = 63 - k := by omega
      have qa0 : (0 : Int) ≤ 63 - (k : Int) := by omega
      have qb0 : 63 - (k : Int) ≤ 64 := by omega
      have hw : IntKind.u64.wrap (63 - (k : Int)) = 63 - (k : Int) := IntWalk.u64_in _ (by omega)
      have HB := Lib.hid hb; have HR := Lib.hid hr; clear hb hr
      go_enter Try.func60, Try.ntmps60
      go_wp2_with (go_at_call 59; refine (HB.out _).mono ?_; rintro e w1 ⟨rfl, b1⟩; obtain ⟨c1, f1⟩ := bcell b1)
      go_ret
      refine ⟨ret_int (by rw [HR.out]; omega), by first | exact Below.trans ((Below.refl _ _).alloc (Nat.le_refl _) _) (b1.mono (by simp)) | go_grown⟩
    · rw [if_neg h6] at hr
      have hm : (k : Int) % 64 = (k : Int) - 64 := by omega
      have hd := div_nat a.lo (127 - k)
      have hl := Nat.div_le_self a.lo (2 ^ (127 - k))
      generalize a.lo / 2 ^ (127 - k) = m at *
      have ha := and1_u64 m (by omega)
      have hs0 : (63 - ((k : Int) - 64)).toNat = 127 - k := by omega
      have qa0 : (0 : Int) ≤ 63 - ((k : Int) - 64) := by omega
      have qb0 : 63 - ((k : Int) - 64) ≤ 64 := by omega
      have hw : IntKind.u64.wrap (63 - ((k : Int) - 64)) = 63 - ((k : Int) - 64) := IntWalk.u64_in _ (by omega)
      have HB := Lib.hid hb; have HR := Lib.hid hr; clear hb hr
      go_enter Try.func60, Try.ntmps60
      go_wp2_with (go_at_call 59; refine (HB.out _).mono ?_; rintro e w1 ⟨rfl, b1⟩; obtain ⟨c1, f1⟩ := bcell b1)
      go_ret
      refine ⟨ret_int (by rw [HR.out]; omega), by first | exact Below.trans ((Below.refl _ _).alloc (Nat.le_refl _) _) (b1.mono (by simp)) | go_grown⟩
  | false =>
    rw [hv] at hr hb
    simp only [if_true, if_false, Bool.false_eq_true] at hr hb
    by_cases h0 : i < 0
    · rw [if_pos (Or.inl h0)] at hr
      subst hr
      have HB := Lib.hid hb; clear hb
      go_enter Try.func60, Try.ntmps60
      go_wp2_with (go_at_call 59; refine (HB.out _).mono ?_; rintro e w1 ⟨rfl, b1⟩; obtain ⟨c1, f1⟩ := bcell b1)
      all_goals
        go_ret
        exact ⟨rfl, by first | exact Below.trans ((Below.refl _ _).alloc (Nat.le_refl _) _) (b1.mono (by simp)) | go_grown⟩
    by_cases h8 : (32 : Int) ≤ i
    · rw [if_pos (Or.inr h8)] at hr
      subst hr
      have HB := Lib.hid hb; clear hb
      go_enter Try.func60, Try.ntmps60
      go_wp2_with (go_at_call 59; refine (HB.out _).mono ?_; rintro e w1 ⟨rfl, b1⟩; obtain ⟨c1, f1⟩ := bcell b1)
      all_goals
        go_ret
        exact ⟨rfl, by first | exact Below.trans ((Below.refl _ _).alloc (Nat.le_refl _) _) (b1.mono (by simp)) | go_grown⟩
    rw [if_neg (by omega)] at hr
    obtain ⟨k, rfl⟩ : ∃ k : Nat, i = k := ⟨i.toNat, by omega⟩
    rw [Int.toNat_natCast] at hr
    have hd := div_nat a.lo (31 - k)
    have hl := Nat.div_le_self a.lo (2 ^ (31 - k))
    generalize a.lo / 2 ^ (31 - k) = m at *
    have ha := and1_u64 m (by omega)
    have hs0 : (31 - (k : Int)).toNat = 31 - k := by omega
    have qa0 : (0 : Int) ≤ 31 - (k : Int) := by omega
    have qb0 : 31 - (k : Int) ≤ 64 := by omega
    have hw : IntKind.u64.wrap (31 - (k : Int)) = 31 - (k : Int) := IntWalk.u64_in _ (by omega)
    have HB := Lib.hid hb; have HR := Lib.hid hr; clear hb hr
    go_enter Try.func60, Try.ntmps60
    go_wp2_with (go_at_call 59; refine (HB.out _).mono ?_; rintro e w1 ⟨rfl, b1⟩; obtain ⟨c1, f1⟩ := bcell b1)
    go_ret
    refine ⟨ret_int (by rw [HR.out]; omega), by first | exact Below.trans ((Below.refl _ _).alloc (Nat.le_refl _) _) (b1.mono (by simp)) | go_grown⟩
end Go.Proofs.Ytdmobgdgeiiicaa
