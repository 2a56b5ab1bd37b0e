/- The laws of code hold: for every argument each returns true. No condition. -/
import Derived.Test.YtppmjbnhghaffaaCode
namespace Go.Proofs.Ytppmjbnhghaffaa
open Go.RowKit

theorem awake32_any (w : World) : Calls Try.prog 25 #[] w fun e w' => e = .returned (.bool true) ∧ Below w.heap.size w w' := by
  have h1 := Lib.hid (fun w => codeErr_any 5 w)
  have h2 := Lib.hid (fun w => codeCall_any 6 w)
  have h3 := Lib.hid (fun w => codeKind_any [108, 101, 97, 114, 110] w)
  have h4 := Lib.hid (fun w => codeOp_any 7 w)
  have h5 := Lib.hid (fun w => codeLoc_any 6 w)
  have e1 : ((bs (nameAt errN 5)).toList == [102, 117, 108, 108]) = true := by decide +kernel
  have e2 : ((bs (nameAt callN 6)).toList == [98, 97, 110]) = true := by decide +kernel
  have e3 : (kindOf [108, 101, 97, 114, 110] == 13) = true := by decide +kernel
  have e4 : ((bs (nameAt opN 7)).toList == [115, 119, 97, 112]) = true := by decide +kernel
  have e5 : ((bs (nameAt locN 6)).toList == [115, 108, 111, 116]) = true := by decide +kernel
  go_enter Try.func25, Try.ntmps25
  go_wp2_with (first | (go_at_call 15; refine (h1.out _).mono ?_; rintro e w1 ⟨rfl, b1⟩) | (go_at_call 17; refine (h2.out _).mono ?_; rintro e w2 ⟨rfl, b2⟩) | (go_at_call 19; refine (h3.out _).mono ?_; rintro e w3 ⟨rfl, b3⟩) | (go_at_call 21; refine (h4.out _).mono ?_; rintro e w4 ⟨rfl, b4⟩) | (go_at_call 23; refine (h5.out _).mono ?_; rintro e w5 ⟨rfl, b5⟩))
  go_ret
  exact ⟨rfl, below2 (below2 (below2 (below2 b1 b2) b3) b4) b5⟩
theorem codeTells_any (n : Int) (s : ByteArray) (w : World) : Calls Try.prog 3 #[.int .i64 n, .string s] w fun e w' => e = .returned (.bool true) ∧ Below w.heap.size w w' := by
  obtain ⟨s, rfl⟩ : ∃ l, s = bs l := ⟨_, (bs_of s).symm⟩
  go_enter Try.func3, Try.ntmps3
  go_wp2_with (first | (go_at_call 15; refine (codeErr_any n _).mono ?_; rintro e w1 ⟨rfl, b1⟩) | (go_at_call 17; refine (codeCall_any n _).mono ?_; rintro e w2 ⟨rfl, b2⟩) | (go_at_call 19; refine (codeKind_any s _).mono ?_; rintro e w3 ⟨rfl, b3⟩) | (go_at_call 21; refine (codeOp_any n _).mono ?_; rintro e w4 ⟨rfl, b4⟩) | (go_at_call 23; refine (codeLoc_any n _).mono ?_; rintro e w5 ⟨rfl, b5⟩) | (go_at_call 16; refine (refErr_any n _).mono ?_; rintro e w' ⟨rfl, rfl⟩) | (go_at_call 18; refine (refCall_any n _).mono ?_; rintro e w' ⟨rfl, rfl⟩) | (go_at_call 20; refine (refKind_any s _).mono ?_; rintro e w' ⟨rfl, rfl⟩) | (go_at_call 22; refine (refOp_any n _).mono ?_; rintro e w' ⟨rfl, rfl⟩) | (go_at_call 24; refine (refLoc_any n _).mono ?_; rintro e w' ⟨rfl, rfl⟩) | (go_at_call 25; refine (awake32_any _).mono ?_; rintro e w6 ⟨rfl, b6⟩))
  go_ret
  exact ⟨rfl, below2 (below2 (below2 (below2 (below2 b1 b2) b3) b4) b5) b6⟩
theorem nameAt_call {k : Nat} (h : k < 14) : nameAt callN (k : Int) = callN[k]'h := nameAt_in (by omega) (by rw [Int.toNat_natCast]; exact List.getElem?_eq_getElem _)
theorem call_empty (a : Int) : ((bs (nameAt callN a)).toList == []) = !decide (1 ≤ a ∧ a ≤ 13) := by
  rw [bs_toL, Bool.eq_iff_iff]
  simp only [beq_iff_eq, Bool.not_eq_true', decide_eq_false_iff_not]
  by_cases h0 : a < 0
  · rw [nameAt_lo h0]; simp; omega
  by_cases h1 : (14 : Int) ≤ a
  · rw [nameAt_hi h1]; simp; omega
  obtain ⟨k, rfl⟩ := Int.eq_ofNat_of_zero_le (by omega : 0 ≤ a)
  rw [nameAt_call (by omega)]
  have := name_nil ⟨k, by omega⟩
  simp only at this
  rw [this]; omega
theorem call_kind (a : Int) (h0 : 1 ≤ a) (h1 : a ≤ 13) : kindOf (nameAt callN a) = a := by
  obtain ⟨k, rfl⟩ := Int.eq_ofNat_of_zero_le (by omega : 0 ≤ a)
  rw [nameAt_call (by omega)]
  exact kind_of_name ⟨k, by omega⟩
theorem call_inj (a b : Int) (h0 : 1 ≤ a) (h1 : a ≤ 13) (hb : a ≠ b) : ((bs (nameAt callN a)).toList == (bs (nameAt callN b)).toList) = false := by
  rw [bs_toL, bs_toL, beq_eq_false_iff_ne]
  intro e
  by_cases h2 : 1 ≤ b ∧ b ≤ 13
  · have := call_kind a h0 h1
    rw [e, call_kind b h2.1 h2.2] at this; exact hb this.symm
  · have ha := call_empty a; have hb := call_empty b
    rw [bs_toL] at ha hb
    rw [e, hb] at ha
    simp only [Bool.not_inj_iff, decide_eq_decide] at ha
    omega
theorem call_isE (a : Int) : (bs (nameAt callN a)).toList.isEmpty = !decide (1 ≤ a ∧ a ≤ 13) := by
  rw [← call_empty]; cases (bs (nameAt callN a)).toList <;> rfl
theorem codeBack_no (a b : Int) (h0 : 1 ≤ a) (h1 : a ≤ 13) (_h : kindOf (nameAt callN a) = a) (hb : ¬ a = b) (he : (bs (nameAt callN a)).toList = (bs (nameAt callN b)).toList) : False := by
  have := call_inj a b h0 h1 hb; rw [he] at this; simp at this
theorem codeBack_no2 (a : Int) (h0 : 1 ≤ a) (h1 : a ≤ 13) (h : ¬ kindOf (nameAt callN a) = a) : False := h (call_kind a h0 h1)
theorem codeBack_no3 (a : Int) (h0 : 1 ≤ a) (h : ¬ (!(bs (nameAt callN a)).toList.isEmpty) = decide (a ≤ 13)) : False := by
  apply h; rw [call_isE, Bool.not_not]; simp [h0]
theorem codeBack_no4 (a : Int) (h0 : a < 1) (h : (bs (nameAt callN a)).toList.isEmpty = false) : False := by
  rw [call_isE] at h; simp at h; omega
theorem codeBack_any (a b : Int) (w : World) : Calls Try.prog 4 #[.int .i64 a, .int .i64 b] w fun e w' => e = .returned (.bool true) ∧ Below w.heap.size w w' := by
  go_enter Try.func4, Try.ntmps4
  go_wp2_with (first | (go_at_call 17; refine (codeCall_any _ _).mono ?_; rintro e w2 ⟨rfl, b2⟩) | (go_at_call 19; refine (codeKind_any _ _).mono ?_; rintro e w3 ⟨rfl, b3⟩) | (go_at_call 25; refine (awake32_any _).mono ?_; rintro e w6 ⟨rfl, b6⟩))
  all_goals first
    | (go_ret; refine ⟨rfl, ?_⟩; repeat (first | assumption | exact Below.refl _ _ | refine below2 ?_ (by assumption)))
    | (exfalso; exact codeBack_no a b (by assumption) (by assumption) (by assumption) (by assumption) (by assumption))
    | (exfalso; exact codeBack_no2 a (by assumption) (by assumption) (by assumption))
    | (exfalso; exact codeBack_no3 a (by assumption) (by assumption))
    | (exfalso; exact codeBack_no4 a (by assumption) (by assumption))
end Go.Proofs.Ytppmjbnhghaffaa
