/- Texts put together: Dec, NetA, NetB. No condition. -/
import Derived.Test.YtnplgagaoeckoaaGreatRfnolrsgeod
import Derived.Test.YtnplgagaoeckoaaGreatRows
import Derived.WalkKit
import Derived.WalkSpells
import Derived.WalkLawsBesides
import Derived.BigGuardPart
import Derived.BigQuiet
import Derived.Deep.QuietTactic
import Derived.Deep.Light
import Derived.Lib.Strings
import Derived.Test.YtnplgagaoeckoaaGreatRrjxbgxemzo
import Derived.Handy
set_option maxRecDepth 100000
set_option linter.unusedSimpArgs false
set_option linter.unusedVariables false
namespace Go.Proofs.YtnplgagaoeckoaaGreat
open Go.RowKit
attribute [local go_sem] w64_byte w64_byte_sub

/-! ### the reference's readers -/
def revSt (x s m : Int) : Int := bits .or .u64 (bits .and .u64 (x / s) m) (IntKind.u64.wrap (bits .and .u64 x m * s))
def rev8 (x : Int) : Int := revSt (revSt (revSt x 2 6148914691236517205) 4 3689348814741910323) 16 1085102592571150095
def revB (x : Int) : Int := revSt (revSt x 256 71777214294589695) 65536 281470681808895
def rev64 (x : Int) : Int := bits .or .u64 (revB (rev8 x) / 4294967296) (IntKind.u64.wrap (revB (rev8 x) * 4294967296))
theorem revB_any (x : Int) (w : World) : Calls Tryz.prog 141 #[.int .u64 x] w fun e w' => e = .returned (.int .u64 (bits .or .u64 (revB x / 4294967296) (IntKind.u64.wrap (revB x * 4294967296)))) ∧ w = w' := by
 go_enter Tryz.func141, Tryz.ntmps141
 go_wp2_with fail
 go_ret
 exact ⟨rfl, rfl⟩
theorem rev64_any (x : Int) (w : World) : Calls Tryz.prog 138 #[.int .u64 x] w fun e w' => e = .returned (.int .u64 (rev64 x)) ∧ w = w' := by
 go_enter Tryz.func138, Tryz.ntmps138
 go_wp2_with (go_at_call 141; refine (revB_any _ _).mono ?_; rintro e w1 ⟨rfl, rfl⟩)
 go_ret
 exact ⟨rfl, rfl⟩
theorem rev64_top : ∀ n : Fin 65, rev64 (2 ^ n.val - 1) = topN n.val := by decide +kernel
theorem top_wrap : ∀ n : Fin 65, IntKind.u64.wrap (IntKind.u64.wrap ((2 : Int) ^ n.val) - 1) = 2 ^ n.val - 1 := by decide +kernel
/-- the count of bits, held between 0 and 64 -/
def clamp64 (n : Int) : Nat := (min (max n 0) 64).toNat
theorem clamp64_le (n : Int) : clamp64 n ≤ 64 := by unfold clamp64; omega
theorem top_any (n : Int) (w : World) : Calls Tryz.prog 132 #[.int .i64 n] w fun e w' => e = .returned (.int .u64 (topN (clamp64 n))) ∧ w = w' := by
 rcases Int.lt_or_le n 0 with h0 | h0
 ·have hk : clamp64 n = 0 := by unfold clamp64; omega
  have hr : rev64 0 = (topN 0 : Nat) := rev64_top ⟨0, by omega⟩
  have hw : IntKind.u64.wrap (IntKind.u64.wrap 1 - 1) = 0 := by decide +kernel
  rw [hk]
  go_enter Tryz.func132, Tryz.ntmps132
  go_wp2_with (go_at_call 138; refine (rev64_any _ _).mono ?_; rintro e w1 ⟨rfl, rfl⟩)
  all_goals
   go_ret
   exact ⟨rfl, rfl⟩
 rcases Int.lt_or_le 64 n with h1 | h1
 ·have hk : clamp64 n = 64 := by unfold clamp64; omega
  have hr : rev64 18446744073709551615 = (topN 64 : Nat) := rev64_top ⟨64, by omega⟩
  have hw : IntKind.u64.wrap (IntKind.u64.wrap 18446744073709551616 - 1) = 18446744073709551615 := by decide +kernel
  rw [hk]
  go_enter Tryz.func132, Tryz.ntmps132
  go_wp2_with (go_at_call 138; refine (rev64_any _ _).mono ?_; rintro e w1 ⟨rfl, rfl⟩)
  all_goals
   go_ret
   exact ⟨rfl, rfl⟩
 have hk : clamp64 n = n.toNat := by unfold clamp64; omega
 have hr := rev64_top ⟨n.toNat, by omega⟩
 have hw := top_wrap ⟨n.toNat, by omega⟩
 simp only at hr hw
 rw [hk]
 go_enter Tryz.func132, Tryz.ntmps132
 go_wp2_with (go_at_call 138; refine (rev64_any _ _).mono ?_; rintro e w1 ⟨rfl, rfl⟩)
 all_goals
  go_ret
  exact ⟨rfl, rfl⟩
/-- one number's first bits -/
theorem and_top_int (x : Nat) (n : Int) (hx : x < 18446744073709551616) : bits .and .u64 (x : Int) (topN (clamp64 n) : Nat) = (cutW 64 x (clamp64 n) : Nat) := by
 rw [bits_and_u64_nat x _ hx (topN_lt _), and_top x _ hx (clamp64_le n)]
theorem cutW_clamp (x : Nat) (n : Int) : cutW 64 x (clamp64 n) = cutW 64 x n.toNat := by
 by_cases h : n ≤ 64
 ·rw [show clamp64 n = n.toNat from by unfold clamp64; omega]
 ·rw [cutW_all 64 x _ (show 64 ≤ clamp64 n from by unfold clamp64; omega), cutW_all 64 x _ (by omega)]
theorem masked_any (hi lo : Nat) (n : Int) (h1 : hi < 18446744073709551616) (h2 : lo < 18446744073709551616) (h3 : 0 ≤ n) (h4 : n ≤ 128) (w : World) : Calls Tryz.prog 133 #[.int .u64 hi, .int .u64 lo, .int .i64 n] w fun e w' => e = .returned (.tuple #[.int .u64 (cutW 64 hi n.toNat : Nat), .int .u64 (cutW 64 lo (n.toNat - 64) : Nat)]) ∧ w = w' := by
 have e1 := and_top_int hi n h1
 have e2 := and_top_int lo (n - 64) h2
 rw [cutW_clamp] at e1 e2
 rw [show (n - 64).toNat = n.toNat - 64 from by omega] at e2
 go_enter Tryz.func133, Tryz.ntmps133
 go_wp2_with (go_at_call 132; refine (top_any _ _).mono ?_; rintro e w1 ⟨rfl, rfl⟩)
 refine bodyPost_ret (v := .tuple #[.int .u64 (cutW 64 hi n.toNat : Nat), .int .u64 (cutW 64 lo (n.toNat - 64) : Nat)]) (by simp [results, Tryz.results133, go_sem]) rfl ⟨rfl, rfl⟩
theorem half_pow (k : Nat) (h : k < 64) : 9223372036854775808 / 2 ^ k = 2 ^ (63 - k) := by
 have e : (9223372036854775808 : Nat) = 2 ^ (63 - k) * 2 ^ k := by rw [← Nat.pow_add, show 63 - k + k = 63 from by omega]
 rw [e, Nat.mul_div_cancel _ (Nat.two_pow_pos _)]
theorem half_step (k : Nat) : 9223372036854775808 / 2 ^ (k + 1) = 9223372036854775808 / 2 ^ k / 2 := by rw [Nat.pow_succ, Nat.div_div_eq_div_mul]
theorem cutW_min (x n : Nat) : cutW 64 x (min 64 n) = cutW 64 x n := by
 by_cases h : n ≤ 64
 ·rw [show min 64 n = n from by omega]
 ·rw [cutW_all 64 x n (by omega), cutW_all 64 x _ (by omega)]
theorem cut_step (x k n : Nat) (h : k < 64) : cutW 64 x (min (k + 1) n) = if k < n ∧ x / 2 ^ (63 - k) % 2 = 1 then cutW 64 x (min k n) + 2 ^ (63 - k) else cutW 64 x (min k n) := by
 by_cases hn : k < n
 ·rw [show min (k + 1) n = k + 1 from by omega, show min k n = k from by omega, cutW_succ 64 x k h]
  show _ + x / 2 ^ (63 - k) % 2 * 2 ^ (63 - k) = _
  by_cases hb : x / 2 ^ (63 - k) % 2 = 1
  ·rw [if_pos ⟨hn, hb⟩, hb, Nat.one_mul]
  ·rw [if_neg (fun c => hb c.2), show x / 2 ^ (63 - k) % 2 = 0 from by omega]; simp
 ·rw [if_neg (fun c => hn c.1), show min (k + 1) n = min k n from by omega]
theorem refCut_any (hi lo : Nat) (n : Nat) (h1 : hi < 18446744073709551616) (h2 : lo < 18446744073709551616) (h4 : n ≤ 128) (w : World) : Calls Tryz.prog 134 #[.int .u64 hi, .int .u64 lo, .int .i64 n] w fun e w' => e = .returned (.tuple #[.int .u64 (cutW 64 hi n : Nat), .int .u64 (cutW 64 lo (n - 64) : Nat)]) ∧ w = w' := by
 go_enter Tryz.func134, Tryz.ntmps134
 go_wp2_with fail
 go_loopw [8, 9, 10, 11] (fun x y z v wr => ∃ k : Nat, v = .int .i64 k ∧ k ≤ 64 ∧ x = .int .u64 (cutW 64 hi (min k n) : Nat) ∧ y = .int .u64 (cutW 64 lo (min k (n - 64)) : Nat) ∧ z = .int .u64 (9223372036854775808 / 2 ^ k : Nat) ∧ w = wr) (fun _ _ _ v _ => 64 - (intOf v).toNat)
 case atStart => exact ⟨0, rfl, by omega, by rw [Nat.zero_min, cutW_none 64 hi (by omega)]; rfl, by rw [Nat.zero_min, cutW_none 64 lo (by omega)]; rfl, rfl, rfl⟩
 case round =>
  obtain ⟨k, rfl, hk, rfl, rfl, rfl, rfl⟩ := hrel
  by_cases hk64 : k < 64
  ·have hki : (k : Int) < 64 := by omega
   have hp := half_pow k (by omega)
   have hs := half_step k
   have ca := cut_step hi k n (by omega)
   have cb := cut_step lo k (n - 64) (by omega)
   have la := cutW_le 64 hi (min k n)
   have lb := cutW_le 64 lo (min k (n - 64))
   have la2 := cutW_le 64 hi (min (k + 1) n)
   have lb2 := cutW_le 64 lo (min (k + 1) (n - 64))
   rw [← hp] at ca cb
   have hp0 : 0 < 9223372036854775808 / 2 ^ k := by rw [hp]; exact Nat.two_pow_pos _
   have hpl : 9223372036854775808 / 2 ^ k ≤ 9223372036854775808 := Nat.div_le_self _ _
   obtain ⟨A', hA'⟩ : ∃ A', A' = cutW 64 hi (min (k + 1) n) := ⟨_, rfl⟩
   obtain ⟨B', hB'⟩ : ∃ B', B' = cutW 64 lo (min (k + 1) (n - 64)) := ⟨_, rfl⟩
   obtain ⟨p', hp'⟩ : ∃ p', p' = 9223372036854775808 / 2 ^ (k + 1) := ⟨_, rfl⟩
   rw [← hA'] at ca la2
   rw [← hB'] at cb lb2
   rw [← hp'] at hs
   obtain ⟨HA, HB, HP⟩ := zh3 hA' hB' hp'; clear hA' hB' hp'
   generalize cutW 64 hi (min k n) = A at *
   generalize cutW 64 lo (min k (n - 64)) = B at *
   generalize 9223372036854775808 / 2 ^ k = p at *
   have dl1 := Nat.div_le_self hi p
   have dl2 := Nat.div_le_self lo p
   have e1 : (hi : Int) / p = (hi / p : Nat) := by simp
   have e2 : (lo : Int) / p = (lo / p : Nat) := by simp
   generalize hi / p = x at *
   generalize lo / p = y at *
   have hp1 : (p : Int) ≠ 0 := by omega
   have hp2 : (0 : Int) < p := by omega
   have hp3 : (p : Int) < 18446744073709551616 := by omega
   have x3 : (x : Int) < 18446744073709551616 := by omega
   have y3 : (y : Int) < 18446744073709551616 := by omega
   obtain ⟨CA, CB, HS⟩ := zh3 ca cb hs
   clear hp dl1 dl2 ca cb hs
   rcases Int.lt_or_le (k : Int) n with hn | hn <;> rcases Int.lt_or_le ((k : Int) + 64) n with hm | hm <;> cases hb : ((x : Int) % 2 == 1) <;> cases hy : ((y : Int) % 2 == 1)
   all_goals first | (exfalso; omega; done) | skip
   all_goals first | (have hn2 : decide (k < n) = true := decide_eq_true (by omega)) | (have hn2 : decide (k < n) = false := decide_eq_false (by omega))
   all_goals first | (have hm2 : decide (k + 64 < n) = true := decide_eq_true (by omega)) | (have hm2 : decide (k + 64 < n) = false := decide_eq_false (by omega))
   all_goals first | (have hm3 : decide ((k : Int) + 64 < n) = true := decide_eq_true (by omega)) | (have hm3 : decide ((k : Int) + 64 < n) = false := decide_eq_false (by omega))
   all_goals
    have xb := hb
    have yb := hy
    first | rw [beq_iff_eq] at xb | rw [beq_eq_false_iff_ne] at xb
    first | rw [beq_iff_eq] at yb | rw [beq_eq_false_iff_ne] at yb
    have ca := CA.out
    have cb := CB.out
    have hs := HS.out
    first | rw [if_pos (by omega)] at ca | rw [if_neg (by omega)] at ca
    first | rw [if_pos (by omega)] at cb | rw [if_neg (by omega)] at cb
    have ba : (A' : Int) < 18446744073709551616 := by omega
    have bb : (B' : Int) < 18446744073709551616 := by omega
    have ea : (A' : Int) = A + p ∨ A' = A := by omega
    have eb : (B' : Int) = B + p ∨ B' = B := by omega
    have ep : (p' : Int) = p / 2 := by omega
    obtain ⟨HEA, HEB, HEP, HXB, HYB⟩ := zh5 ca cb ep xb yb
    clear ca cb hs ea eb ep xb yb
   all_goals go_wp2_with fail
   all_goals go_roundw
   all_goals first | (case measure => simp [intOf]; omega) | skip
   all_goals
    have HEA := HEA.out
    have HEB := HEB.out
    have HEP := HEP.out
    refine ⟨k + 1, by go_num, by omega, ?_, ?_, ?_, trivial⟩
    ·rw [← HA.out]; exact congrArg (Value.int .u64) (by first | omega | (rw [IntWalk.u64_in _ (by omega)]; omega))
    ·rw [← HB.out]; exact congrArg (Value.int .u64) (by first | omega | (rw [IntWalk.u64_in _ (by omega)]; omega))
    ·rw [← HP.out]; exact congrArg (Value.int .u64) (by first | omega | (rw [IntWalk.u64_in _ (by omega)]; omega))
  ·obtain rfl : k = 64 := by omega
   rw [cutW_min, cutW_min]
   generalize 9223372036854775808 / 2 ^ 64 = q
   go_wp2_with fail
   refine bodyPost_ret (v := .tuple #[.int .u64 (cutW 64 hi n : Nat), .int .u64 (cutW 64 lo (n - 64) : Nat)]) (by simp [results, Tryz.results134, go_sem]) rfl ⟨rfl, rfl⟩
end Go.Proofs.YtnplgagaoeckoaaGreat
