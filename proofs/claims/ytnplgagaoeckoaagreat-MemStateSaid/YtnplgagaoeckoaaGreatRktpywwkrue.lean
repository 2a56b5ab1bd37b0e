/- Texts put together: Dec, NetA. No condition. -/
import Derived.Test.YtnplgagaoeckoaaGreatRnwkkgscqya
import Derived.Test.YtnplgagaoeckoaaGreatRows
import Derived.WalkKit
import Derived.WalkSpells
import Derived.WalkLawsBesides
import Derived.BigGuardPart
import Derived.BigQuiet
import Derived.Deep.QuietTactic
import Derived.Deep.Light
import Derived.Lib.Strings
import Derived.Test.YtnplgagaoeckoaaGreatRqhixicnkoi
import Derived.Handy
namespace Go.Proofs.YtnplgagaoeckoaaGreat
open Go.RowKit
attribute [local go_sem] w64_byte w64_byte_sub

/-! ### the reference's readers -/
end Go.Proofs.YtnplgagaoeckoaaGreat
namespace Go.Proofs.YtnplgagaoeckoaaGreat
open Go.RowKit

def revSt (x s m : Int) : Int := bits .or .u64 (bits .and .u64 (x / s) m) (IntKind.u64.wrap (bits .and .u64 x m * s))
def rev8 (x : Int) : Int := revSt (revSt (revSt x 2 6148914691236517205) 4 3689348814741910323) 16 1085102592571150095
def revB (x : Int) : Int := revSt (revSt x 256 71777214294589695) 65536 281470681808895
def rev64 (x : Int) : Int := bits .or .u64 (revB (rev8 x) / 4294967296) (IntKind.u64.wrap (revB (rev8 x) * 4294967296))
theorem revB_any (x : Int) (w : World) : Calls Tryz.prog 141 #[.int .u64 x] w fun e w' => e = .returned (.int .u64 (bits .or .u64 (revB x / 4294967296) (IntKind.u64.wrap (revB x * 4294967296)))) ∧ w = w' := by
  go_enter Tryz.func141, Tryz.ntmps141
  go_wp2_with fail
  go_ret
  exact ⟨rfl, rfl⟩
theorem rev64_any (x : Int) (w : World) : Calls Tryz.prog 138 #[.int .u64 x] w fun e w' => e = .returned (.int .u64 (rev64 x)) ∧ w = w' := by
  go_enter Tryz.func138, Tryz.ntmps138
  go_wp2_with (go_at_call 141; refine (revB_any _ _).mono ?_; rintro e w1 ⟨rfl, rfl⟩)
  go_ret
  exact ⟨rfl, rfl⟩
theorem rev64_top : ∀ n : Fin 65, rev64 (2 ^ n.val - 1) = topN n.val := by decide +kernel
theorem top_wrap : ∀ n : Fin 65, IntKind.u64.wrap (IntKind.u64.wrap ((2 : Int) ^ n.val) - 1) = 2 ^ n.val - 1 := by decide +kernel
/-- the count of bits, held between 0 and 64 -/
def clamp64 (n : Int) : Nat := (min (max n 0) 64).toNat
theorem clamp64_le (n : Int) : clamp64 n ≤ 64 := by unfold clamp64; omega
theorem top_any (n : Int) (w : World) : Calls Tryz.prog 132 #[.int .i64 n] w fun e w' => e = .returned (.int .u64 (topN (clamp64 n))) ∧ w = w' := by
  rcases Int.lt_or_le n 0 with h0 | h0
  · have hk : clamp64 n = 0 := by unfold clamp64; omega
    have hr : rev64 0 = (topN 0 : Nat) := rev64_top ⟨0, by omega⟩
    have hw : IntKind.u64.wrap (IntKind.u64.wrap 1 - 1) = 0 := by decide +kernel
    rw [hk]
    go_enter Tryz.func132, Tryz.ntmps132
    go_wp2_with (go_at_call 138; refine (rev64_any _ _).mono ?_; rintro e w1 ⟨rfl, rfl⟩)
    all_goals
      go_ret
      exact ⟨rfl, rfl⟩
  rcases Int.lt_or_le 64 n with h1 | h1
  · have hk : clamp64 n = 64 := by unfold clamp64; omega
    have hr : rev64 18446744073709551615 = (topN 64 : Nat) := rev64_top ⟨64, by omega⟩
    have hw : IntKind.u64.wrap (IntKind.u64.wrap 18446744073709551616 - 1) = 18446744073709551615 := by decide +kernel
    rw [hk]
    go_enter Tryz.func132, Tryz.ntmps132
    go_wp2_with (go_at_call 138; refine (rev64_any _ _).mono ?_; rintro e w1 ⟨rfl, rfl⟩)
    all_goals
      go_ret
      exact ⟨rfl, rfl⟩
  have hk : clamp64 n = n.toNat := by unfold clamp64; omega
  have hr := rev64_top ⟨n.toNat, by omega⟩
  have hw := top_wrap ⟨n.toNat, by omega⟩
  simp only at hr hw
  rw [hk]
  go_enter Tryz.func132, Tryz.ntmps132
  go_wp2_with (go_at_call 138; refine (rev64_any _ _).mono ?_; rintro e w1 ⟨rfl, rfl⟩)
  all_goals
    go_ret
    exact ⟨rfl, rfl⟩
/-- one number's first bits -/
theorem and_top_int (x : Nat) (n : Int) (hx : x < 18446744073709551616) : bits .and .u64 (x : Int) (topN (clamp64 n) : Nat) = (cutW 64 x (clamp64 n) : Nat) := by
  rw [bits_and_u64_nat x _ hx (topN_lt _), and_top x _ hx (clamp64_le n)]
theorem cutW_clamp (x : Nat) (n : Int) : cutW 64 x (clamp64 n) = cutW 64 x n.toNat := by
  by_cases h : n ≤ 64
  · rw [show clamp64 n = n.toNat from by unfold clamp64; omega]
  · rw [cutW_all 64 x _ (show 64 ≤ clamp64 n from by unfold clamp64; omega), cutW_all 64 x _ (by omega)]
theorem masked_any (hi lo : Nat) (n : Int) (h1 : hi < 18446744073709551616) (h2 : lo < 18446744073709551616) (h3 : 0 ≤ n) (h4 : n ≤ 128) (w : World) : Calls Tryz.prog 133 #[.int .u64 hi, .int .u64 lo, .int .i64 n] w fun e w' => e = .returned (.tuple #[.int .u64 (cutW 64 hi n.toNat : Nat), .int .u64 (cutW 64 lo (n.toNat - 64) : Nat)]) ∧ w = w' := by
  have e1 := and_top_int hi n h1
  have e2 := and_top_int lo (n - 64) h2
  rw [cutW_clamp] at e1 e2
  rw [show (n - 64).toNat = n.toNat - 64 from by omega] at e2
  go_enter Tryz.func133, Tryz.ntmps133
  go_wp2_with (go_at_call 132; refine (top_any _ _).mono ?_; rintro e w1 ⟨rfl, rfl⟩)
  refine bodyPost_ret (v := .tuple #[.int .u64 (cutW 64 hi n.toNat : Nat), .int .u64 (cutW 64 lo (n.toNat - 64) : Nat)]) (by simp [results, Tryz.results133, go_sem]) rfl ⟨rfl, rfl⟩
end Go.Proofs.YtnplgagaoeckoaaGreat
