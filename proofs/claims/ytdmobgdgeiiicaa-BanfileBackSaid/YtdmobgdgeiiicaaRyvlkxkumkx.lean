/- Texts put together: Addr. No condition. -/
import Derived.Test.YtdmobgdgeiiicaaRrcysjwjpts
import Derived.Test.YtdmobgdgeiiicaaRtogozubisl
import Derived.Test.YtdmobgdgeiiicaaRbipgpgiebm
import Derived.Test.YtdmobgdgeiiicaaRwvrwmwswxp
import Derived.Handy
import Derived.Deep.RegionHeld3
import Derived.Deep.DeepCutAuto
import Derived.Test.YtdmobgdgeiiicaaRows
import Derived.WalkKit
import Derived.WalkSpells
import Derived.WalkLawsBesides
import Derived.BigGuardPart
import Derived.BigQuiet
import Derived.Deep.QuietTactic
import Derived.Deep.Light
import Derived.OwnWalk
import Derived.Laws.OwnMore
import Derived.StillTailTactics
import Derived.BigRegion
namespace Go.Proofs.Ytdmobgdgeiiicaa
open Go.RowKit

theorem v4_any (n : Int) (h0 : 0 ≤ n) (hn : n < 4294967296) (w : World) : Calls Try.prog 72 #[.int .u32 n] w fun e w' => e = .returned (.agg #[.bool false, .int .u64 0, .int .u64 n]) ∧ Below w.heap.size w w' := by
  have q : IntKind.u64.wrap n = n := IntWalk.u64_in _ (by omega)
  go_enter Try.func72, Try.ntmps72
  go_wp2_with fail
  refine bodyPost_ret (v := (.agg #[.bool false, .int .u64 0, .int .u64 n])) (by simp [results, Try.results72, go_sem]) rfl ⟨rfl, by go_grown⟩
theorem adOf_yes {hi lo : Nat} (h1 : (hi : Int) = 0) (h2 : ((lo : Int) / 4294967296 == 65535) = true) : adOf hi lo = ⟨false, 0, lo % 4294967296⟩ := by
  unfold adOf; rw [if_pos ⟨by omega, by rw [beq_iff_eq] at h2; omega⟩]
theorem adOf_no1 {hi lo : Nat} (h1 : ¬ (hi : Int) = 0) : adOf hi lo = ⟨true, hi, lo⟩ := by
  unfold adOf; rw [if_neg (by omega)]
theorem adOf_no2 {hi lo : Nat} (h2 : ((lo : Int) / 4294967296 == 65535) = false) : adOf hi lo = ⟨true, hi, lo⟩ := by
  unfold adOf; rw [if_neg (by rw [beq_eq_false_iff_ne] at h2; omega)]
set_option maxRecDepth 100000 in
theorem adV6_any (hi lo : Nat) (h1 : hi < 18446744073709551616) (h2 : lo < 18446744073709551616) (w : World) : Calls Try.prog 73 #[.int .u64 hi, .int .u64 lo] w fun e w' => e = .returned (.agg #[.bool (adOf hi lo).v6, .int .u64 (adOf hi lo).hi, .int .u64 (adOf hi lo).lo]) ∧ Below w.heap.size w w' := by
  have ha := and32_u64 lo h2
  go_enter Try.func73, Try.ntmps73
  go_wp2_with (go_at_call 72; refine (v4_any _ (by omega) (by omega) _).mono ?_; rintro e w1 ⟨rfl, b1⟩; obtain ⟨c1, f1⟩ := bcell b1)
  · have e := adOf_yes ‹_› ‹_›
    refine bodyPost_ret (v := .agg #[.bool false, .int .u64 0, .int .u64 ((lo : Int) % 4294967296)]) (by simp [results, Try.results73, go_sem, c1]) rfl ⟨by rw [e]; rfl, ?_⟩
    exact Below.setCell (Below.setCell (Below.setCell (((Below.refl _ _).alloc (Nat.le_refl _) _).trans (b1.mono (by simp))) (Nat.le_refl _) _) (Nat.le_refl _) _) (Nat.le_refl _) _
  · have e := adOf_no2 (hi := hi) ‹_›
    obtain rfl : hi = 0 := by omega
    refine bodyPost_ret (v := .agg #[.bool true, .int .u64 0, .int .u64 lo]) (by simp [results, Try.results73, go_sem]) rfl ⟨by rw [e]; rfl, by go_grown⟩
  · have e := adOf_no1 (lo := lo) ‹_›
    refine bodyPost_ret (v := .agg #[.bool true, .int .u64 hi, .int .u64 lo]) (by simp [results, Try.results73, go_sem]) rfl ⟨by rw [e], by go_grown⟩
theorem adBits_any (a : Ad) (w : World) : Calls Try.prog 74 #[.agg #[.bool a.v6, .int .u64 a.hi, .int .u64 a.lo]] w fun e w' => e = .returned (.int .i64 (adBits a)) ∧ Below w.heap.size w w' := by
  unfold adBits
  go_enter Try.func74, Try.ntmps74
  go_wp2
  all_goals
    go_ret
    exact ⟨ret_int (by simp [*]), (Below.refl _ _).alloc (Nat.le_refl _) _⟩
theorem refAdBits_any (a : Ad) (w : World) : Calls Try.prog 59 #[.agg #[.bool a.v6, .int .u64 a.hi, .int .u64 a.lo]] w fun e w' => e = .returned (.int .i64 (adBits a)) ∧ Below w.heap.size w w' := by
  unfold adBits
  go_enter Try.func59, Try.ntmps59
  go_wp2
  all_goals
    go_ret
    exact ⟨ret_int (by simp [*]), (Below.refl _ _).alloc (Nat.le_refl _) _⟩
end Go.Proofs.Ytdmobgdgeiiicaa
