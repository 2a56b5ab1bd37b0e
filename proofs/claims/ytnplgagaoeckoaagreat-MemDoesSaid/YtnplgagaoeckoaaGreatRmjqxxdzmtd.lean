/- Texts put together: ConfF. No condition. -/
import Derived.Test.YtnplgagaoeckoaaGreatRkbmpemvqpq
import Derived.Test.YtnplgagaoeckoaaGreatRsotvhlhkis
import Derived.Test.YtnplgagaoeckoaaGreatRrloyafqzcj
import Derived.Test.YtnplgagaoeckoaaGreatRhnpgpodzhy
import Derived.Test.YtnplgagaoeckoaaGreatRshgxludich
import Derived.Deep.DeepCutAuto
import Derived.Lib.ItoaWalk
import Derived.Handy
import Derived.Laws.Bits64b
set_option maxRecDepth 100000
set_option linter.unusedSimpArgs false
set_option linter.unusedVariables false
namespace Go.Proofs.YtnplgagaoeckoaaGreat
open Go.RowKit
theorem refIn_any (n a b : Int) (w : World) : Calls Tryz.prog 27 #[.int .i64 n, .int .i64 a, .int .i64 b] w fun r w' => r = .returned (.bool (decide (a ≤ n ∧ n ≤ b))) ∧ w = w' := by
 rcases Int.lt_or_le n a with h | h
 ·have d1 : decide (a ≤ n) = false := decide_eq_false (by omega)
  rw [show decide (a ≤ n ∧ n ≤ b) = false from decide_eq_false (by omega)]
  go_enter Tryz.func27, Tryz.ntmps27
  go_wp2_with fail
  go_ret
  exact ⟨rfl, rfl⟩
 ·have d1 : decide (a ≤ n) = true := decide_eq_true h
  rcases Int.lt_or_le b n with h2 | h2
  ·have d2 : decide (n ≤ b) = false := decide_eq_false (by omega)
   rw [show decide (a ≤ n ∧ n ≤ b) = false from decide_eq_false (by omega)]
   go_enter Tryz.func27, Tryz.ntmps27
   go_wp2_with fail
   go_ret
   exact ⟨rfl, rfl⟩
  ·have d2 : decide (n ≤ b) = true := decide_eq_true h2
   rw [show decide (a ≤ n ∧ n ≤ b) = true from decide_eq_true ⟨h, h2⟩]
   go_enter Tryz.func27, Tryz.ntmps27
   go_wp2_with fail
   go_ret
   exact ⟨rfl, rfl⟩
set_option maxHeartbeats 16000000 in
theorem refCfRight_any (c : Cf) (w : World) : Calls Tryz.prog 7 #[.agg #[.int .i64 c.mi, .int .i64 c.mo, .int .i64 c.sh, .int .i64 c.mb, .int .i64 c.mbk, .int .u64 c.secret, .int .i64 c.qg, .int .i64 c.qp, .int .i64 c.qw, .int .i64 c.qt, .int .i64 c.half, .int .i64 c.limit, .int .i64 c.banfor, .int .i64 c.base, .int .i64 c.cap, .int .i64 c.jitter]] w fun r w' => r = .returned (.bool (cfRight c)) ∧ Below w.heap.size w w' := by
 have i0 := fun w => refIn_any c.mi 0 65535 w
 have i1 := fun w => refIn_any c.mo 0 65535 w
 have i2 := fun w => refIn_any c.sh 1 8 w
 have i3 := fun w => refIn_any c.mb 0 1024 w
 have i4 := fun w => refIn_any c.mbk 0 1024 w
 have i6 := fun w => refIn_any c.qg 0 64 w
 have i7 := fun w => refIn_any c.qp 0 64 w
 have i8 := fun w => refIn_any c.qw 0 64 w
 have i9 := fun w => refIn_any c.qt 0 64 w
 have i10 := fun w => refIn_any c.half 1 1073741824 w
 have i11 := fun w => refIn_any c.limit 1 10000 w
 have i12 := fun w => refIn_any c.banfor 1 1073741824 w
 have i13 := fun w => refIn_any c.base 1 1073741824 w
 have i14 := fun w => refIn_any c.cap c.base 1073741824 w
 have i15 := fun w => refIn_any c.jitter 0 1073741824 w
 have hR : cfRight c = cfRight c := rfl
 conv at hR => rhs; unfold cfRight
 generalize decide (0 ≤ c.mi ∧ c.mi ≤ 65535) = b0 at *
 generalize decide (0 ≤ c.mo ∧ c.mo ≤ 65535) = b1 at *
 generalize decide (1 ≤ c.sh ∧ c.sh ≤ 8) = b2 at *
 generalize decide (0 ≤ c.mb ∧ c.mb ≤ 1024) = b3 at *
 generalize decide (0 ≤ c.mbk ∧ c.mbk ≤ 1024) = b4 at *
 generalize decide (0 ≤ c.qg ∧ c.qg ≤ 64) = b6 at *
 generalize decide (0 ≤ c.qp ∧ c.qp ≤ 64) = b7 at *
 generalize decide (0 ≤ c.qw ∧ c.qw ≤ 64) = b8 at *
 generalize decide (0 ≤ c.qt ∧ c.qt ≤ 64) = b9 at *
 generalize decide (1 ≤ c.half ∧ c.half ≤ 1073741824) = b10 at *
 generalize decide (1 ≤ c.limit ∧ c.limit ≤ 10000) = b11 at *
 generalize decide (1 ≤ c.banfor ∧ c.banfor ≤ 1073741824) = b12 at *
 generalize decide (1 ≤ c.base ∧ c.base ≤ 1073741824) = b13 at *
 generalize decide (c.base ≤ c.cap ∧ c.cap ≤ 1073741824) = b14 at *
 generalize decide (0 ≤ c.jitter ∧ c.jitter ≤ 1073741824) = b15 at *
 obtain ⟨I0, I1, I2, I3, I4, I6, I7, I8, I9, I10, I11, I12⟩ := zh12 i0 i1 i2 i3 i4 i6 i7 i8 i9 i10 i11 i12; obtain ⟨I13, I14, I15, HR⟩ := zh4 i13 i14 i15 hR
 clear i0 i1 i2 i3 i4 i6 i7 i8 i9 i10 i11 i12 i13 i14 i15 hR
 go_enter Tryz.func7, Tryz.ntmps7
 go_upto_region 1 with fail
 obtain ⟨y1, hy1⟩ : ∃ y, y = (b0 && (b1 && (b2 && (b3 && b4)))) := ⟨_, rfl⟩
 have HY1 := zh hy1; clear hy1
 go_cut [3] (fun s wx => s = .bool y1 ∧ wx = w.alloc (.cells #[.int .i64 c.mi, .int .i64 c.mo, .int .i64 c.sh, .int .i64 c.mb, .int .i64 c.mbk, .int .u64 c.secret, .int .i64 c.qg, .int .i64 c.qp, .int .i64 c.qw, .int .i64 c.qt, .int .i64 c.half, .int .i64 c.limit, .int .i64 c.banfor, .int .i64 c.base, .int .i64 c.cap, .int .i64 c.jitter] 26))
 case first =>
  go_wp2_with (first | (go_at_call 27; (with_reducible refine (I0.out _).mono ?_); rintro e w0 ⟨rfl, rfl⟩) | (go_at_call 27; (with_reducible refine (I1.out _).mono ?_); rintro e w0 ⟨rfl, rfl⟩) | (go_at_call 27; (with_reducible refine (I2.out _).mono ?_); rintro e w0 ⟨rfl, rfl⟩) | (go_at_call 27; (with_reducible refine (I3.out _).mono ?_); rintro e w0 ⟨rfl, rfl⟩) | (go_at_call 27; (with_reducible refine (I4.out _).mono ?_); rintro e w0 ⟨rfl, rfl⟩))
  all_goals (go_meet; exact ⟨by rw [HY1.out]; simp [*], rfl⟩)
 case rest =>
 obtain ⟨rfl, rfl⟩ := hcut
 go_at_K
 go_upto_region 2 with fail
 obtain ⟨y2, hy2⟩ : ∃ y, y = (b6 && (b7 && (b8 && b9))) := ⟨_, rfl⟩
 have HY2 := zh hy2; clear hy2
 go_cut [4] (fun s wx => s = .bool y2 ∧ wx = w.alloc (.cells #[.int .i64 c.mi, .int .i64 c.mo, .int .i64 c.sh, .int .i64 c.mb, .int .i64 c.mbk, .int .u64 c.secret, .int .i64 c.qg, .int .i64 c.qp, .int .i64 c.qw, .int .i64 c.qt, .int .i64 c.half, .int .i64 c.limit, .int .i64 c.banfor, .int .i64 c.base, .int .i64 c.cap, .int .i64 c.jitter] 26))
 case first =>
  go_wp2_with (first | (go_at_call 27; (with_reducible refine (I6.out _).mono ?_); rintro e w0 ⟨rfl, rfl⟩) | (go_at_call 27; (with_reducible refine (I7.out _).mono ?_); rintro e w0 ⟨rfl, rfl⟩) | (go_at_call 27; (with_reducible refine (I8.out _).mono ?_); rintro e w0 ⟨rfl, rfl⟩) | (go_at_call 27; (with_reducible refine (I9.out _).mono ?_); rintro e w0 ⟨rfl, rfl⟩))
  all_goals (go_meet; exact ⟨by rw [HY2.out]; simp [*], rfl⟩)
 case rest =>
 obtain ⟨rfl, rfl⟩ := hcut
 go_at_K
 go_upto_region 3 with fail
 obtain ⟨y3, hy3⟩ : ∃ y, y = (b10 && (b11 && (b12 && (b13 && (b14 && b15))))) := ⟨_, rfl⟩
 have HY3 := zh hy3; clear hy3
 go_cut [5] (fun s wx => s = .bool y3 ∧ wx = w.alloc (.cells #[.int .i64 c.mi, .int .i64 c.mo, .int .i64 c.sh, .int .i64 c.mb, .int .i64 c.mbk, .int .u64 c.secret, .int .i64 c.qg, .int .i64 c.qp, .int .i64 c.qw, .int .i64 c.qt, .int .i64 c.half, .int .i64 c.limit, .int .i64 c.banfor, .int .i64 c.base, .int .i64 c.cap, .int .i64 c.jitter] 26))
 case first =>
  go_wp2_with (first | (go_at_call 27; (with_reducible refine (I10.out _).mono ?_); rintro e w0 ⟨rfl, rfl⟩) | (go_at_call 27; (with_reducible refine (I11.out _).mono ?_); rintro e w0 ⟨rfl, rfl⟩) | (go_at_call 27; (with_reducible refine (I12.out _).mono ?_); rintro e w0 ⟨rfl, rfl⟩) | (go_at_call 27; (with_reducible refine (I13.out _).mono ?_); rintro e w0 ⟨rfl, rfl⟩) | (go_at_call 27; (with_reducible refine (I14.out _).mono ?_); rintro e w0 ⟨rfl, rfl⟩) | (go_at_call 27; (with_reducible refine (I15.out _).mono ?_); rintro e w0 ⟨rfl, rfl⟩))
  all_goals (go_meet; exact ⟨by rw [HY3.out]; simp [*], rfl⟩)
 case rest =>
 obtain ⟨rfl, rfl⟩ := hcut
 go_at_K
 have HF : cfRight c = (decide (c.secret ≤ 9223372036854775807) && (y1 && (y2 && y3))) := by rw [HR.out, HY1.out, HY2.out, HY3.out]; simp only [Bool.and_assoc]
 have HFF := zh HF
 clear HF HR HY1 HY2 HY3 I0 I1 I2 I3 I4 I6 I7 I8 I9 I10 I11 I12 I13 I14 I15
 rcases Nat.lt_or_ge 9223372036854775807 c.secret with hs | hs
 ·have d1 : decide ((c.secret : Int) ≤ 9223372036854775807) = false := decide_eq_false (by omega)
  have d2 : decide (c.secret ≤ 9223372036854775807) = false := decide_eq_false (by omega)
  go_wp2_with fail
  all_goals (go_ret; exact ⟨by rw [HFF.out, d2]; simp [*], by exact bel⟩)
 ·have d1 : decide ((c.secret : Int) ≤ 9223372036854775807) = true := decide_eq_true (by omega)
  have d2 : decide (c.secret ≤ 9223372036854775807) = true := decide_eq_true hs
  go_wp2_with fail
  all_goals (go_ret; exact ⟨by rw [HFF.out, d2]; simp [*], by exact bel⟩)
set_option maxHeartbeats 16000000 in
theorem refCfPlain_any (w : World) : Calls Tryz.prog 28 #[] w fun r w' => r = .returned (.agg #[.int .i64 plainCf.mi, .int .i64 plainCf.mo, .int .i64 plainCf.sh, .int .i64 plainCf.mb, .int .i64 plainCf.mbk, .int .u64 plainCf.secret, .int .i64 plainCf.qg, .int .i64 plainCf.qp, .int .i64 plainCf.qw, .int .i64 plainCf.qt, .int .i64 plainCf.half, .int .i64 plainCf.limit, .int .i64 plainCf.banfor, .int .i64 plainCf.base, .int .i64 plainCf.cap, .int .i64 plainCf.jitter]) ∧ Below w.heap.size w w' := by
 unfold plainCf
 simp only [show ((1 : Nat) : Int) = 1 from rfl]
 go_enter Tryz.func28, Tryz.ntmps28
 go_wp2_with (refine list_store_blk rfl 26 _ _ rfl (w.heap.size) _ _ 26 (BlockIs.new _ _ _) rfl rfl (by kernel_rfl) rfl (by simp [Value.oneCell']) w.heap.size w (by exact bel) (by omega) ?_; intro w2 hO hoth hsz bw2)
 exact bodyPost_ret (results_cell rfl rfl (hO.loadVar Tryz.underlying26 (by kernel_rfl))) rfl ⟨rfl, bw2⟩
end Go.Proofs.YtnplgagaoeckoaaGreat
