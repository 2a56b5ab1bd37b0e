/- Texts put together: ShA. No condition. -/
import Derived.Test.YtnplgagaoeckoaaGreatRabjsuhmfwm
import Derived.Test.YtnplgagaoeckoaaGreatRcwqyjfsjeh
import Derived.Test.YtnplgagaoeckoaaGreatRxxptjctlof
set_option maxRecDepth 100000
set_option linter.unusedSimpArgs false
set_option linter.unusedVariables false
namespace Go.Proofs.YtnplgagaoeckoaaGreat
open Go.RowKit Go.Lib
def partsN (n : Int) : Nat := (min (max n 1) 8).toNat
theorem partsN_is (n : Int) : ((partsN n : Nat) : Int) = min (max n 1) 8 := by unfold partsN; omega
theorem partsN_in (n : Int) : 1 ≤ partsN n ∧ partsN n ≤ 8 := by unfold partsN; omega
def belowN (h m : Nat) : Nat := h / 4294967296 * m / 4294967296
theorem belowN_lt {h m : Nat} (hh : h < 18446744073709551616) (hm : 0 < m) : belowN h m < m := by
 unfold belowN
 have h1 : h / 4294967296 < 4294967296 := by omega
 rw [Nat.div_lt_iff_lt_mul (by omega), Nat.mul_comm m]
 exact Nat.mul_lt_mul_of_pos_right h1 hm
def ofN (a : Ad) (s : Nat) (n : Int) : Nat := belowN (mixNet s (ntFull a)) (partsN n)
theorem mixNet_lt (key : Nat) (n : Nt) : mixNet key n < 18446744073709551616 := mixOf_lt _ _
theorem ofN_lt (a : Ad) (s : Nat) (n : Int) : ofN a s n < partsN n := belowN_lt (mixNet_lt _ _) (partsN_in n).1
theorem shParts_any (n : Int) (w : World) : Calls Tryz.prog 64 #[.int .i64 n] w fun e w' => e = .returned (.int .i64 (partsN n)) ∧ w = w' := by
 rw [partsN_is]
 go_enter Tryz.func64, Tryz.ntmps64
 go_wp2_with fail
 go_ret
 exact ⟨rfl, rfl⟩
theorem refParts_any (n : Int) (w : World) : Calls Tryz.prog 66 #[.int .i64 n] w fun e w' => e = .returned (.int .i64 (partsN n)) ∧ w = w' := by
 rcases Int.lt_or_le n 1 with h | h
 ·have e : ((partsN n : Nat) : Int) = 1 := by rw [partsN_is]; omega
  rw [e]
  go_enter Tryz.func66, Tryz.ntmps66
  go_wp2_with fail
  go_ret
  exact ⟨rfl, rfl⟩
 ·have h0 : ¬ n < 1 := by omega
  rcases Int.lt_or_le 8 n with h' | h'
  ·have e : ((partsN n : Nat) : Int) = 8 := by rw [partsN_is]; omega
   rw [e]
   go_enter Tryz.func66, Tryz.ntmps66
   go_wp2_with fail
   go_ret
   exact ⟨rfl, rfl⟩
  ·have e : ((partsN n : Nat) : Int) = n := by rw [partsN_is]; omega
   rw [e]
   have h1 : ¬ 8 < n := by omega
   go_enter Tryz.func66, Tryz.ntmps66
   go_wp2_with fail
   go_ret
   exact ⟨rfl, rfl⟩
theorem below_val (h m : Nat) (hh : h < 18446744073709551616) (hm : 1 ≤ m ∧ m ≤ 8) : (IntKind.u64.wrap ((h : Int) / 4294967296 * (m : Int))) / 4294967296 = (belowN h m : Int) ∧ IntKind.i64.wrap ((belowN h m : Nat) : Int) = (belowN h m : Int) ∧ IntKind.u64.wrap (m : Int) = (m : Int) := by
 have h1 := belowN_lt hh hm.1
 have hb : h / 4294967296 < 4294967296 := by omega
 have hp : h / 4294967296 * m < 18446744073709551616 := Nat.lt_of_le_of_lt (Nat.mul_le_mul (Nat.le_of_lt hb) hm.2) (by decide)
 refine ⟨?_, by rw [IntKind.wrap_i64]; omega, by rw [IntKind.wrap_u64]; omega⟩
 have e : (h : Int) / 4294967296 * (m : Int) = ((h / 4294967296 * m : Nat) : Int) := by rw [Int.natCast_mul, Int.natCast_ediv]; rfl
 rw [e, IntKind.wrap_u64]
 unfold belowN
 have e2 : ((h / 4294967296 * m : Nat) : Int) % 18446744073709551616 = ((h / 4294967296 * m : Nat) : Int) := by omega
 rw [e2, Int.natCast_ediv]; rfl
theorem mixBelow_any (h m : Nat) (hh : h < 18446744073709551616) (hm : 1 ≤ m ∧ m ≤ 8) (w : World) : Calls Tryz.prog 87 #[.int .u64 h, .int .i64 m] w fun e w' => e = .returned (.int .i64 (belowN h m)) ∧ w = w' := by
 obtain ⟨e1, e2, e3⟩ := below_val h m hh hm
 have h0 : ¬ (m : Int) < 1 := by omega
 have h1 : ¬ 2147483648 < (m : Int) := by omega
 generalize belowN h m = y at *
 go_enter Tryz.func87, Tryz.ntmps87
 go_wp2_with fail
 go_ret
 exact ⟨rfl, rfl⟩
theorem refMixBelow_any (h m : Nat) (hh : h < 18446744073709551616) (hm : 1 ≤ m ∧ m ≤ 8) (w : World) : Calls Tryz.prog 90 #[.int .u64 h, .int .i64 m] w fun e w' => e = .returned (.int .i64 (belowN h m)) ∧ w = w' := by
 obtain ⟨e1, e2, e3⟩ := below_val h m hh hm
 have h0 : ¬ (m : Int) < 1 := by omega
 have h1 : ¬ 2147483648 < (m : Int) := by omega
 have h5 := belowN_lt hh hm.1
 have e5 : IntKind.u64.wrap ((belowN h m : Nat) : Int) = (belowN h m : Int) := by rw [IntKind.wrap_u64]; omega
 have e4 : (IntKind.u64.wrap ((h : Int) / 4294967296 * (m : Int))).tdiv 4294967296 = (belowN h m : Int) := by
  rw [Int.tdiv_eq_ediv_of_nonneg (by rw [IntKind.wrap_u64]; omega)]; exact e1
 clear h5
 generalize belowN h m = y at *
 go_enter Tryz.func90, Tryz.ntmps90
 go_wp2_with fail
 go_ret
 exact ⟨rfl, rfl⟩
theorem shOf_any (a : Ad) (fa : a.fits) (s : Nat) (hs : s < 18446744073709551616) (n : Int) (w : World) : Calls Tryz.prog 65 #[.agg #[.bool a.v6, .int .u64 a.hi, .int .u64 a.lo], .int .u64 s, .int .i64 n] w fun e w' => e = .returned (.int .i64 (ofN a s n)) ∧ Below w.heap.size w w' := by
 have H1 := zh (fun W => ntFull_any a fa W)
 have H2 := zh (fun W => mixNet_any s hs (ntFull a) (by unfold ntFull; exact adMake_fits _ _ fa) W)
 have H3 := zh (fun W => shParts_any n W)
 have H4 := zh (fun W => mixBelow_any (mixNet s (ntFull a)) (partsN n) (mixNet_lt _ _) (partsN_in n) W)
 unfold ofN
 generalize belowN (mixNet s (ntFull a)) (partsN n) = y at *
 generalize mixNet s (ntFull a) = mn at *
 generalize partsN n = pn at *
 generalize ntFull a = nf at *
 go_enter Tryz.func65, Tryz.ntmps65
 go_wp2_with (first
  | (go_at_call 89; (with_reducible refine (H1.out _).mono ?_); rintro e w1 ⟨rfl, b1⟩)
  | (go_at_call 88; (with_reducible refine (H2.out _).mono ?_); rintro e w2 ⟨rfl, b2⟩)
  | (go_at_call 64; (with_reducible refine (H3.out _).mono ?_); rintro e w3 ⟨rfl, rfl⟩)
  | (go_at_call 87; (with_reducible refine (H4.out _).mono ?_); rintro e w4 ⟨rfl, rfl⟩))
 go_ret
 exact ⟨rfl, below2 (below2 ((Below.refl _ _).alloc (Nat.le_refl _) _) b1) b2⟩
theorem refShOf_any (a : Ad) (fa : a.fits) (s : Nat) (hs : s < 18446744073709551616) (n : Int) (w : World) : Calls Tryz.prog 67 #[.agg #[.bool a.v6, .int .u64 a.hi, .int .u64 a.lo], .int .u64 s, .int .i64 n] w fun e w' => e = .returned (.int .i64 (ofN a s n)) ∧ Below w.heap.size w w' := by
 have H1 := zh (fun W => refNtFull_any a fa W)
 have H2 := zh (fun W => refMixNet_any s hs (ntFull a) (by unfold ntFull; exact adMake_fits _ _ fa) W)
 have H3 := zh (fun W => refParts_any n W)
 have H4 := zh (fun W => refMixBelow_any (mixNet s (ntFull a)) (partsN n) (mixNet_lt _ _) (partsN_in n) W)
 unfold ofN
 generalize belowN (mixNet s (ntFull a)) (partsN n) = y at *
 generalize mixNet s (ntFull a) = mn at *
 generalize partsN n = pn at *
 generalize ntFull a = nf at *
 go_enter Tryz.func67, Tryz.ntmps67
 go_wp2_with (first
  | (go_at_call 92; (with_reducible refine (H1.out _).mono ?_); rintro e w1 ⟨rfl, b1⟩)
  | (go_at_call 91; (with_reducible refine (H2.out _).mono ?_); rintro e w2 ⟨rfl, b2⟩)
  | (go_at_call 66; (with_reducible refine (H3.out _).mono ?_); rintro e w3 ⟨rfl, rfl⟩)
  | (go_at_call 90; (with_reducible refine (H4.out _).mono ?_); rintro e w4 ⟨rfl, rfl⟩))
 go_ret
 exact ⟨rfl, below2 (below2 ((Below.refl _ _).alloc (Nat.le_refl _) _) b1) b2⟩
end Go.Proofs.YtnplgagaoeckoaaGreat
