/- The contract of rank's reference: who stands ahead of whom. Conditions: numbers are 64 bits. -/
import Derived.Test.YtdjmejdfcceknaaRank
import Derived.Test.YtdjmejdfcceknaaBlk
namespace Go.Proofs.Ytdjmejdfcceknaa
open Go.RowKit
set_option linter.unusedSimpArgs false
set_option linter.unusedVariables false

set_option maxRecDepth 100000 in
set_option maxHeartbeats 8000000 in
theorem ref_ahead_1 (a b : Pe) (fa : a.fits) (fb : b.fits) (s : Nat) (hs : s < 18446744073709551616) (w : World) :
    Calls Try.prog 41 #[.agg #[.bool a.en.ad.v6, .int .u64 a.en.ad.hi, .int .u64 a.en.ad.lo, .int .i64 a.en.port, .bool a.came, .int .i64 a.since, .int .i64 a.pts, .int .i64 a.at_, .int .i64 a.ping, .int .i64 a.work], .agg #[.bool b.en.ad.v6, .int .u64 b.en.ad.hi, .int .u64 b.en.ad.lo, .int .i64 b.en.port, .bool b.came, .int .i64 b.since, .int .i64 b.pts, .int .i64 b.at_, .int .i64 b.ping, .int .i64 b.work], .int .i64 1, .int .u64 s] w fun e w' => e = .returned (.bool (rkAhead a b 1 s)) ∧ Below w.heap.size w w' := by
  have g1 := fun w => refGrOf_any a.en.ad fa.1.1 w
  have g2 := fun w => refMixNet_any s hs (grOf a.en.ad) (grOf_fits a.en.ad fa.1.1) w
  have g3 := fun w => refGrOf_any b.en.ad fb.1.1 w
  have g4 := fun w => refMixNet_any s hs (grOf b.en.ad) (grOf_fits b.en.ad fb.1.1) w
  simp only [rkKey_of] at g2 g4
  have HK : Hid (∀ z, rkCmp a b 1 z = cmpI (rkKey b z) (rkKey a z)) := fun z => by unfold rkCmp; rw [if_pos rfl]
  generalize hra : rkKey a s = ka at *
  generalize hrb : rkKey b s = kb at *
  have HA := Lib.hid hra; have HB := Lib.hid hrb; clear hra hrb
  generalize grOf a.en.ad = ga at *
  generalize grOf b.en.ad = gb at *
  have G1 := Lib.hid g1; have G2 := Lib.hid g2; have G3 := Lib.hid g3; have G4 := Lib.hid g4
  clear g1 g2 g3 g4
  have hA := @rkAhead_in a b 1 s (by omega) (by omega)
  have HAA := Lib.hid hA
  clear hA
  go_enter Try.func41, Try.ntmps41
  go_upto_region 1 with fail
  go_name_world W0 hW0
  have hA0 : BlockIs W0 w.heap.size [.bool a.en.ad.v6, .int .u64 a.en.ad.hi, .int .u64 a.en.ad.lo, .int .i64 a.en.port, .bool a.came, .int .i64 a.since, .int .i64 a.pts, .int .i64 a.at_, .int .i64 a.ping, .int .i64 a.work] 34 := by subst hW0; exact (BlockIs.new w [.bool a.en.ad.v6, .int .u64 a.en.ad.hi, .int .u64 a.en.ad.lo, .int .i64 a.en.port, .bool a.came, .int .i64 a.since, .int .i64 a.pts, .int .i64 a.at_, .int .i64 a.ping, .int .i64 a.work] _).alloc' _
  have hB0 : BlockIs W0 (w.heap.size + 1) [.bool b.en.ad.v6, .int .u64 b.en.ad.hi, .int .u64 b.en.ad.lo, .int .i64 b.en.port, .bool b.came, .int .i64 b.since, .int .i64 b.pts, .int .i64 b.at_, .int .i64 b.ping, .int .i64 b.work] 34 := by subst hW0; exact BlockIs.newAt' _ [.bool b.en.ad.v6, .int .u64 b.en.ad.hi, .int .u64 b.en.ad.lo, .int .i64 b.en.port, .bool b.came, .int .i64 b.since, .int .i64 b.pts, .int .i64 b.at_, .int .i64 b.ping, .int .i64 b.work] _ (by simp)
  have b0 : Below w.heap.size w W0 := by subst hW0; (repeat (first | with_reducible assumption | with_reducible exact Below.refl _ _ | with_reducible refine Below.setCell ?_ (by first | omega | (simp; done) | (simp; omega)) _ | with_reducible refine Below.alloc ?_ (by first | omega | (simp; done) | (simp; omega)) _ | with_reducible refine Below.drew ?_ | (with_reducible refine Below.trans ?_ (Below.mono (by with_reducible assumption) (by first | omega | (simp; done) | (simp; omega)))) | (refine Below.trans ?_ (Below.mono (by assumption) (by first | omega | (simp; done) | (simp; omega))))))
  clear hW0
  have p0 := hA0.cell (i := 0) rfl
  have p1 := hA0.cell (i := 1) rfl
  have p2 := hA0.cell (i := 2) rfl
  have pf := hA0.frozen
  have pl := hA0.lt
  go_upto_region 6 with (first | (go_at_call 22; (with_reducible refine (G1.out _).mono ?_); rintro e w1 ⟨rfl, b1⟩) | (go_at_call 89; (with_reducible refine (G2.out _).mono ?_); rintro e w2 ⟨rfl, b2⟩))
  have hA2 := (hA0.below b1).below b2
  have hB2 := (hB0.below b1).below b2
  have b3 := below2 (below2 b0 b1) b2
  clear p0 p1 p2 pf pl b0 b1 b2 hA0 hB0
  have q0 := hB2.cell (i := 0) rfl
  have q1 := hB2.cell (i := 1) rfl
  have q2 := hB2.cell (i := 2) rfl
  have qf := hB2.frozen
  have ql := hB2.lt
  go_upto_region 7 with (first | (go_at_call 22; (with_reducible refine (G3.out _).mono ?_); rintro e w3 ⟨rfl, b4⟩) | (go_at_call 89; (with_reducible refine (G4.out _).mono ?_); rintro e w4 ⟨rfl, b5⟩))
  have hA4 := (hA2.below b4).below b5
  have hB4 := (hB2.below b4).below b5
  have b6 := below2 (below2 b3 b4) b5
  clear q0 q1 q2 qf ql b3 b4 b5 hA2 hB2
  have p0 := hA4.cell (i := 0) rfl
  have p1 := hA4.cell (i := 1) rfl
  have p2 := hA4.cell (i := 2) rfl
  have p3 := hA4.cell (i := 3) rfl
  have pf := hA4.frozen
  have pl := hA4.lt
  have q0 := hB4.cell (i := 0) rfl
  have q1 := hB4.cell (i := 1) rfl
  have q2 := hB4.cell (i := 2) rfl
  have q3 := hB4.cell (i := 3) rfl
  have qf := hB4.frozen
  have ql := hB4.lt
  have zb := b6.size
  by_cases he : (kb : Int) = (ka : Int)
  · have hz : rkCmp a b 1 s = 0 := by rw [HK.out, HA.out, HB.out, he]; exact cmpI_self _
    have HR : Hid (rkAhead a b 1 s = decide (enCmp a.en b.en < 0)) := by show _ = _; rw [HAA.out, rkFull_eq hz]
    have e0 : (((ka : Nat) : Int) != ((kb : Nat) : Int)) = false := by simp [he]
    have e1 : ka = kb := by omega
    clear hz
    go_wp2_with (go_at_call 68; (with_reducible refine (refEnCmp_any a.en b.en _).mono ?_); rintro e w5 ⟨rfl, b7⟩)
    go_ret
    refine ⟨by (try rw [HR.out]); first | rfl | (simp; done) | (simp; rfl), ?_⟩
    (repeat (first | with_reducible assumption | with_reducible exact Below.refl _ _ | with_reducible refine Below.setCell ?_ (by first | omega | (simp; done) | (simp; omega)) _ | with_reducible refine Below.alloc ?_ (by first | omega | (simp; done) | (simp; omega)) _ | with_reducible refine Below.drew ?_ | (with_reducible refine Below.trans ?_ (Below.mono (by with_reducible assumption) (by first | omega | (simp; done) | (simp; omega)))) | (refine Below.trans ?_ (Below.mono (by assumption) (by first | omega | (simp; done) | (simp; omega))))))
  · have hz : rkCmp a b 1 s ≠ 0 := by rw [HK.out, HA.out, HB.out]; exact cmpI_ne he
    have HR : Hid (rkAhead a b 1 s = decide ((kb : Int) < (ka : Int))) := by show _ = _; rw [HAA.out, rkFull_ne hz, HK.out, HA.out, HB.out, decide_eq_decide]; exact cmp_lt_iff _ _
    have he' : ¬ ((ka : Int) = (kb : Int)) := by omega
    have e0 : (((ka : Nat) : Int) != ((kb : Nat) : Int)) = true := by simp [he']
    clear hz
    go_wp2_with fail
    go_ret
    refine ⟨by (try rw [HR.out]); first | rfl | (simp; done) | (simp; rfl), ?_⟩
    (repeat (first | with_reducible assumption | with_reducible exact Below.refl _ _ | with_reducible refine Below.setCell ?_ (by first | omega | (simp; done) | (simp; omega)) _ | with_reducible refine Below.alloc ?_ (by first | omega | (simp; done) | (simp; omega)) _ | with_reducible refine Below.drew ?_ | (with_reducible refine Below.trans ?_ (Below.mono (by with_reducible assumption) (by first | omega | (simp; done) | (simp; omega)))) | (refine Below.trans ?_ (Below.mono (by assumption) (by first | omega | (simp; done) | (simp; omega))))))
set_option maxRecDepth 100000 in
set_option maxHeartbeats 8000000 in
theorem ref_ahead_2 (a b : Pe) (fa : a.fits) (fb : b.fits) (s : Nat) (hs : s < 18446744073709551616) (w : World) :
    Calls Try.prog 41 #[.agg #[.bool a.en.ad.v6, .int .u64 a.en.ad.hi, .int .u64 a.en.ad.lo, .int .i64 a.en.port, .bool a.came, .int .i64 a.since, .int .i64 a.pts, .int .i64 a.at_, .int .i64 a.ping, .int .i64 a.work], .agg #[.bool b.en.ad.v6, .int .u64 b.en.ad.hi, .int .u64 b.en.ad.lo, .int .i64 b.en.port, .bool b.came, .int .i64 b.since, .int .i64 b.pts, .int .i64 b.at_, .int .i64 b.ping, .int .i64 b.work], .int .i64 2, .int .u64 s] w fun e w' => e = .returned (.bool (rkAhead a b 2 s)) ∧ Below w.heap.size w w' := by
  have hA := @rkAhead_in a b 2 s (by omega) (by omega)
  by_cases he : a.ping = b.ping
  · have hz : rkCmp a b 2 s = 0 := by rw [show rkCmp a b 2 s = cmpI (a.ping) (b.ping) from by unfold rkCmp; rw [if_neg (by decide), if_pos rfl]]; rw [he]; exact cmpI_self _
    have HR : Hid (rkAhead a b 2 s = decide (enCmp a.en b.en < 0)) := by show _ = _; rw [hA, rkFull_eq hz]
    have e0 : ((a.ping) != (b.ping)) = false := by simp [he]
    have e0' : ((a.ping) == (b.ping)) = true := by simp [he]
    clear hA hz
    rw [HR.out]
    go_enter Try.func41, Try.ntmps41
    go_wp2_with (first |  (go_at_call 68; (with_reducible refine (refEnCmp_any a.en b.en _).mono ?_); rintro e w3 ⟨rfl, b3⟩; obtain ⟨c3, f3⟩ := bcell b3; have z3 := b3.size; (try simp at z3); have d3a := fun o => c3 (w.heap.size) o (by first | omega | (simp; done) | (simp; omega)); have d3b := fun o => c3 (w.heap.size + 1) o (by first | omega | (simp; done) | (simp; omega)); clear c3 f3))
    go_ret
    refine ⟨by (try rw [HR.out]); first | rfl | (simp; done) | (simp; rfl), ?_⟩
    (repeat (first | with_reducible assumption | with_reducible exact Below.refl _ _ | with_reducible refine Below.setCell ?_ (by first | omega | (simp; done) | (simp; omega)) _ | with_reducible refine Below.alloc ?_ (by first | omega | (simp; done) | (simp; omega)) _ | with_reducible refine Below.drew ?_ | (with_reducible refine Below.trans ?_ (Below.mono (by with_reducible assumption) (by first | omega | (simp; done) | (simp; omega)))) | (refine Below.trans ?_ (Below.mono (by assumption) (by first | omega | (simp; done) | (simp; omega))))))
  · have hz : rkCmp a b 2 s ≠ 0 := by rw [show rkCmp a b 2 s = cmpI (a.ping) (b.ping) from by unfold rkCmp; rw [if_neg (by decide), if_pos rfl]]; exact cmpI_ne he
    have HR : Hid (rkAhead a b 2 s = decide (a.ping < b.ping)) := by show _ = _; rw [hA, rkFull_ne hz]; rw [show rkCmp a b 2 s = cmpI (a.ping) (b.ping) from by unfold rkCmp; rw [if_neg (by decide), if_pos rfl]]; rw [decide_eq_decide]; exact cmp_lt_iff _ _
    have e0 : ((a.ping) != (b.ping)) = true := by simp [he]
    have e0' : ((a.ping) == (b.ping)) = false := by simp [he]
    clear hA hz
    rw [HR.out]
    go_enter Try.func41, Try.ntmps41
    go_wp2_with (first |  (go_at_call 68; (with_reducible refine (refEnCmp_any a.en b.en _).mono ?_); rintro e w3 ⟨rfl, b3⟩; obtain ⟨c3, f3⟩ := bcell b3; have z3 := b3.size; (try simp at z3); have d3a := fun o => c3 (w.heap.size) o (by first | omega | (simp; done) | (simp; omega)); have d3b := fun o => c3 (w.heap.size + 1) o (by first | omega | (simp; done) | (simp; omega)); clear c3 f3))
    go_ret
    refine ⟨by (try rw [HR.out]); first | rfl | (simp; done) | (simp; rfl), ?_⟩
    (repeat (first | with_reducible assumption | with_reducible exact Below.refl _ _ | with_reducible refine Below.setCell ?_ (by first | omega | (simp; done) | (simp; omega)) _ | with_reducible refine Below.alloc ?_ (by first | omega | (simp; done) | (simp; omega)) _ | with_reducible refine Below.drew ?_ | (with_reducible refine Below.trans ?_ (Below.mono (by with_reducible assumption) (by first | omega | (simp; done) | (simp; omega)))) | (refine Below.trans ?_ (Below.mono (by assumption) (by first | omega | (simp; done) | (simp; omega))))))
set_option maxRecDepth 100000 in
set_option maxHeartbeats 8000000 in
theorem ref_ahead_3 (a b : Pe) (fa : a.fits) (fb : b.fits) (s : Nat) (hs : s < 18446744073709551616) (w : World) :
    Calls Try.prog 41 #[.agg #[.bool a.en.ad.v6, .int .u64 a.en.ad.hi, .int .u64 a.en.ad.lo, .int .i64 a.en.port, .bool a.came, .int .i64 a.since, .int .i64 a.pts, .int .i64 a.at_, .int .i64 a.ping, .int .i64 a.work], .agg #[.bool b.en.ad.v6, .int .u64 b.en.ad.hi, .int .u64 b.en.ad.lo, .int .i64 b.en.port, .bool b.came, .int .i64 b.since, .int .i64 b.pts, .int .i64 b.at_, .int .i64 b.ping, .int .i64 b.work], .int .i64 3, .int .u64 s] w fun e w' => e = .returned (.bool (rkAhead a b 3 s)) ∧ Below w.heap.size w w' := by
  have hA := @rkAhead_in a b 3 s (by omega) (by omega)
  by_cases he : b.work = a.work
  · have hz : rkCmp a b 3 s = 0 := by rw [show rkCmp a b 3 s = cmpI (b.work) (a.work) from by unfold rkCmp; rw [if_neg (by decide), if_neg (by decide), if_pos rfl]]; rw [he]; exact cmpI_self _
    have HR : Hid (rkAhead a b 3 s = decide (enCmp a.en b.en < 0)) := by show _ = _; rw [hA, rkFull_eq hz]
    have e0 : ((b.work) != (a.work)) = false := by simp [he]
    have e0' : ((b.work) == (a.work)) = true := by simp [he]
    clear hA hz
    rw [HR.out]
    go_enter Try.func41, Try.ntmps41
    go_wp2_with (first |  (go_at_call 68; (with_reducible refine (refEnCmp_any a.en b.en _).mono ?_); rintro e w3 ⟨rfl, b3⟩; obtain ⟨c3, f3⟩ := bcell b3; have z3 := b3.size; (try simp at z3); have d3a := fun o => c3 (w.heap.size) o (by first | omega | (simp; done) | (simp; omega)); have d3b := fun o => c3 (w.heap.size + 1) o (by first | omega | (simp; done) | (simp; omega)); clear c3 f3))
    go_ret
    refine ⟨by (try rw [HR.out]); first | rfl | (simp; done) | (simp; rfl), ?_⟩
    (repeat (first | with_reducible assumption | with_reducible exact Below.refl _ _ | with_reducible refine Below.setCell ?_ (by first | omega | (simp; done) | (simp; omega)) _ | with_reducible refine Below.alloc ?_ (by first | omega | (simp; done) | (simp; omega)) _ | with_reducible refine Below.drew ?_ | (with_reducible refine Below.trans ?_ (Below.mono (by with_reducible assumption) (by first | omega | (simp; done) | (simp; omega)))) | (refine Below.trans ?_ (Below.mono (by assumption) (by first | omega | (simp; done) | (simp; omega))))))
  · have hz : rkCmp a b 3 s ≠ 0 := by rw [show rkCmp a b 3 s = cmpI (b.work) (a.work) from by unfold rkCmp; rw [if_neg (by decide), if_neg (by decide), if_pos rfl]]; exact cmpI_ne he
    have HR : Hid (rkAhead a b 3 s = decide (b.work < a.work)) := by show _ = _; rw [hA, rkFull_ne hz]; rw [show rkCmp a b 3 s = cmpI (b.work) (a.work) from by unfold rkCmp; rw [if_neg (by decide), if_neg (by decide), if_pos rfl]]; rw [decide_eq_decide]; exact cmp_lt_iff _ _
    have e0 : ((b.work) != (a.work)) = true := by simp [he]
    have e0' : ((b.work) == (a.work)) = false := by simp [he]
    clear hA hz
    rw [HR.out]
    go_enter Try.func41, Try.ntmps41
    go_wp2_with (first |  (go_at_call 68; (with_reducible refine (refEnCmp_any a.en b.en _).mono ?_); rintro e w3 ⟨rfl, b3⟩; obtain ⟨c3, f3⟩ := bcell b3; have z3 := b3.size; (try simp at z3); have d3a := fun o => c3 (w.heap.size) o (by first | omega | (simp; done) | (simp; omega)); have d3b := fun o => c3 (w.heap.size + 1) o (by first | omega | (simp; done) | (simp; omega)); clear c3 f3))
    go_ret
    refine ⟨by (try rw [HR.out]); first | rfl | (simp; done) | (simp; rfl), ?_⟩
    (repeat (first | with_reducible assumption | with_reducible exact Below.refl _ _ | with_reducible refine Below.setCell ?_ (by first | omega | (simp; done) | (simp; omega)) _ | with_reducible refine Below.alloc ?_ (by first | omega | (simp; done) | (simp; omega)) _ | with_reducible refine Below.drew ?_ | (with_reducible refine Below.trans ?_ (Below.mono (by with_reducible assumption) (by first | omega | (simp; done) | (simp; omega)))) | (refine Below.trans ?_ (Below.mono (by assumption) (by first | omega | (simp; done) | (simp; omega))))))
set_option maxRecDepth 100000 in
set_option maxHeartbeats 8000000 in
theorem ref_ahead_4 (a b : Pe) (fa : a.fits) (fb : b.fits) (s : Nat) (hs : s < 18446744073709551616) (w : World) :
    Calls Try.prog 41 #[.agg #[.bool a.en.ad.v6, .int .u64 a.en.ad.hi, .int .u64 a.en.ad.lo, .int .i64 a.en.port, .bool a.came, .int .i64 a.since, .int .i64 a.pts, .int .i64 a.at_, .int .i64 a.ping, .int .i64 a.work], .agg #[.bool b.en.ad.v6, .int .u64 b.en.ad.hi, .int .u64 b.en.ad.lo, .int .i64 b.en.port, .bool b.came, .int .i64 b.since, .int .i64 b.pts, .int .i64 b.at_, .int .i64 b.ping, .int .i64 b.work], .int .i64 4, .int .u64 s] w fun e w' => e = .returned (.bool (rkAhead a b 4 s)) ∧ Below w.heap.size w w' := by
  have hA := @rkAhead_in a b 4 s (by omega) (by omega)
  by_cases he : a.since = b.since
  · have hz : rkCmp a b 4 s = 0 := by rw [show rkCmp a b 4 s = cmpI (a.since) (b.since) from by unfold rkCmp; rw [if_neg (by decide), if_neg (by decide), if_neg (by decide), if_pos rfl]]; rw [he]; exact cmpI_self _
    have HR : Hid (rkAhead a b 4 s = decide (enCmp a.en b.en < 0)) := by show _ = _; rw [hA, rkFull_eq hz]
    have e0 : ((a.since) != (b.since)) = false := by simp [he]
    have e0' : ((a.since) == (b.since)) = true := by simp [he]
    clear hA hz
    rw [HR.out]
    go_enter Try.func41, Try.ntmps41
    go_wp2_with (first |  (go_at_call 68; (with_reducible refine (refEnCmp_any a.en b.en _).mono ?_); rintro e w3 ⟨rfl, b3⟩; obtain ⟨c3, f3⟩ := bcell b3; have z3 := b3.size; (try simp at z3); have d3a := fun o => c3 (w.heap.size) o (by first | omega | (simp; done) | (simp; omega)); have d3b := fun o => c3 (w.heap.size + 1) o (by first | omega | (simp; done) | (simp; omega)); clear c3 f3))
    go_ret
    refine ⟨by (try rw [HR.out]); first | rfl | (simp; done) | (simp; rfl), ?_⟩
    (repeat (first | with_reducible assumption | with_reducible exact Below.refl _ _ | with_reducible refine Below.setCell ?_ (by first | omega | (simp; done) | (simp; omega)) _ | with_reducible refine Below.alloc ?_ (by first | omega | (simp; done) | (simp; omega)) _ | with_reducible refine Below.drew ?_ | (with_reducible refine Below.trans ?_ (Below.mono (by with_reducible assumption) (by first | omega | (simp; done) | (simp; omega)))) | (refine Below.trans ?_ (Below.mono (by assumption) (by first | omega | (simp; done) | (simp; omega))))))
  · have hz : rkCmp a b 4 s ≠ 0 := by rw [show rkCmp a b 4 s = cmpI (a.since) (b.since) from by unfold rkCmp; rw [if_neg (by decide), if_neg (by decide), if_neg (by decide), if_pos rfl]]; exact cmpI_ne he
    have HR : Hid (rkAhead a b 4 s = decide (a.since < b.since)) := by show _ = _; rw [hA, rkFull_ne hz]; rw [show rkCmp a b 4 s = cmpI (a.since) (b.since) from by unfold rkCmp; rw [if_neg (by decide), if_neg (by decide), if_neg (by decide), if_pos rfl]]; rw [decide_eq_decide]; exact cmp_lt_iff _ _
    have e0 : ((a.since) != (b.since)) = true := by simp [he]
    have e0' : ((a.since) == (b.since)) = false := by simp [he]
    clear hA hz
    rw [HR.out]
    go_enter Try.func41, Try.ntmps41
    go_wp2_with (first |  (go_at_call 68; (with_reducible refine (refEnCmp_any a.en b.en _).mono ?_); rintro e w3 ⟨rfl, b3⟩; obtain ⟨c3, f3⟩ := bcell b3; have z3 := b3.size; (try simp at z3); have d3a := fun o => c3 (w.heap.size) o (by first | omega | (simp; done) | (simp; omega)); have d3b := fun o => c3 (w.heap.size + 1) o (by first | omega | (simp; done) | (simp; omega)); clear c3 f3))
    go_ret
    refine ⟨by (try rw [HR.out]); first | rfl | (simp; done) | (simp; rfl), ?_⟩
    (repeat (first | with_reducible assumption | with_reducible exact Below.refl _ _ | with_reducible refine Below.setCell ?_ (by first | omega | (simp; done) | (simp; omega)) _ | with_reducible refine Below.alloc ?_ (by first | omega | (simp; done) | (simp; omega)) _ | with_reducible refine Below.drew ?_ | (with_reducible refine Below.trans ?_ (Below.mono (by with_reducible assumption) (by first | omega | (simp; done) | (simp; omega)))) | (refine Below.trans ?_ (Below.mono (by assumption) (by first | omega | (simp; done) | (simp; omega))))))
set_option maxRecDepth 100000 in
set_option maxHeartbeats 8000000 in
theorem ref_ahead_any (a b : Pe) (fa : a.fits) (fb : b.fits) (q : Int) (s : Nat) (hs : s < 18446744073709551616) (w : World) :
    Calls Try.prog 41 #[.agg #[.bool a.en.ad.v6, .int .u64 a.en.ad.hi, .int .u64 a.en.ad.lo, .int .i64 a.en.port, .bool a.came, .int .i64 a.since, .int .i64 a.pts, .int .i64 a.at_, .int .i64 a.ping, .int .i64 a.work], .agg #[.bool b.en.ad.v6, .int .u64 b.en.ad.hi, .int .u64 b.en.ad.lo, .int .i64 b.en.port, .bool b.came, .int .i64 b.since, .int .i64 b.pts, .int .i64 b.at_, .int .i64 b.ping, .int .i64 b.work], .int .i64 q, .int .u64 s] w fun e w' => e = .returned (.bool (rkAhead a b q s)) ∧ Below w.heap.size w w' := by
  by_cases h1 : q = 1
  · subst h1; exact ref_ahead_1 a b fa fb s hs w
  by_cases h2 : q = 2
  · subst h2; exact ref_ahead_2 a b fa fb s hs w
  by_cases h3 : q = 3
  · subst h3; exact ref_ahead_3 a b fa fb s hs w
  by_cases h4 : q = 4
  · subst h4; exact ref_ahead_4 a b fa fb s hs w
  · rw [rkAhead_out h1 h2 h3 h4]
    have e1 : (q == 1) = false := beq_eq_false_iff_ne.2 h1
    have e2 : (q == 2) = false := beq_eq_false_iff_ne.2 h2
    have e3 : (q == 3) = false := beq_eq_false_iff_ne.2 h3
    have e4 : (q == 4) = false := beq_eq_false_iff_ne.2 h4
    clear h1 h2 h3 h4
    go_enter Try.func41, Try.ntmps41
    go_wp2_with fail
    go_ret
    refine ⟨rfl, ?_⟩
    (repeat (first | with_reducible assumption | with_reducible exact Below.refl _ _ | with_reducible refine Below.setCell ?_ (by first | omega | (simp; done) | (simp; omega)) _ | with_reducible refine Below.alloc ?_ (by first | omega | (simp; done) | (simp; omega)) _ | with_reducible refine Below.drew ?_ | (with_reducible refine Below.trans ?_ (Below.mono (by with_reducible assumption) (by first | omega | (simp; done) | (simp; omega)))) | (refine Below.trans ?_ (Below.mono (by assumption) (by first | omega | (simp; done) | (simp; omega))))))
end Go.Proofs.Ytdjmejdfcceknaa
