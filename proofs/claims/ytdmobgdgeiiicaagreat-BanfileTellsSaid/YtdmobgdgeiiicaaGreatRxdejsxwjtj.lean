/- Texts put together: BfA. No condition. -/
import Derived.Test.YtdmobgdgeiiicaaGreatRinmgwzepmj
import Derived.Test.YtdmobgdgeiiicaaGreatRtrpsbhshgr
import Derived.Test.YtdmobgdgeiiicaaGreatRzcrgrivcnx
namespace Go.Proofs.YtdmobgdgeiiicaaGreat
open Go.RowKit

theorem neqBa_one (a : Ba) (W : World) : (binOp .neq 38 (.agg #[.bool a.nt.ad.v6, .int .u64 a.nt.ad.hi, .int .u64 a.nt.ad.lo, .int .i64 a.nt.bits, .int .i64 a.till]) (.agg #[.bool a.nt.ad.v6, .int .u64 a.nt.ad.hi, .int .u64 a.nt.ad.lo, .int .i64 a.nt.bits, .int .i64 a.till])).run Tryz.prog W = .ok (.bool false) W := by
  go_simp
set_option maxRecDepth 100000 in
set_option maxHeartbeats 8000000 in
theorem bans_same (v u : Value) (L : List Ba) (w : World) (hv : ReadsL baV 5 w v L) (hu : ReadsL baV 5 w u L) :
    Calls Tryz.prog 9 #[v, u] w fun e w' => e = .returned (.bool true) ∧ Below w.heap.size w w' := by
  obtain ⟨hm, p, c, rfl, h3⟩ := bas_open hv
  obtain ⟨hm1, p1, c1, rfl, k3⟩ := bas_open hu
  clear hv hu
  go_enter Tryz.func9, Tryz.ntmps9
  go_wp2_with fail
  go_loopw [5] (fun i' wr => ∃ k : Nat, k ≤ L.length ∧ i' = .int .i64 k ∧ Hid (Below w.heap.size w wr)) (fun i' _ => L.length - (intOf i').toNat)
  case atStart => exact ⟨0, by omega, rfl, Below.refl _ _⟩
  case round =>
    obtain ⟨k, hk, rfl, HB⟩ := hrel
    by_cases hlt : k < L.length
    · obtain ⟨p, hp⟩ : ∃ p, L[k]? = some p := ⟨_, List.getElem?_eq_getElem hlt⟩
      obtain ⟨b1, o1, rfl, hc1, hb1, hx1⟩ := h3 (by omega)
      obtain ⟨b2, o2, rfl, hc2, hb2, hx2⟩ := k3 (by omega)
      have K := ((hx1 k p hp).below HB.out hb1).ext (Nat.lt_of_lt_of_le hb1 HB.out.size)
      have K2 := ((hx2 k p hp).below HB.out hb2).ext (Nat.lt_of_lt_of_le hb2 HB.out.size)
      have x0 := fun y => (K y).1; have x1 := fun y => (K y).2.1; have x2 := fun y => (K y).2.2.1; have x3 := fun y => (K y).2.2.2.1; have x4 := fun y => (K y).2.2.2.2
      have y0 := fun y => (K2 y).1; have y1 := fun y => (K2 y).2.1; have y2 := fun y => (K2 y).2.2.1; have y3 := fun y => (K2 y).2.2.2.1; have y4 := fun y => (K2 y).2.2.2.2
      have q1 : (0 : Int) ≤ (k : Int) := by omega
      have q2 : (k : Int) < (L.length : Int) := by omega
      have hq := fun W => neqBa_one p W
      clear K K2 hp hx1 hx2 h3 k3
      go_wp2_with fail
      refine wp_region_ext (by kernel_rfl) (by kernel_rfl) ?_
      repeat (go_big_quiet_step (fail))
      refine wpQuiet_nil ?_
      first | (intro _ hw'; obtain ⟨gx, hw''⟩ := hw'; subst hw'') | intro gx
      clear x0 x1 x2 x3 x4 y0 y1 y2 y3 y4 hq
      go_wp2_with fail
      go_roundw
      case rel => exact ⟨k + 1, by omega, by go_num, below2 HB.out (ext_below wr gx)⟩
      case measure => simp [intOf]; omega
    · obtain rfl : k = L.length := by omega
      have q2 : ¬ ((L.length : Int) < (L.length : Int)) := by omega
      go_wp2_with fail
      go_ret
      exact ⟨rfl, HB.out⟩
theorem bfHas_hit {l : List Ba} {k : Nat} {x : Ba} {n : Nt} (hx : l[k]? = some x) (h : x.nt = n) : bfHas l n = true := by
  unfold bfHas
  rw [List.any_eq_true]
  exact ⟨x, List.mem_of_getElem? hx, decide_eq_true h⟩
theorem bfHas_miss {l : List Ba} {n : Nt} (h : ∀ j q, j < l.length → l[j]? = some q → decide (q.nt = n) = false) : bfHas l n = false :=
  bfHas_no fun x hx e => by
    obtain ⟨j, hj⟩ := List.mem_iff_getElem?.1 hx
    have := h j x (List.getElem?_eq_some_iff.1 hj).1 hj
    rw [decide_eq_true e] at this; cases this
set_option maxRecDepth 100000 in
set_option maxHeartbeats 4000000 in
theorem refBaIndex_any (v : Value) (l : List Ba) (en : Nt) (w : World) (h : ReadsL baV 5 w v l) :
    Calls Tryz.prog 14 #[v, .agg #[.bool en.ad.v6, .int .u64 en.ad.hi, .int .u64 en.ad.lo, .int .i64 en.bits]] w fun e w' => e = .returned (.int .i64 (fdB l en)) ∧ Below w.heap.size w w' := by
  obtain ⟨hm, p, c, rfl, h3⟩ := bas_open h
  clear h
  unfold fdB
  go_enter Tryz.func14, Tryz.ntmps14
  go_upto_region 2 with fail
  obtain ⟨W0, hW0⟩ : ∃ W0, W0 = w.alloc (.cells #[.bool en.ad.v6, .int .u64 en.ad.hi, .int .u64 en.ad.lo, .int .i64 en.bits] 36) := ⟨_, rfl⟩
  rw [← hW0]
  have b0 : Below w.heap.size w W0 := by subst hW0; (repeat (first | with_reducible assumption | with_reducible exact Below.refl _ _ | with_reducible refine Below.setCell ?_ (by first | omega | (simp; done) | (simp; omega)) _ | with_reducible refine Below.alloc ?_ (by first | omega | (simp; done) | (simp; omega)) _ | with_reducible refine Below.drew ?_ | (with_reducible refine Below.trans ?_ (Below.mono (by with_reducible assumption) (by first | omega | (simp; done) | (simp; omega)))) | (refine Below.trans ?_ (Below.mono (by assumption) (by first | omega | (simp; done) | (simp; omega))))))
  have s0 : w.heap.size < W0.heap.size := by subst hW0; simp
  have c0 : W0.cell? ⟨w.heap.size, 0, none⟩ = some (.bool en.ad.v6) := by subst hW0; simp [go_sem]
  have c1 : W0.cell? ⟨w.heap.size, 1, none⟩ = some (.int .u64 en.ad.hi) := by subst hW0; simp [go_sem]
  have c2 : W0.cell? ⟨w.heap.size, 2, none⟩ = some (.int .u64 en.ad.lo) := by subst hW0; simp [go_sem]
  have c3 : W0.cell? ⟨w.heap.size, 3, none⟩ = some (.int .i64 en.bits) := by subst hW0; simp [go_sem]
  have HB0 := Lib.hid b0
  clear hW0 b0
  go_loopw [5] (fun i' wr => ∃ k : Nat, k ≤ l.length ∧ i' = .int .i64 k ∧ Hid (Below W0.heap.size W0 wr) ∧ Hid (∀ j q, j < k → l[j]? = some q → decide (q.nt = en) = false)) (fun i' _ => l.length - (intOf i').toNat)
  case atStart => exact ⟨0, by omega, rfl, Below.refl _ _, fun j q hj => absurd hj (Nat.not_lt_zero _)⟩
  case round =>
    obtain ⟨k, hk, rfl, HB, HA⟩ := hrel
    by_cases hlt : k < l.length
    · obtain ⟨x, hx⟩ : ∃ x, l[k]? = some x := ⟨_, List.getElem?_eq_getElem hlt⟩
      obtain ⟨b, o, rfl, h4, h5, h6⟩ := h3 (by omega)
      have X := ((h6 k x hx).below (below2 HB0.out HB.out) h5).ext (Nat.lt_of_lt_of_le h5 (below2 HB0.out HB.out).size)
      have kc := fun o => HB.out.cell (p := ⟨w.heap.size, o, none⟩) s0
      have sz := Nat.lt_of_lt_of_le s0 HB.out.size
      have d0 := fun y => (ext_cell wr y (p := ⟨w.heap.size, 0, none⟩) sz).trans ((kc 0).trans c0)
      have d1 := fun y => (ext_cell wr y (p := ⟨w.heap.size, 1, none⟩) sz).trans ((kc 1).trans c1)
      have d2 := fun y => (ext_cell wr y (p := ⟨w.heap.size, 2, none⟩) sz).trans ((kc 2).trans c2)
      have d3 := fun y => (ext_cell wr y (p := ⟨w.heap.size, 3, none⟩) sz).trans ((kc 3).trans c3)
      have x0 := fun y => (X y).1; have x1 := fun y => (X y).2.1; have x2 := fun y => (X y).2.2.1; have x3 := fun y => (X y).2.2.2.1
      have hE := eqlNt x.nt en
      have HX := Lib.hid hx
      have q1 : (0 : Int) ≤ (k : Int) := by omega
      have q2 : (k : Int) < (l.length : Int) := by omega
      clear hx h6 X kc sz c0 c1 c2 c3
      cases hq : decide (x.nt = en) with
      | true =>
        rw [hq] at hE
        have HQ := Lib.hid hq
        clear hq
        go_wp2_with fail
        refine wp_region_ext (by kernel_rfl) (by kernel_rfl) ?_
        repeat (go_big_quiet_step (fail))
        refine wpQuiet_nil ?_
        intro _ hw'
        obtain ⟨y, hw''⟩ := hw'
        subst hw''
        go_wp2_with fail
        go_ret
        refine ⟨?_, below2 HB0.out (HB.out.trans ((ext_below wr y).mono HB.out.size))⟩
        rw [fnB_hit HX.out HQ.out HA.out]; rfl
      | false =>
        rw [hq] at hE
        have HQ := Lib.hid hq
        clear hq
        go_wp2_with fail
        refine wp_region_ext (by kernel_rfl) (by kernel_rfl) ?_
        repeat (go_big_quiet_step (fail))
        refine wpQuiet_nil ?_
        intro _ hw'
        obtain ⟨y, hw''⟩ := hw'
        subst hw''
        go_wp2_with fail
        go_roundw
        case rel =>
          refine ⟨k + 1, by omega, by go_num, HB.out.trans ((ext_below wr y).mono HB.out.size), fun j q hj hq => ?_⟩
          rcases Nat.lt_or_ge j k with e | e
          · exact HA.out j q e hq
          · have : j = k := by omega
            subst this
            rw [HX.out] at hq; injection hq with hq; subst hq; exact HQ.out
        case measure => simp [intOf]; omega
    · obtain rfl : k = l.length := by omega
      go_wp2_with fail
      go_ret
      exact ⟨by rw [fnB_miss HA.out]; rfl, below2 HB0.out HB.out⟩
end Go.Proofs.YtdmobgdgeiiicaaGreat
