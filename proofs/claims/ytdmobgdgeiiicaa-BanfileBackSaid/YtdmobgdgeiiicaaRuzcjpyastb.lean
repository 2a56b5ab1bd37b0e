/- Texts put together: BfA. No condition. -/
import Derived.Test.YtdmobgdgeiiicaaRdkppyfjgpd
import Derived.Test.YtdmobgdgeiiicaaRplhpbicjpr
import Derived.Test.YtdmobgdgeiiicaaRtogozubisl
namespace Go.Proofs.Ytdmobgdgeiiicaa
open Go.RowKit

theorem neqBa_one (a : Ba) (W : World) : (binOp .neq 28 (.agg #[.bool a.nt.ad.v6, .int .u64 a.nt.ad.hi, .int .u64 a.nt.ad.lo, .int .i64 a.nt.bits, .int .i64 a.till]) (.agg #[.bool a.nt.ad.v6, .int .u64 a.nt.ad.hi, .int .u64 a.nt.ad.lo, .int .i64 a.nt.bits, .int .i64 a.till])).run Try.prog W = .ok (.bool false) W := by
  go_simp
set_option maxRecDepth 100000 in
set_option maxHeartbeats 8000000 in
theorem bans_same (v u : Value) (L : List Ba) (w : World) (hv : ReadsL baV 5 w v L) (hu : ReadsL baV 5 w u L) :
    Calls Try.prog 21 #[v, u] w fun e w' => e = .returned (.bool true) ∧ Below w.heap.size w w' := by
  obtain ⟨hm, p, c, rfl, h3⟩ := bas_open hv
  obtain ⟨hm1, p1, c1, rfl, k3⟩ := bas_open hu
  clear hv hu
  go_enter Try.func21, Try.ntmps21
  go_wp2_with fail
  go_loopw [5] (fun i' wr => ∃ k : Nat, k ≤ L.length ∧ i' = .int .i64 k ∧ Hid (Below w.heap.size w wr)) (fun i' _ => L.length - (intOf i').toNat)
  case atStart => exact ⟨0, by omega, rfl, Below.refl _ _⟩
  case round =>
    obtain ⟨k, hk, rfl, HB⟩ := hrel
    by_cases hlt : k < L.length
    · obtain ⟨p, hp⟩ : ∃ p, L[k]? = some p := ⟨_, List.getElem?_eq_getElem hlt⟩
      obtain ⟨b1, o1, rfl, hc1, hb1, hx1⟩ := h3 (by omega)
      obtain ⟨b2, o2, rfl, hc2, hb2, hx2⟩ := k3 (by omega)
      have K := ((hx1 k p hp).below HB.out hb1).ext (Nat.lt_of_lt_of_le hb1 HB.out.size)
      have K2 := ((hx2 k p hp).below HB.out hb2).ext (Nat.lt_of_lt_of_le hb2 HB.out.size)
      have x0 := fun y => (K y).1; have x1 := fun y => (K y).2.1; have x2 := fun y => (K y).2.2.1; have x3 := fun y => (K y).2.2.2.1; have x4 := fun y => (K y).2.2.2.2
      have y0 := fun y => (K2 y).1; have y1 := fun y => (K2 y).2.1; have y2 := fun y => (K2 y).2.2.1; have y3 := fun y => (K2 y).2.2.2.1; have y4 := fun y => (K2 y).2.2.2.2
      have q1 : (0 : Int) ≤ (k : Int) := by omega
      have q2 : (k : Int) < (L.length : Int) := by omega
      have hq := fun W => neqBa_one p W
      clear K K2 hp hx1 hx2 h3 k3
      go_wp2_with fail
      refine wp_region_ext (by kernel_rfl) (by kernel_rfl) ?_
      repeat (go_big_quiet_step (fail))
      refine wpQuiet_nil ?_
      first | (intro _ hw'; obtain ⟨gx, hw''⟩ := hw'; subst hw'') | intro gx
      clear x0 x1 x2 x3 x4 y0 y1 y2 y3 y4 hq
      go_wp2_with fail
      go_roundw
      case rel => exact ⟨k + 1, by omega, by go_num, below2 HB.out (ext_below wr gx)⟩
      case measure => simp [intOf]; omega
    · obtain rfl : k = L.length := by omega
      have q2 : ¬ ((L.length : Int) < (L.length : Int)) := by omega
      go_wp2_with fail
      go_ret
      exact ⟨rfl, HB.out⟩
theorem bfHas_hit {l : List Ba} {k : Nat} {x : Ba} {n : Nt} (hx : l[k]? = some x) (h : x.nt = n) : bfHas l n = true := by
  unfold bfHas
  rw [List.any_eq_true]
  exact ⟨x, List.mem_of_getElem? hx, decide_eq_true h⟩
theorem bfHas_miss {l : List Ba} {n : Nt} (h : ∀ j q, j < l.length → l[j]? = some q → decide (q.nt = n) = false) : bfHas l n = false :=
  bfHas_no fun x hx e => by
    obtain ⟨j, hj⟩ := List.mem_iff_getElem?.1 hx
    have := h j x (List.getElem?_eq_some_iff.1 hj).1 hj
    rw [decide_eq_true e] at this; cases this
end Go.Proofs.Ytdmobgdgeiiicaa
