/- Texts put together: Siege. No condition. -/
import Derived.Test.YtppmjbnhghaffaaRoifxhjprci
import Derived.Test.YtppmjbnhghaffaaRhjxhtaxwiv
namespace Go.Proofs.Ytppmjbnhghaffaa
open Go.RowKit
set_option linter.unusedSimpArgs false
set_option linter.unusedVariables false

/-- the first place at which it holds, or -1 -/
def fnI (l : List Pe) (t : Pe → Bool) : Int := match l.findIdx? t with | some i => (i : Int) | none => -1
theorem fnI_hit {l : List Pe} {t : Pe → Bool} {k : Nat} {p : Pe} (hp : l[k]? = some p) (ht : t p = true) (hA : ∀ j q, j < k → l[j]? = some q → t q = false) : fnI l t = k := by
  have h : l.findIdx? t = some k := by
    rw [List.findIdx?_eq_some_iff_getElem]
    obtain ⟨hk, e⟩ := List.getElem?_eq_some_iff.1 hp
    refine ⟨hk, by rw [e]; exact ht, fun j hj => ?_⟩
    rw [hA j _ hj (List.getElem?_eq_getElem (by omega))]; simp
  unfold fnI; rw [h]
theorem fnI_miss {l : List Pe} {t : Pe → Bool} (hA : ∀ j q, j < l.length → l[j]? = some q → t q = false) : fnI l t = -1 := by
  have h : l.findIdx? t = none := by
    rw [List.findIdx?_eq_none_iff]
    intro x hx
    obtain ⟨j, hj, e⟩ := List.getElem_of_mem hx
    exact hA j x hj (by rw [List.getElem?_eq_getElem hj, e])
  unfold fnI; rw [h]
/-- the first place of an end's peer -/
def fdI (l : List Pe) (e : En) : Int := fnI l fun p => decide (p.en = e)

set_option maxRecDepth 100000 in
set_option maxHeartbeats 4000000 in
/-- slices.IndexFunc at peers, whatever the test -/
theorem peIndexFunc (g : Nat) (lb : Array Value) (t : Pe → Bool) (v : Value) (l : List Pe) (w : World) (h : ReadsL peV 10 w v l)
    (hp : ∀ (W : World) (x : Pe), x ∈ l → Below w.heap.size w W → Calls Try.prog g (#[.agg #[.bool x.en.ad.v6, .int .u64 x.en.ad.hi, .int .u64 x.en.ad.lo, .int .i64 x.en.port, .bool x.came, .int .i64 x.since, .int .i64 x.pts, .int .i64 x.at_, .int .i64 x.ping, .int .i64 x.work]] ++ lb) W fun e w' => e = .returned (.bool (t x)) ∧ Below w.heap.size w w') :
    (∀ args w, (callFunc g args).run Try.prog w = .ok (.enter g args) w) →
    Calls Try.prog 109 #[v, .func (.func g) #[] lb] w fun e w' => e = .returned (.int .i64 (fnI l t)) ∧ Below w.heap.size w w' := by
  intro eg
  obtain ⟨hm, p, c, rfl, h3⟩ := pes_open h
  clear h
  have HP := Lib.hid hp
  clear hp
  go_enter Try.func109, Try.ntmps109
  go_wp2_with fail
  go_loopw [5, 8] (fun _ i' wr => ∃ k : Nat, k ≤ l.length ∧ i' = .int .i64 k ∧ Hid (Below w.heap.size w wr) ∧ Hid (∀ j q, j < k → l[j]? = some q → t q = false)) (fun _ i' _ => l.length - (intOf i').toNat)
  case atStart => exact ⟨0, by omega, rfl, Below.refl _ _, fun j q hj => absurd hj (Nat.not_lt_zero _)⟩
  case round =>
    obtain ⟨k, hk, rfl, HB, HA⟩ := hrel
    by_cases hlt : k < l.length
    · obtain ⟨x, hx⟩ : ∃ x, l[k]? = some x := ⟨_, List.getElem?_eq_getElem hlt⟩
      obtain ⟨b, o, rfl, h4, h5, h6⟩ := h3 (by omega)
      have K := (h6 k x hx).below HB.out h5
      have HC := HP.out wr x (List.mem_of_getElem? hx) HB.out
      have HX := Lib.hid hx
      have q1 : (0 : Int) ≤ (k : Int) := by omega
      have q2 : (k : Int) < (l.length : Int) := by omega
      obtain ⟨k0, k1, k2, k3, k4, k5, k6, k7, k8, k9⟩ := K
      clear hx h6 HP
      cases hq : t x with
      | true =>
        rw [hq] at HC
        have HQ := Lib.hid hq
        clear hq
        go_wp2_with (go_at_fn g; (with_reducible refine HC.mono ?_); rintro e w' ⟨rfl, hb'⟩)
        go_ret
        refine ⟨?_, hb'⟩
        rw [fnI_hit HX.out HQ.out HA.out]; rfl
      | false =>
        rw [hq] at HC
        have HQ := Lib.hid hq
        clear hq
        go_wp2_with (go_at_fn g; (with_reducible refine HC.mono ?_); rintro e w' ⟨rfl, hb'⟩)
        go_roundw
        case rel =>
          refine ⟨k + 1, by omega, by go_num, hb', fun j q hj hq => ?_⟩
          rcases Nat.lt_or_ge j k with e | e
          · exact HA.out j q e hq
          · have : j = k := by omega
            subst this
            rw [HX.out] at hq; injection hq with hq; subst hq; exact HQ.out
        case measure => simp [intOf]; omega
    · obtain rfl : k = l.length := by omega
      go_wp2_with fail
      go_ret
      exact ⟨by rw [fnI_miss HA.out]; rfl, HB.out⟩

set_option maxRecDepth 100000 in
set_option maxHeartbeats 4000000 in
theorem refIndex_any (v : Value) (l : List Pe) (en : En) (w : World) (h : ReadsL peV 10 w v l) :
    Calls Try.prog 60 #[v, .agg #[.bool en.ad.v6, .int .u64 en.ad.hi, .int .u64 en.ad.lo, .int .i64 en.port]] w fun e w' => e = .returned (.int .i64 (fdI l en)) ∧ Below w.heap.size w w' := by
  obtain ⟨hm, p, c, rfl, h3⟩ := pes_open h
  clear h
  unfold fdI
  go_enter Try.func60, Try.ntmps60
  go_upto_region 2 with fail
  go_name_world W0 hW0
  have b0 : Below w.heap.size w W0 := by subst hW0; (repeat (first | with_reducible assumption | with_reducible exact Below.refl _ _ | with_reducible refine Below.setCell ?_ (by first | omega | (simp; done) | (simp; omega)) _ | with_reducible refine Below.alloc ?_ (by first | omega | (simp; done) | (simp; omega)) _ | with_reducible refine Below.drew ?_ | (with_reducible refine Below.trans ?_ (Below.mono (by with_reducible assumption) (by first | omega | (simp; done) | (simp; omega)))) | (refine Below.trans ?_ (Below.mono (by assumption) (by first | omega | (simp; done) | (simp; omega))))))
  have s0 : w.heap.size < W0.heap.size := by subst hW0; simp
  have c0 : W0.cell? ⟨w.heap.size, 0, none⟩ = some (.bool en.ad.v6) := by subst hW0; simp [go_sem]
  have c1 : W0.cell? ⟨w.heap.size, 1, none⟩ = some (.int .u64 en.ad.hi) := by subst hW0; simp [go_sem]
  have c2 : W0.cell? ⟨w.heap.size, 2, none⟩ = some (.int .u64 en.ad.lo) := by subst hW0; simp [go_sem]
  have c3 : W0.cell? ⟨w.heap.size, 3, none⟩ = some (.int .i64 en.port) := by subst hW0; simp [go_sem]
  have HB0 := Lib.hid b0
  clear hW0 b0
  go_loopw [5] (fun i' wr => ∃ k : Nat, k ≤ l.length ∧ i' = .int .i64 k ∧ Hid (Below W0.heap.size W0 wr) ∧ Hid (∀ j q, j < k → l[j]? = some q → decide (q.en = en) = false)) (fun i' _ => l.length - (intOf i').toNat)
  case atStart => exact ⟨0, by omega, rfl, Below.refl _ _, fun j q hj => absurd hj (Nat.not_lt_zero _)⟩
  case round =>
    obtain ⟨k, hk, rfl, HB, HA⟩ := hrel
    by_cases hlt : k < l.length
    · obtain ⟨x, hx⟩ : ∃ x, l[k]? = some x := ⟨_, List.getElem?_eq_getElem hlt⟩
      obtain ⟨b, o, rfl, h4, h5, h6⟩ := h3 (by omega)
      have X := ((h6 k x hx).below (below2 HB0.out HB.out) h5).ext (Nat.lt_of_lt_of_le h5 (below2 HB0.out HB.out).size)
      have kc := fun o => HB.out.cell (p := ⟨w.heap.size, o, none⟩) s0
      have sz := Nat.lt_of_lt_of_le s0 HB.out.size
      have d0 := fun y => (ext_cell wr y (p := ⟨w.heap.size, 0, none⟩) sz).trans ((kc 0).trans c0)
      have d1 := fun y => (ext_cell wr y (p := ⟨w.heap.size, 1, none⟩) sz).trans ((kc 1).trans c1)
      have d2 := fun y => (ext_cell wr y (p := ⟨w.heap.size, 2, none⟩) sz).trans ((kc 2).trans c2)
      have d3 := fun y => (ext_cell wr y (p := ⟨w.heap.size, 3, none⟩) sz).trans ((kc 3).trans c3)
      have x0 := fun y => (X y).1; have x1 := fun y => (X y).2.1; have x2 := fun y => (X y).2.2.1; have x3 := fun y => (X y).2.2.2.1
      have hE := eqlEn x.en en
      have HX := Lib.hid hx
      have q1 : (0 : Int) ≤ (k : Int) := by omega
      have q2 : (k : Int) < (l.length : Int) := by omega
      clear hx h6 X kc sz c0 c1 c2 c3
      cases hq : decide (x.en = en) with
      | true =>
        rw [hq] at hE
        have HQ := Lib.hid hq
        clear hq
        go_wp2_with fail
        refine wp_region_ext (by kernel_rfl) (by kernel_rfl) ?_
        repeat (go_big_quiet_step (fail))
        refine wpQuiet_nil ?_
        intro _ hw'
        obtain ⟨y, hw''⟩ := hw'
        subst hw''
        go_wp2_with fail
        go_ret
        refine ⟨?_, below2 HB0.out (HB.out.trans ((ext_below wr y).mono HB.out.size))⟩
        rw [fnI_hit HX.out HQ.out HA.out]; rfl
      | false =>
        rw [hq] at hE
        have HQ := Lib.hid hq
        clear hq
        go_wp2_with fail
        refine wp_region_ext (by kernel_rfl) (by kernel_rfl) ?_
        repeat (go_big_quiet_step (fail))
        refine wpQuiet_nil ?_
        intro _ hw'
        obtain ⟨y, hw''⟩ := hw'
        subst hw''
        go_wp2_with fail
        go_roundw
        case rel =>
          refine ⟨k + 1, by omega, by go_num, HB.out.trans ((ext_below wr y).mono HB.out.size), fun j q hj hq => ?_⟩
          rcases Nat.lt_or_ge j k with e | e
          · exact HA.out j q e hq
          · have : j = k := by omega
            subst this
            rw [HX.out] at hq; injection hq with hq; subst hq; exact HQ.out
        case measure => simp [intOf]; omega
    · obtain rfl : k = l.length := by omega
      go_wp2_with fail
      go_ret
      exact ⟨by rw [fnI_miss HA.out]; rfl, below2 HB0.out HB.out⟩
end Go.Proofs.Ytppmjbnhghaffaa
