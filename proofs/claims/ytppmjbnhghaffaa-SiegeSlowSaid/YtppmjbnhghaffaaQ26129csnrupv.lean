/- Texts put together: Siege, SiegeB, SiegeC, SiegeD, PlSiege, SiegeG, SiegeE, SiegeH. No condition. -/
import Derived.Test.YtppmjbnhghaffaaQad4fdegdwbil
import Derived.Test.YtppmjbnhghaffaaDel
import Derived.Test.YtppmjbnhghaffaaQae214cktgloe
import Derived.Test.YtppmjbnhghaffaaApp
import Derived.Test.YtppmjbnhghaffaaCat
/- The contracts of siege and of the document's: what stands where. Conditions: numbers are 64 bits. -/
namespace Go.Proofs.Ytppmjbnhghaffaa
open Go.RowKit
set_option linter.unusedSimpArgs false
set_option linter.unusedVariables false

/-- the first place at which it holds, or -1 -/
def fnI (l : List Pe) (t : Pe → Bool) : Int := match l.findIdx? t with | some i => (i : Int) | none => -1
theorem fnI_hit {l : List Pe} {t : Pe → Bool} {k : Nat} {p : Pe} (hp : l[k]? = some p) (ht : t p = true) (hA : ∀ j q, j < k → l[j]? = some q → t q = false) : fnI l t = k := by
  have h : l.findIdx? t = some k := by
    rw [List.findIdx?_eq_some_iff_getElem]
    obtain ⟨hk, e⟩ := List.getElem?_eq_some_iff.1 hp
    refine ⟨hk, by rw [e]; exact ht, fun j hj => ?_⟩
    rw [hA j _ hj (List.getElem?_eq_getElem (by omega))]; simp
  unfold fnI; rw [h]
theorem fnI_miss {l : List Pe} {t : Pe → Bool} (hA : ∀ j q, j < l.length → l[j]? = some q → t q = false) : fnI l t = -1 := by
  have h : l.findIdx? t = none := by
    rw [List.findIdx?_eq_none_iff]
    intro x hx
    obtain ⟨j, hj, e⟩ := List.getElem_of_mem hx
    exact hA j x hj (by rw [List.getElem?_eq_getElem hj, e])
  unfold fnI; rw [h]
/-- the first place of an end's peer -/
def fdI (l : List Pe) (e : En) : Int := fnI l fun p => decide (p.en = e)

set_option maxRecDepth 100000 in
set_option maxHeartbeats 4000000 in
/-- slices.IndexFunc at peers, whatever the test -/
theorem peIndexFunc (g : Nat) (lb : Array Value) (t : Pe → Bool) (v : Value) (l : List Pe) (w : World) (h : ReadsL peV 10 w v l)
    (hp : ∀ (W : World) (x : Pe), x ∈ l → Below w.heap.size w W → Calls Try.prog g (#[.agg #[.bool x.en.ad.v6, .int .u64 x.en.ad.hi, .int .u64 x.en.ad.lo, .int .i64 x.en.port, .bool x.came, .int .i64 x.since, .int .i64 x.pts, .int .i64 x.at_, .int .i64 x.ping, .int .i64 x.work]] ++ lb) W fun e w' => e = .returned (.bool (t x)) ∧ Below w.heap.size w w') :
    (∀ args w, (callFunc g args).run Try.prog w = .ok (.enter g args) w) →
    Calls Try.prog 109 #[v, .func (.func g) #[] lb] w fun e w' => e = .returned (.int .i64 (fnI l t)) ∧ Below w.heap.size w w' := by
  intro eg
  obtain ⟨hm, p, c, rfl, h3⟩ := pes_open h
  clear h
  have HP := Lib.hid hp
  clear hp
  go_enter Try.func109, Try.ntmps109
  go_wp2_with fail
  go_loopw [5, 8] (fun _ i' wr => ∃ k : Nat, k ≤ l.length ∧ i' = .int .i64 k ∧ Hid (Below w.heap.size w wr) ∧ Hid (∀ j q, j < k → l[j]? = some q → t q = false)) (fun _ i' _ => l.length - (intOf i').toNat)
  case atStart => exact ⟨0, by omega, rfl, Below.refl _ _, fun j q hj => absurd hj (Nat.not_lt_zero _)⟩
  case round =>
    obtain ⟨k, hk, rfl, HB, HA⟩ := hrel
    by_cases hlt : k < l.length
    · obtain ⟨x, hx⟩ : ∃ x, l[k]? = some x := ⟨_, List.getElem?_eq_getElem hlt⟩
      obtain ⟨b, o, rfl, h4, h5, h6⟩ := h3 (by omega)
      have K := (h6 k x hx).below HB.out h5
      have HC := HP.out wr x (List.mem_of_getElem? hx) HB.out
      have HX := Lib.hid hx
      have q1 : (0 : Int) ≤ (k : Int) := by omega
      have q2 : (k : Int) < (l.length : Int) := by omega
      obtain ⟨k0, k1, k2, k3, k4, k5, k6, k7, k8, k9⟩ := K
      clear hx h6 HP
      cases hq : t x with
      | true =>
        rw [hq] at HC
        have HQ := Lib.hid hq
        clear hq
        go_wp2_with (go_at_fn g; (with_reducible refine HC.mono ?_); rintro e w' ⟨rfl, hb'⟩)
        go_ret
        refine ⟨?_, hb'⟩
        rw [fnI_hit HX.out HQ.out HA.out]; rfl
      | false =>
        rw [hq] at HC
        have HQ := Lib.hid hq
        clear hq
        go_wp2_with (go_at_fn g; (with_reducible refine HC.mono ?_); rintro e w' ⟨rfl, hb'⟩)
        go_roundw
        case rel =>
          refine ⟨k + 1, by omega, by go_num, hb', fun j q hj hq => ?_⟩
          rcases Nat.lt_or_ge j k with e | e
          · exact HA.out j q e hq
          · have : j = k := by omega
            subst this
            rw [HX.out] at hq; injection hq with hq; subst hq; exact HQ.out
        case measure => simp [intOf]; omega
    · obtain rfl : k = l.length := by omega
      go_wp2_with fail
      go_ret
      exact ⟨by rw [fnI_miss HA.out]; rfl, HB.out⟩

set_option maxRecDepth 100000 in
set_option maxHeartbeats 4000000 in
theorem find_clo (p : Pe) (en : En) (B : Nat) (w : World) (c0 : w.cell? ⟨B, 0, none⟩ = some (.bool en.ad.v6)) (c1 : w.cell? ⟨B, 1, none⟩ = some (.int .u64 en.ad.hi)) (c2 : w.cell? ⟨B, 2, none⟩ = some (.int .u64 en.ad.lo)) (c3 : w.cell? ⟨B, 3, none⟩ = some (.int .i64 en.port)) (hB : B < w.heap.size) :
    Calls Try.prog 154 #[.agg #[.bool p.en.ad.v6, .int .u64 p.en.ad.hi, .int .u64 p.en.ad.lo, .int .i64 p.en.port, .bool p.came, .int .i64 p.since, .int .i64 p.pts, .int .i64 p.at_, .int .i64 p.ping, .int .i64 p.work], .pointer (some ⟨B, 0, none⟩)] w fun e w' => e = .returned (.bool (decide (p.en = en))) ∧ Below w.heap.size w w' := by
  have hE := eqlEn p.en en
  have hne : B ≠ w.heap.size := by omega
  go_enter Try.func154, Try.ntmps154
  go_wp2_with fail
  go_ret
  exact ⟨rfl, by (repeat (first | with_reducible assumption | with_reducible exact Below.refl _ _ | with_reducible refine Below.setCell ?_ (by first | omega | (simp; done) | (simp; omega)) _ | with_reducible refine Below.alloc ?_ (by first | omega | (simp; done) | (simp; omega)) _ | with_reducible refine Below.drew ?_ | (with_reducible refine Below.trans ?_ (Below.mono (by with_reducible assumption) (by first | omega | (simp; done) | (simp; omega)))) | (refine Below.trans ?_ (Below.mono (by assumption) (by first | omega | (simp; done) | (simp; omega))))))⟩
set_option maxRecDepth 100000 in
set_option maxHeartbeats 4000000 in
theorem find_any (v : Value) (l : List Pe) (en : En) (w : World) (h : ReadsL peV 10 w v l) :
    Calls Try.prog 125 #[v, .agg #[.bool en.ad.v6, .int .u64 en.ad.hi, .int .u64 en.ad.lo, .int .i64 en.port]] w fun e w' => e = .returned (.int .i64 (fdI l en)) ∧ Below w.heap.size w w' := by
  obtain ⟨W, hW⟩ : ∃ W, W = w.alloc (.cells #[.bool en.ad.v6, .int .u64 en.ad.hi, .int .u64 en.ad.lo, .int .i64 en.port] 34) := ⟨_, rfl⟩
  have bW : Below w.heap.size w W := by subst hW; (repeat (first | with_reducible assumption | with_reducible exact Below.refl _ _ | with_reducible refine Below.setCell ?_ (by first | omega | (simp; done) | (simp; omega)) _ | with_reducible refine Below.alloc ?_ (by first | omega | (simp; done) | (simp; omega)) _ | with_reducible refine Below.drew ?_ | (with_reducible refine Below.trans ?_ (Below.mono (by with_reducible assumption) (by first | omega | (simp; done) | (simp; omega)))) | (refine Below.trans ?_ (Below.mono (by assumption) (by first | omega | (simp; done) | (simp; omega))))))
  have sW : W.heap.size = w.heap.size + 1 := by subst hW; simp
  have c0 : W.cell? ⟨w.heap.size, 0, none⟩ = some (.bool en.ad.v6) := by subst hW; simp [go_sem]
  have c1 : W.cell? ⟨w.heap.size, 1, none⟩ = some (.int .u64 en.ad.hi) := by subst hW; simp [go_sem]
  have c2 : W.cell? ⟨w.heap.size, 2, none⟩ = some (.int .u64 en.ad.lo) := by subst hW; simp [go_sem]
  have c3 : W.cell? ⟨w.heap.size, 3, none⟩ = some (.int .i64 en.port) := by subst hW; simp [go_sem]
  have hcon := peIndexFunc 154 #[.pointer (some ⟨w.heap.size, 0, none⟩)] (fun p => decide (p.en = en)) v l W (ReadsL.below h bW) (fun W' x _ hb => by
    have k := fun o => hb.cell (p := ⟨w.heap.size, o, none⟩) (by show w.heap.size < _; omega)
    refine (find_clo x en w.heap.size W' ((k 0).trans c0) ((k 1).trans c1) ((k 2).trans c2) ((k 3).trans c3) (Nat.lt_of_lt_of_le (by omega) hb.size)).mono ?_
    rintro e w' ⟨rfl, hb'⟩
    exact ⟨rfl, below2 hb hb'⟩) (enters_of Try.func154 (by kernel_rfl) rfl)
  have HC : Hid (Calls Try.prog 109 #[v, .func (.func 154) #[] #[.pointer (some ⟨w.heap.size, 0, none⟩)]] (w.alloc (.cells #[.bool en.ad.v6, .int .u64 en.ad.hi, .int .u64 en.ad.lo, .int .i64 en.port] 34)) fun e w' => e = .returned (.int .i64 (fdI l en)) ∧ Below w.heap.size w w') := by
    show Calls _ _ _ _ _
    rw [← hW]
    refine hcon.mono ?_
    rintro e w' ⟨rfl, hb'⟩
    exact ⟨rfl, below2 bW hb'⟩
  clear hcon c0 c1 c2 c3 sW bW hW W h
  go_enter Try.func125, Try.ntmps125
  go_wp2_with (go_at_call 109; (with_reducible refine HC.out.mono ?_); rintro e w1 ⟨rfl, b1⟩)
  go_ret
  exact ⟨rfl, b1⟩
set_option maxRecDepth 100000 in
set_option maxHeartbeats 4000000 in
theorem refIndex_any (v : Value) (l : List Pe) (en : En) (w : World) (h : ReadsL peV 10 w v l) :
    Calls Try.prog 60 #[v, .agg #[.bool en.ad.v6, .int .u64 en.ad.hi, .int .u64 en.ad.lo, .int .i64 en.port]] w fun e w' => e = .returned (.int .i64 (fdI l en)) ∧ Below w.heap.size w w' := by
  obtain ⟨hm, p, c, rfl, h3⟩ := pes_open h
  clear h
  unfold fdI
  go_enter Try.func60, Try.ntmps60
  go_upto_region 2 with fail
  go_name_world W0 hW0
  have b0 : Below w.heap.size w W0 := by subst hW0; (repeat (first | with_reducible assumption | with_reducible exact Below.refl _ _ | with_reducible refine Below.setCell ?_ (by first | omega | (simp; done) | (simp; omega)) _ | with_reducible refine Below.alloc ?_ (by first | omega | (simp; done) | (simp; omega)) _ | with_reducible refine Below.drew ?_ | (with_reducible refine Below.trans ?_ (Below.mono (by with_reducible assumption) (by first | omega | (simp; done) | (simp; omega)))) | (refine Below.trans ?_ (Below.mono (by assumption) (by first | omega | (simp; done) | (simp; omega))))))
  have s0 : w.heap.size < W0.heap.size := by subst hW0; simp
  have c0 : W0.cell? ⟨w.heap.size, 0, none⟩ = some (.bool en.ad.v6) := by subst hW0; simp [go_sem]
  have c1 : W0.cell? ⟨w.heap.size, 1, none⟩ = some (.int .u64 en.ad.hi) := by subst hW0; simp [go_sem]
  have c2 : W0.cell? ⟨w.heap.size, 2, none⟩ = some (.int .u64 en.ad.lo) := by subst hW0; simp [go_sem]
  have c3 : W0.cell? ⟨w.heap.size, 3, none⟩ = some (.int .i64 en.port) := by subst hW0; simp [go_sem]
  have HB0 := Lib.hid b0
  clear hW0 b0
  go_loopw [5] (fun i' wr => ∃ k : Nat, k ≤ l.length ∧ i' = .int .i64 k ∧ Hid (Below W0.heap.size W0 wr) ∧ Hid (∀ j q, j < k → l[j]? = some q → decide (q.en = en) = false)) (fun i' _ => l.length - (intOf i').toNat)
  case atStart => exact ⟨0, by omega, rfl, Below.refl _ _, fun j q hj => absurd hj (Nat.not_lt_zero _)⟩
  case round =>
    obtain ⟨k, hk, rfl, HB, HA⟩ := hrel
    by_cases hlt : k < l.length
    · obtain ⟨x, hx⟩ : ∃ x, l[k]? = some x := ⟨_, List.getElem?_eq_getElem hlt⟩
      obtain ⟨b, o, rfl, h4, h5, h6⟩ := h3 (by omega)
      have X := ((h6 k x hx).below (below2 HB0.out HB.out) h5).ext (Nat.lt_of_lt_of_le h5 (below2 HB0.out HB.out).size)
      have kc := fun o => HB.out.cell (p := ⟨w.heap.size, o, none⟩) s0
      have sz := Nat.lt_of_lt_of_le s0 HB.out.size
      have d0 := fun y => (ext_cell wr y (p := ⟨w.heap.size, 0, none⟩) sz).trans ((kc 0).trans c0)
      have d1 := fun y => (ext_cell wr y (p := ⟨w.heap.size, 1, none⟩) sz).trans ((kc 1).trans c1)
      have d2 := fun y => (ext_cell wr y (p := ⟨w.heap.size, 2, none⟩) sz).trans ((kc 2).trans c2)
      have d3 := fun y => (ext_cell wr y (p := ⟨w.heap.size, 3, none⟩) sz).trans ((kc 3).trans c3)
      have x0 := fun y => (X y).1; have x1 := fun y => (X y).2.1; have x2 := fun y => (X y).2.2.1; have x3 := fun y => (X y).2.2.2.1
      have hE := eqlEn x.en en
      have HX := Lib.hid hx
      have q1 : (0 : Int) ≤ (k : Int) := by omega
      have q2 : (k : Int) < (l.length : Int) := by omega
      clear hx h6 X kc sz c0 c1 c2 c3
      cases hq : decide (x.en = en) with
      | true =>
        rw [hq] at hE
        have HQ := Lib.hid hq
        clear hq
        go_wp2_with fail
        refine wp_region_ext (by kernel_rfl) (by kernel_rfl) ?_
        repeat (go_big_quiet_step (fail))
        refine wpQuiet_nil ?_
        intro _ hw'
        obtain ⟨y, hw''⟩ := hw'
        subst hw''
        go_wp2_with fail
        go_ret
        refine ⟨?_, below2 HB0.out (HB.out.trans ((ext_below wr y).mono HB.out.size))⟩
        rw [fnI_hit HX.out HQ.out HA.out]; rfl
      | false =>
        rw [hq] at hE
        have HQ := Lib.hid hq
        clear hq
        go_wp2_with fail
        refine wp_region_ext (by kernel_rfl) (by kernel_rfl) ?_
        repeat (go_big_quiet_step (fail))
        refine wpQuiet_nil ?_
        intro _ hw'
        obtain ⟨y, hw''⟩ := hw'
        subst hw''
        go_wp2_with fail
        go_roundw
        case rel =>
          refine ⟨k + 1, by omega, by go_num, HB.out.trans ((ext_below wr y).mono HB.out.size), fun j q hj hq => ?_⟩
          rcases Nat.lt_or_ge j k with e | e
          · exact HA.out j q e hq
          · have : j = k := by omega
            subst this
            rw [HX.out] at hq; injection hq with hq; subst hq; exact HQ.out
        case measure => simp [intOf]; omega
    · obtain rfl : k = l.length := by omega
      go_wp2_with fail
      go_ret
      exact ⟨by rw [fnI_miss HA.out]; rfl, below2 HB0.out HB.out⟩
set_option maxRecDepth 100000 in
set_option maxHeartbeats 4000000 in
theorem ins_any (v : Value) (l : List Pe) (w : World) (h : ReadsL peV 10 w v l) :
    Calls Try.prog 126 #[v] w fun e w' => e = .returned (.int .i64 (cameL l).length) ∧ Below w.heap.size w w' := by
  obtain ⟨hm, p, c, rfl, h3⟩ := pes_open h
  clear h
  go_enter Try.func126, Try.ntmps126
  go_wp2_with fail
  go_loopw [3, 8] (fun n' i' wr => ∃ k : Nat, k ≤ l.length ∧ i' = .int .i64 k ∧ n' = .int .i64 (cameL (l.take k)).length ∧ Hid (Below w.heap.size w wr)) (fun _ i' _ => l.length - (intOf i').toNat)
  case atStart => exact ⟨0, by omega, rfl, rfl, Below.refl _ _⟩
  case round =>
    obtain ⟨k, hk, rfl, rfl, HB⟩ := hrel
    by_cases hlt : k < l.length
    · obtain ⟨x, hx⟩ : ∃ x, l[k]? = some x := ⟨_, List.getElem?_eq_getElem hlt⟩
      obtain ⟨b, o, rfl, h4, h5, h6⟩ := h3 (by omega)
      have K := (h6 k x hx).below HB.out h5
      have q1 : (0 : Int) ≤ (k : Int) := by omega
      have q2 : (k : Int) < (l.length : Int) := by omega
      have hS := cameL_snoc (l.take k) x
      rw [← show l.take (k + 1) = l.take k ++ [x] by rw [List.take_add_one, hx, Option.toList_some]] at hS
      have HS := Lib.hid hS
      have hcl : (cameL (l.take k)).length ≤ k := Nat.le_trans (cameL_le _) (by rw [List.length_take]; omega)
      obtain ⟨k0, k1, k2, k3, k4, k5, k6, k7, k8, k9⟩ := K
      clear hx h6 hS
      go_upto_region 5 with (refine list_store_blk rfl 66 _ _ rfl (wr.heap.size) _ _ 66 (BlockIs.newAt' _ _ _ (by simp)) rfl rfl (by kernel_rfl) rfl (by simp [Value.oneCell']) wr.heap.size wr (by (repeat (first | with_reducible assumption | with_reducible exact Below.refl _ _ | with_reducible refine Below.setCell ?_ (by first | omega | (simp; done) | (simp; omega)) _ | with_reducible refine Below.alloc ?_ (by first | omega | (simp; done) | (simp; omega)) _ | with_reducible refine Below.drew ?_ | (with_reducible refine Below.trans ?_ (Below.mono (by with_reducible assumption) (by first | omega | (simp; done) | (simp; omega)))) | (refine Below.trans ?_ (Below.mono (by assumption) (by first | omega | (simp; done) | (simp; omega))))))) (Nat.le_refl _) ?_; intro W5 hP hoth hsz b5; clear hoth hsz)
      clear k0 k1 k2 k3 k4 k5 k6 k7 k8 k9
      have HB5 := Lib.hid (HB.out.trans (b5.mono HB.out.size))
      have x0 := hP.cell (i := 0) rfl
      have x1 := hP.cell (i := 1) rfl
      have x2 := hP.cell (i := 2) rfl
      have x3 := hP.cell (i := 3) rfl
      have x4 := hP.cell (i := 4) rfl
      have x5 := hP.cell (i := 5) rfl
      have x6 := hP.cell (i := 6) rfl
      have x7 := hP.cell (i := 7) rfl
      have x8 := hP.cell (i := 8) rfl
      have x9 := hP.cell (i := 9) rfl
      have xf := hP.frozen
      have xl := hP.lt
      cases hc : x.came with
      | false =>
        rw [hc] at x4
        have HS2 : Hid ((cameL (l.take (k + 1))).length = (cameL (l.take k)).length) := by show _ = _; rw [HS.out, hc]; simp
        clear hc
        go_wp2_with fail
        go_roundw
        case rel => exact ⟨k + 1, by omega, by go_num, by rw [HS2.out], HB5.out⟩
        case measure => simp [intOf]; omega
      | true =>
        have HS2 : Hid ((cameL (l.take (k + 1))).length = (cameL (l.take k)).length + 1) := by show _ = _; rw [HS.out, hc, if_pos rfl, List.length_append]; rfl
        rw [hc] at x4
        clear hc
        go_wp2_with fail
        go_roundw
        case rel => exact ⟨k + 1, by omega, by go_num, by rw [HS2.out]; go_num, HB5.out⟩
        case measure => simp [intOf]; omega
    · obtain rfl : k = l.length := by omega
      have HR : Hid (cameL (l.take l.length) = cameL l) := by show _ = _; rw [List.take_length]
      go_wp2_with fail
      go_ret
      exact ⟨by rw [HR.out]; rfl, HB.out⟩
end Go.Proofs.Ytppmjbnhghaffaa
/- The contract of siege.Arrive. Conditions: numbers are 64 bits. -/
namespace Go.Proofs.Ytppmjbnhghaffaa
open Go.RowKit

/-- how many may come, the quotas, the secret -/
structure St where
  most : Int
  q : Qu
  s : Nat
def St.fits (t : St) : Prop := (-9223372036854775808 ≤ t.most ∧ t.most ≤ 9223372036854775807) ∧ t.q.fits ∧ t.s < 18446744073709551616
def pIn (p : Pe) : Pe := { p with came := true }
def arI (l : List Pe) (t : St) : Nat := (fdI l (chE l t.q t.s)).toNat
/-- what becomes of peers when one comes -/
def arL (l : List Pe) (p : Pe) (t : St) : List Pe :=
  if 0 ≤ fdI l p.en then l else if ((cameL l).length : Int) < t.most then l ++ [pIn p] else if chB l t.q t.s = true then (l.take (arI l t) ++ l.drop (arI l t + 1)) ++ [pIn p] else l
def arE (l : List Pe) (p : Pe) (t : St) : En :=
  if 0 ≤ fdI l p.en then zEn else if ((cameL l).length : Int) < t.most then zEn else if chB l t.q t.s = true then chE l t.q t.s else zEn
def arC (l : List Pe) (p : Pe) (t : St) : Int :=
  if 0 ≤ fdI l p.en then 7 else if ((cameL l).length : Int) < t.most then 0 else if chB l t.q t.s = true then 0 else 5
theorem far_frozen {w w' : World} {g : Nat} (h : w.grownBy w' (some g)) {b : Nat} (hb : b < w.heap.size) (hne : b ≠ g) : ∀ o, w'.frozen? ⟨b, o, none⟩ = w.frozen? ⟨b, o, none⟩ := fun o => World.frozen?_of_block (h.block b hb (by simpa using hne))
theorem reads_blk {w : World} {B size : Nat} {us : List Value} {T : TypeId} (h : BlockIs w B us T) (hl : us.length = size) (hs : 0 < size) : Reads w (.slice (some ⟨B, 0, none⟩) 1 1) 1 size us :=
  ⟨by omega, by omega, Or.inr ⟨by omega, B, 0, 1, rfl, by omega, h.lt, fun j x hj => by rw [Nat.zero_add]; exact h.cell hj⟩⟩
theorem fd_at {l : List Pe} {e : En} (h : 0 ≤ fdI l e) : ∃ i p, fdI l e = (i : Nat) ∧ l[i]? = some p ∧ p.en = e := by
  unfold fdI fnI at h ⊢
  cases hf : l.findIdx? fun p => decide (p.en = e) with
  | none => rw [hf] at h; simp at h
  | some i =>
    obtain ⟨hi, hp, _⟩ := List.findIdx?_eq_some_iff_getElem.1 hf
    exact ⟨i, l[i], rfl, List.getElem?_eq_getElem hi, of_decide_eq_true hp⟩
theorem fd_mem {l : List Pe} {p : Pe} (h : p ∈ l) : 0 ≤ fdI l p.en := by
  unfold fdI fnI
  cases hf : l.findIdx? fun q => decide (q.en = p.en) with
  | none =>
    have := List.findIdx?_eq_none_iff.1 hf p h
    simp at this
  | some i => simp
theorem ch_found {l : List Pe} {t : St} (h : chB l t.q t.s = true) : ∃ p, fdI l (chE l t.q t.s) = (arI l t : Nat) ∧ l[arI l t]? = some p ∧ p.en = chE l t.q t.s := by
  unfold chB at h
  cases hk : pkO (cdL l t.q t.s) with
  | none => rw [hk] at h; cases h
  | some x =>
    obtain ⟨j, hj, _, e⟩ := ch_one hk
    have hm : rkGet (cameL l) j ∈ l := by
      rw [rkGet_at (List.getElem?_eq_getElem hj)]
      exact (List.mem_filter.1 (List.getElem_mem hj)).1
    have he : chE l t.q t.s = (rkGet (cameL l) j).en := by unfold chE; rw [hk]; simp only [e]
    have h0 := fd_mem hm
    rw [← he] at h0
    obtain ⟨i, p, hi, hp, hen⟩ := fd_at h0
    have : arI l t = i := by unfold arI; rw [hi]; simp
    exact ⟨p, by rw [this]; exact hi, by rw [this]; exact hp, hen⟩

set_option maxRecDepth 100000 in
set_option maxHeartbeats 16000000 in
theorem arrive_twice (v : Value) (l : List Pe) (hl : ∀ x ∈ l, x.fits) (p : Pe) (t : St) (ht : t.fits) (w : World) (h : ReadsL peV 10 w v l) (hn : l.length ≤ 999999) (hf : 0 ≤ fdI l p.en) :
    Calls Try.prog 79 #[v, .agg #[.bool p.en.ad.v6, .int .u64 p.en.ad.hi, .int .u64 p.en.ad.lo, .int .i64 p.en.port, .bool p.came, .int .i64 p.since, .int .i64 p.pts, .int .i64 p.at_, .int .i64 p.ping, .int .i64 p.work], .agg #[.int .i64 t.most, .int .i64 t.q.group, .int .i64 t.q.ping, .int .i64 t.q.work, .int .i64 t.q.time, .int .u64 t.s]] w fun e w' => ∃ r, e = .returned (.tuple #[r, .agg #[.bool false, .int .u64 0, .int .u64 0, .int .i64 0], .int .i64 7]) ∧ ReadsL peV 10 w' r l ∧ Below w.heap.size w w' := by
  have HC := Lib.hid (fun W (hW : Below w.heap.size w W) => clonePe v l W (ReadsL.below h hW) (by omega))
  have HF := Lib.hid (fun e W (hW : Below w.heap.size w W) => find_any v l e W (ReadsL.below h hW))
  have HF1 := Lib.hid (fun W (hW : Below w.heap.size w W) => find_any v l p.en W (ReadsL.below h hW))
  have HI := Lib.hid (fun W (hW : Below w.heap.size w W) => ins_any v l W (ReadsL.below h hW))
  have HCH := Lib.hid (fun W (hW : Below w.heap.size w W) => choose_any v l hl t.q ht.2.1 t.s ht.2.2 W (ReadsL.below h hW) (by omega))
  have HR := Lib.hid h
  clear h
  generalize fdI l p.en = f at *
  go_enter Try.func79, Try.ntmps79
  go_upto_region 1 with fail
  go_name_world W0 hW0
  obtain ⟨B0, hB0⟩ : ∃ B, B = w.heap.size := ⟨_, rfl⟩
  obtain ⟨B1, hB1⟩ : ∃ B, B = w.heap.size + 1 := ⟨_, rfl⟩
  obtain ⟨B2, hB2⟩ : ∃ B, B = w.heap.size + 2 := ⟨_, rfl⟩
  have hP0 : BlockIs W0 B0 [.bool p.en.ad.v6, .int .u64 p.en.ad.hi, .int .u64 p.en.ad.lo, .int .i64 p.en.port, .bool p.came, .int .i64 p.since, .int .i64 p.pts, .int .i64 p.at_, .int .i64 p.ping, .int .i64 p.work] 66 := by subst hW0 hB0; exact (BlockIs.alloc' (BlockIs.alloc' (BlockIs.newAt' _ _ _ (by simp)) _) _)
  have hS0 : BlockIs W0 B1 [.int .i64 t.most, .int .i64 t.q.group, .int .i64 t.q.ping, .int .i64 t.q.work, .int .i64 t.q.time, .int .u64 t.s] 105 := by subst hW0 hB1; exact (BlockIs.alloc' (BlockIs.newAt' _ _ _ (by simp)) _)
  have hE0 : BlockIs W0 B2 [.bool false, .int .u64 0, .int .u64 0, .int .i64 0] 34 := by subst hW0 hB2; exact (BlockIs.newAt' _ _ _ (by simp))
  have b0 : Below w.heap.size w W0 := by subst hW0; (repeat (first | with_reducible assumption | with_reducible exact Below.refl _ _ | with_reducible refine Below.setCell ?_ (by first | omega | (simp; done) | (simp; omega)) _ | with_reducible refine Below.alloc ?_ (by first | omega | (simp; done) | (simp; omega)) _ | with_reducible refine Below.drew ?_ | (with_reducible refine Below.trans ?_ (Below.mono (by with_reducible assumption) (by first | omega | (simp; done) | (simp; omega)))) | (refine Below.trans ?_ (Below.mono (by assumption) (by first | omega | (simp; done) | (simp; omega))))))
  have z0 : W0.heap.size = w.heap.size + 3 := by subst hW0; simp
  rw [← hB2, ← hB1, ← hB0]
  have l0 : B0 < W0.heap.size := by omega
  have l1 : B1 < W0.heap.size := by omega
  have l2 : B2 < W0.heap.size := by omega
  have n01 : B0 ≠ B1 := by omega
  have n02 : B0 ≠ B2 := by omega
  have n12 : B1 ≠ B2 := by omega
  have g0 : w.heap.size ≤ B0 := by omega
  have g2 : w.heap.size ≤ B2 := by omega
  have gW : w.heap.size ≤ W0.heap.size := by omega
  clear hW0 hB0 hB1 hB2 z0
  have HP0 := Lib.hid hP0; have HS0 := Lib.hid hS0; have HE0 := Lib.hid hE0; have HB0 := Lib.hid b0
  clear hP0 hS0 hE0 b0
  go_upto_region 2 with (go_at_call 100; (with_reducible refine (HC.out _ HB0.out).mono ?_); rintro e w1 ⟨r1, rfl, o1, b1, f1⟩)
  have hP1 := HP0.out.below b1
  have c4 := hP1.cell (i := 4) rfl
  have lP := hP1.lt
  have fP := hP1.frozen
  have z1 := b1.size
  go_upto_region 3 with fail
  go_name_world W2 hW2
  have hP2 : BlockIs W2 B0 [.bool p.en.ad.v6, .int .u64 p.en.ad.hi, .int .u64 p.en.ad.lo, .int .i64 p.en.port, .bool true, .int .i64 p.since, .int .i64 p.pts, .int .i64 p.at_, .int .i64 p.ping, .int .i64 p.work] 66 := by subst hW2; exact hP1.set 4 _
  have hS2 : BlockIs W2 B1 [.int .i64 t.most, .int .i64 t.q.group, .int .i64 t.q.ping, .int .i64 t.q.work, .int .i64 t.q.time, .int .u64 t.s] 105 := by subst hW2; exact (HS0.out.below b1).other (by exact n01) _
  have hE2 : BlockIs W2 B2 [.bool false, .int .u64 0, .int .u64 0, .int .i64 0] 34 := by subst hW2; exact (HE0.out.below b1).other (by exact n02) _
  have o2 : W2.ownsRow W0.heap.size 66 10 r1 l.length (l.flatMap peV) := by subst hW2; exact ownsRow_setCell_below o1 (by exact l0) _
  have b2 : Below w.heap.size w W2 := by subst hW2; exact (below2 HB0.out b1).setCell g0 _
  have z2 : W0.heap.size ≤ W2.heap.size := by subst hW2; simpa using z1
  clear hW2 hP1 c4 lP fP z1 o1 b1
  have HP2 := Lib.hid hP2; have HS2 := Lib.hid hS2; have HE2 := Lib.hid hE2; have HB2 := Lib.hid b2; have HO2 := Lib.hid o2
  have p0 := hP2.cell (i := 0) rfl; have p1 := hP2.cell (i := 1) rfl; have p2 := hP2.cell (i := 2) rfl; have p3 := hP2.cell (i := 3) rfl
  clear hP2 hS2 hE2 b2 o2
  go_upto_region 4 with (go_at_call 125; (with_reducible refine (HF1.out _ HB2.out).mono ?_); rintro e w3 ⟨rfl, b3⟩)
  clear p0 p1 p2 p3
  have hE3 := HE2.out.below b3
  have e0 := hE3.cell (i := 0) rfl; have e1 := hE3.cell (i := 1) rfl; have e2 := hE3.cell (i := 2) rfl; have e3 := hE3.cell (i := 3) rfl
  have lE := hE3.lt
  have fE := hE3.frozen
  have HB3 := Lib.hid (below2 HB2.out b3)
  have HO3 := Lib.hid (owns_below HO2.out b3)
  go_wp2_with fail
  refine bodyPost_named fun W9 h9 => ?_
  have hR9 : BlockIs W9 B2 [.bool false, .int .u64 0, .int .u64 0, .int .i64 0] 34 := by subst h9; exact (((hE3.set 0 _).set 1 _).set 2 _).set 3 _
  have b9 : Below w.heap.size w W9 := by subst h9; exact (((HB3.out.setCell g2 _).setCell g2 _).setCell g2 _).setCell g2 _
  have o9 : W9.ownsRow W0.heap.size 66 10 r1 l.length (l.flatMap peV) := by subst h9; exact ownsRow_setCell_below (ownsRow_setCell_below (ownsRow_setCell_below (ownsRow_setCell_below HO3.out (by exact l2) _) (by exact l2) _) (by exact l2) _) (by exact l2) _
  clear h9
  have e90 := hR9.cell (i := 0) rfl; have e91 := hR9.cell (i := 1) rfl; have e92 := hR9.cell (i := 2) rfl; have e93 := hR9.cell (i := 3) rfl
  exact bodyPost_ret (v := .tuple #[r1, .agg #[.bool false, .int .u64 0, .int .u64 0, .int .i64 0], .int .i64 7]) (by simp [results, Try.results79, go_sem, e90, e91, e92, e93]) rfl ⟨_, rfl, owns_reads o9, b9⟩

set_option maxRecDepth 100000 in
set_option maxHeartbeats 16000000 in
theorem arrive_room (v : Value) (l : List Pe) (hl : ∀ x ∈ l, x.fits) (p : Pe) (t : St) (ht : t.fits) (w : World) (h : ReadsL peV 10 w v l) (hn : l.length ≤ 999999) (hf : ¬ (0 ≤ fdI l p.en)) (hr : ((cameL l).length : Int) < t.most) :
    Calls Try.prog 79 #[v, .agg #[.bool p.en.ad.v6, .int .u64 p.en.ad.hi, .int .u64 p.en.ad.lo, .int .i64 p.en.port, .bool p.came, .int .i64 p.since, .int .i64 p.pts, .int .i64 p.at_, .int .i64 p.ping, .int .i64 p.work], .agg #[.int .i64 t.most, .int .i64 t.q.group, .int .i64 t.q.ping, .int .i64 t.q.work, .int .i64 t.q.time, .int .u64 t.s]] w fun e w' => ∃ r, e = .returned (.tuple #[r, .agg #[.bool false, .int .u64 0, .int .u64 0, .int .i64 0], .int .i64 0]) ∧ ReadsL peV 10 w' r (l ++ [pIn p]) ∧ Below w.heap.size w w' := by
  have HC := Lib.hid (fun W (hW : Below w.heap.size w W) => clonePe v l W (ReadsL.below h hW) (by omega))
  have HF := Lib.hid (fun e W (hW : Below w.heap.size w W) => find_any v l e W (ReadsL.below h hW))
  have HF1 := Lib.hid (fun W (hW : Below w.heap.size w W) => find_any v l p.en W (ReadsL.below h hW))
  have HI := Lib.hid (fun W (hW : Below w.heap.size w W) => ins_any v l W (ReadsL.below h hW))
  have HCH := Lib.hid (fun W (hW : Below w.heap.size w W) => choose_any v l hl t.q ht.2.1 t.s ht.2.2 W (ReadsL.below h hW) (by omega))
  have HR := Lib.hid h
  clear h
  generalize fdI l p.en = f at *
  generalize (cameL l).length = m at *
  go_enter Try.func79, Try.ntmps79
  go_upto_region 1 with fail
  go_name_world W0 hW0
  obtain ⟨B0, hB0⟩ : ∃ B, B = w.heap.size := ⟨_, rfl⟩
  obtain ⟨B1, hB1⟩ : ∃ B, B = w.heap.size + 1 := ⟨_, rfl⟩
  obtain ⟨B2, hB2⟩ : ∃ B, B = w.heap.size + 2 := ⟨_, rfl⟩
  have hP0 : BlockIs W0 B0 [.bool p.en.ad.v6, .int .u64 p.en.ad.hi, .int .u64 p.en.ad.lo, .int .i64 p.en.port, .bool p.came, .int .i64 p.since, .int .i64 p.pts, .int .i64 p.at_, .int .i64 p.ping, .int .i64 p.work] 66 := by subst hW0 hB0; exact (BlockIs.alloc' (BlockIs.alloc' (BlockIs.newAt' _ _ _ (by simp)) _) _)
  have hS0 : BlockIs W0 B1 [.int .i64 t.most, .int .i64 t.q.group, .int .i64 t.q.ping, .int .i64 t.q.work, .int .i64 t.q.time, .int .u64 t.s] 105 := by subst hW0 hB1; exact (BlockIs.alloc' (BlockIs.newAt' _ _ _ (by simp)) _)
  have hE0 : BlockIs W0 B2 [.bool false, .int .u64 0, .int .u64 0, .int .i64 0] 34 := by subst hW0 hB2; exact (BlockIs.newAt' _ _ _ (by simp))
  have b0 : Below w.heap.size w W0 := by subst hW0; (repeat (first | with_reducible assumption | with_reducible exact Below.refl _ _ | with_reducible refine Below.setCell ?_ (by first | omega | (simp; done) | (simp; omega)) _ | with_reducible refine Below.alloc ?_ (by first | omega | (simp; done) | (simp; omega)) _ | with_reducible refine Below.drew ?_ | (with_reducible refine Below.trans ?_ (Below.mono (by with_reducible assumption) (by first | omega | (simp; done) | (simp; omega)))) | (refine Below.trans ?_ (Below.mono (by assumption) (by first | omega | (simp; done) | (simp; omega))))))
  have z0 : W0.heap.size = w.heap.size + 3 := by subst hW0; simp
  rw [← hB2, ← hB1, ← hB0]
  have l0 : B0 < W0.heap.size := by omega
  have l1 : B1 < W0.heap.size := by omega
  have l2 : B2 < W0.heap.size := by omega
  have n01 : B0 ≠ B1 := by omega
  have n02 : B0 ≠ B2 := by omega
  have n12 : B1 ≠ B2 := by omega
  have g0 : w.heap.size ≤ B0 := by omega
  have g2 : w.heap.size ≤ B2 := by omega
  have gW : w.heap.size ≤ W0.heap.size := by omega
  clear hW0 hB0 hB1 hB2 z0
  have HP0 := Lib.hid hP0; have HS0 := Lib.hid hS0; have HE0 := Lib.hid hE0; have HB0 := Lib.hid b0
  clear hP0 hS0 hE0 b0
  go_upto_region 2 with (go_at_call 100; (with_reducible refine (HC.out _ HB0.out).mono ?_); rintro e w1 ⟨r1, rfl, o1, b1, f1⟩)
  have hP1 := HP0.out.below b1
  have c4 := hP1.cell (i := 4) rfl
  have lP := hP1.lt
  have fP := hP1.frozen
  have z1 := b1.size
  go_upto_region 3 with fail
  go_name_world W2 hW2
  have hP2 : BlockIs W2 B0 [.bool p.en.ad.v6, .int .u64 p.en.ad.hi, .int .u64 p.en.ad.lo, .int .i64 p.en.port, .bool true, .int .i64 p.since, .int .i64 p.pts, .int .i64 p.at_, .int .i64 p.ping, .int .i64 p.work] 66 := by subst hW2; exact hP1.set 4 _
  have hS2 : BlockIs W2 B1 [.int .i64 t.most, .int .i64 t.q.group, .int .i64 t.q.ping, .int .i64 t.q.work, .int .i64 t.q.time, .int .u64 t.s] 105 := by subst hW2; exact (HS0.out.below b1).other (by exact n01) _
  have hE2 : BlockIs W2 B2 [.bool false, .int .u64 0, .int .u64 0, .int .i64 0] 34 := by subst hW2; exact (HE0.out.below b1).other (by exact n02) _
  have o2 : W2.ownsRow W0.heap.size 66 10 r1 l.length (l.flatMap peV) := by subst hW2; exact ownsRow_setCell_below o1 (by exact l0) _
  have b2 : Below w.heap.size w W2 := by subst hW2; exact (below2 HB0.out b1).setCell g0 _
  have z2 : W0.heap.size ≤ W2.heap.size := by subst hW2; simpa using z1
  clear hW2 hP1 c4 lP fP z1 o1 b1
  have HP2 := Lib.hid hP2; have HS2 := Lib.hid hS2; have HE2 := Lib.hid hE2; have HB2 := Lib.hid b2; have HO2 := Lib.hid o2
  have p0 := hP2.cell (i := 0) rfl; have p1 := hP2.cell (i := 1) rfl; have p2 := hP2.cell (i := 2) rfl; have p3 := hP2.cell (i := 3) rfl
  clear hP2 hS2 hE2 b2 o2
  go_upto_region 5 with (go_at_call 125; (with_reducible refine (HF1.out _ HB2.out).mono ?_); rintro e w3 ⟨rfl, b3⟩)
  clear p0 p1 p2 p3
  have HB3 := Lib.hid (below2 HB2.out b3)
  have hS3 := HS2.out.below b3
  have es0 : ∀ y, (ext w3 y).cell? ⟨B1, 0, none⟩ = some (.int .i64 t.most) := fun y => (ext_cell w3 y (p := ⟨B1, 0, none⟩) hS3.lt).trans (hS3.cell (i := 0) rfl)
  have HIx := Lib.hid (fun y => HI.out (ext w3 y) (below2 HB3.out (ext_below w3 y)))
  have HPb := Lib.hid (HP2.out.below b3); have HEb := Lib.hid (HE2.out.below b3); have HOb := Lib.hid (owns_below HO2.out b3); have HSb := Lib.hid hS3
  have z3 := Nat.le_trans z2 b3.size
  clear hS3 HP2 HE2 HO2 HS2 HB2 b3 z2 HI
  try simp only [List.append_eq, List.cons_append, List.nil_append]
  refine wp_region_ext (by kernel_rfl) (by kernel_rfl) ?_
  repeat (go_big_quiet_step ((first | (go_at_call 126; with_reducible exact qe (HIx.out _)))))
  refine wpQuiet_nil ?_
  intro W4 hw'
  obtain ⟨x, hW4⟩ := hw'
  have bx : Below w3.heap.size w3 W4 := by rw [hW4]; exact ext_below w3 x
  have hP4 := HPb.out.below bx
  have HE4 := Lib.hid (HEb.out.below bx); have HO4 := Lib.hid (owns_below HOb.out bx); have HB4 := Lib.hid (below2 HB3.out bx)
  have hS4 := HSb.out.below bx
  have z4 := Nat.le_trans z3 bx.size
  clear es0 HIx HPb HEb HOb HSb HB3 bx hW4 z3
  have p0 := hP4.cell (i := 0) rfl; have p1 := hP4.cell (i := 1) rfl; have p2 := hP4.cell (i := 2) rfl; have p3 := hP4.cell (i := 3) rfl; have p4 := hP4.cell (i := 4) rfl; have p5 := hP4.cell (i := 5) rfl; have p6 := hP4.cell (i := 6) rfl; have p7 := hP4.cell (i := 7) rfl; have p8 := hP4.cell (i := 8) rfl; have p9 := hP4.cell (i := 9) rfl
  have hne : r1.ownBlock ≠ some B2 := fun e => by have := (HO4.out.lt _ e).1; omega
  clear hP4 hS4
  go_wp2_with (at_builtin; refine list_app_reads_g peRow rfl _ _ rfl W0.heap.size _ l.length _ rfl (HO4.out.alloc _) _ 1 (peV (pIn p)) rfl (reads_one (us := peV (pIn p)) rfl (Nat.succ_pos 9)) (peV_one1 _) (by omega) (by omega) (by simp; omega) ?_; intro v' w7 hO7 hg7; have hE7 := blk_grown (HE4.out.alloc' _) hg7 hne; have e0 := hE7.cell (i := 0) rfl; have e1 := hE7.cell (i := 1) rfl; have e2 := hE7.cell (i := 2) rfl; have e3 := hE7.cell (i := 3) rfl; have lE := hE7.lt; have fE := hE7.frozen; have HB7 := Lib.hid (below_grown (HO4.out.alloc _) (HB4.out.alloc HB4.out.size _) gW (by simp; omega) hg7))
  refine bodyPost_named fun W9 h9 => ?_
  have hR9 : BlockIs W9 B2 [.bool false, .int .u64 0, .int .u64 0, .int .i64 0] 34 := by subst h9; exact (((hE7.set 0 _).set 1 _).set 2 _).set 3 _
  have b9 : Below w.heap.size w W9 := by subst h9; exact (((HB7.out.setCell g2 _).setCell g2 _).setCell g2 _).setCell g2 _
  have o9 : W9.ownsRow W0.heap.size 66 10 v' (l ++ [pIn p]).length ((l ++ [pIn p]).flatMap peV) := by rw [List.length_append, pe_snoc]; subst h9; exact ownsRow_setCell_below (ownsRow_setCell_below (ownsRow_setCell_below (ownsRow_setCell_below hO7 (by exact l2) _) (by exact l2) _) (by exact l2) _) (by exact l2) _
  clear h9
  have e90 := hR9.cell (i := 0) rfl; have e91 := hR9.cell (i := 1) rfl; have e92 := hR9.cell (i := 2) rfl; have e93 := hR9.cell (i := 3) rfl
  exact bodyPost_ret (v := .tuple #[v', .agg #[.bool false, .int .u64 0, .int .u64 0, .int .i64 0], .int .i64 0]) (by simp [results, Try.results79, go_sem, e90, e91, e92, e93]) rfl ⟨_, rfl, owns_reads o9, b9⟩

set_option maxRecDepth 100000 in
set_option maxHeartbeats 16000000 in
theorem arrive_full (v : Value) (l : List Pe) (hl : ∀ x ∈ l, x.fits) (p : Pe) (t : St) (ht : t.fits) (w : World) (h : ReadsL peV 10 w v l) (hn : l.length ≤ 999999) (hf : ¬ (0 ≤ fdI l p.en)) (hr : ¬ (((cameL l).length : Int) < t.most)) (hc : chB l t.q t.s = false) :
    Calls Try.prog 79 #[v, .agg #[.bool p.en.ad.v6, .int .u64 p.en.ad.hi, .int .u64 p.en.ad.lo, .int .i64 p.en.port, .bool p.came, .int .i64 p.since, .int .i64 p.pts, .int .i64 p.at_, .int .i64 p.ping, .int .i64 p.work], .agg #[.int .i64 t.most, .int .i64 t.q.group, .int .i64 t.q.ping, .int .i64 t.q.work, .int .i64 t.q.time, .int .u64 t.s]] w fun e w' => ∃ r, e = .returned (.tuple #[r, .agg #[.bool false, .int .u64 0, .int .u64 0, .int .i64 0], .int .i64 5]) ∧ ReadsL peV 10 w' r l ∧ Below w.heap.size w w' := by
  have HC := Lib.hid (fun W (hW : Below w.heap.size w W) => clonePe v l W (ReadsL.below h hW) (by omega))
  have HF := Lib.hid (fun e W (hW : Below w.heap.size w W) => find_any v l e W (ReadsL.below h hW))
  have HF1 := Lib.hid (fun W (hW : Below w.heap.size w W) => find_any v l p.en W (ReadsL.below h hW))
  have HI := Lib.hid (fun W (hW : Below w.heap.size w W) => ins_any v l W (ReadsL.below h hW))
  have HCH := Lib.hid (fun W (hW : Below w.heap.size w W) => choose_any v l hl t.q ht.2.1 t.s ht.2.2 W (ReadsL.below h hW) (by omega))
  have HR := Lib.hid h
  clear h
  rw [hc] at HCH
  generalize fdI l p.en = f at *
  generalize (cameL l).length = m at *
  generalize chE l t.q t.s = ce at *
  go_enter Try.func79, Try.ntmps79
  go_upto_region 1 with fail
  go_name_world W0 hW0
  obtain ⟨B0, hB0⟩ : ∃ B, B = w.heap.size := ⟨_, rfl⟩
  obtain ⟨B1, hB1⟩ : ∃ B, B = w.heap.size + 1 := ⟨_, rfl⟩
  obtain ⟨B2, hB2⟩ : ∃ B, B = w.heap.size + 2 := ⟨_, rfl⟩
  have hP0 : BlockIs W0 B0 [.bool p.en.ad.v6, .int .u64 p.en.ad.hi, .int .u64 p.en.ad.lo, .int .i64 p.en.port, .bool p.came, .int .i64 p.since, .int .i64 p.pts, .int .i64 p.at_, .int .i64 p.ping, .int .i64 p.work] 66 := by subst hW0 hB0; exact (BlockIs.alloc' (BlockIs.alloc' (BlockIs.newAt' _ _ _ (by simp)) _) _)
  have hS0 : BlockIs W0 B1 [.int .i64 t.most, .int .i64 t.q.group, .int .i64 t.q.ping, .int .i64 t.q.work, .int .i64 t.q.time, .int .u64 t.s] 105 := by subst hW0 hB1; exact (BlockIs.alloc' (BlockIs.newAt' _ _ _ (by simp)) _)
  have hE0 : BlockIs W0 B2 [.bool false, .int .u64 0, .int .u64 0, .int .i64 0] 34 := by subst hW0 hB2; exact (BlockIs.newAt' _ _ _ (by simp))
  have b0 : Below w.heap.size w W0 := by subst hW0; (repeat (first | with_reducible assumption | with_reducible exact Below.refl _ _ | with_reducible refine Below.setCell ?_ (by first | omega | (simp; done) | (simp; omega)) _ | with_reducible refine Below.alloc ?_ (by first | omega | (simp; done) | (simp; omega)) _ | with_reducible refine Below.drew ?_ | (with_reducible refine Below.trans ?_ (Below.mono (by with_reducible assumption) (by first | omega | (simp; done) | (simp; omega)))) | (refine Below.trans ?_ (Below.mono (by assumption) (by first | omega | (simp; done) | (simp; omega))))))
  have z0 : W0.heap.size = w.heap.size + 3 := by subst hW0; simp
  rw [← hB2, ← hB1, ← hB0]
  have l0 : B0 < W0.heap.size := by omega
  have l1 : B1 < W0.heap.size := by omega
  have l2 : B2 < W0.heap.size := by omega
  have n01 : B0 ≠ B1 := by omega
  have n02 : B0 ≠ B2 := by omega
  have n12 : B1 ≠ B2 := by omega
  have g0 : w.heap.size ≤ B0 := by omega
  have g2 : w.heap.size ≤ B2 := by omega
  have gW : w.heap.size ≤ W0.heap.size := by omega
  clear hW0 hB0 hB1 hB2 z0
  have HP0 := Lib.hid hP0; have HS0 := Lib.hid hS0; have HE0 := Lib.hid hE0; have HB0 := Lib.hid b0
  clear hP0 hS0 hE0 b0
  go_upto_region 2 with (go_at_call 100; (with_reducible refine (HC.out _ HB0.out).mono ?_); rintro e w1 ⟨r1, rfl, o1, b1, f1⟩)
  have hP1 := HP0.out.below b1
  have c4 := hP1.cell (i := 4) rfl
  have lP := hP1.lt
  have fP := hP1.frozen
  have z1 := b1.size
  go_upto_region 3 with fail
  go_name_world W2 hW2
  have hP2 : BlockIs W2 B0 [.bool p.en.ad.v6, .int .u64 p.en.ad.hi, .int .u64 p.en.ad.lo, .int .i64 p.en.port, .bool true, .int .i64 p.since, .int .i64 p.pts, .int .i64 p.at_, .int .i64 p.ping, .int .i64 p.work] 66 := by subst hW2; exact hP1.set 4 _
  have hS2 : BlockIs W2 B1 [.int .i64 t.most, .int .i64 t.q.group, .int .i64 t.q.ping, .int .i64 t.q.work, .int .i64 t.q.time, .int .u64 t.s] 105 := by subst hW2; exact (HS0.out.below b1).other (by exact n01) _
  have hE2 : BlockIs W2 B2 [.bool false, .int .u64 0, .int .u64 0, .int .i64 0] 34 := by subst hW2; exact (HE0.out.below b1).other (by exact n02) _
  have o2 : W2.ownsRow W0.heap.size 66 10 r1 l.length (l.flatMap peV) := by subst hW2; exact ownsRow_setCell_below o1 (by exact l0) _
  have b2 : Below w.heap.size w W2 := by subst hW2; exact (below2 HB0.out b1).setCell g0 _
  have z2 : W0.heap.size ≤ W2.heap.size := by subst hW2; simpa using z1
  clear hW2 hP1 c4 lP fP z1 o1 b1
  have HP2 := Lib.hid hP2; have HS2 := Lib.hid hS2; have HE2 := Lib.hid hE2; have HB2 := Lib.hid b2; have HO2 := Lib.hid o2
  have p0 := hP2.cell (i := 0) rfl; have p1 := hP2.cell (i := 1) rfl; have p2 := hP2.cell (i := 2) rfl; have p3 := hP2.cell (i := 3) rfl
  clear hP2 hS2 hE2 b2 o2
  go_upto_region 5 with (go_at_call 125; (with_reducible refine (HF1.out _ HB2.out).mono ?_); rintro e w3 ⟨rfl, b3⟩)
  clear p0 p1 p2 p3
  have HB3 := Lib.hid (below2 HB2.out b3)
  have hS3 := HS2.out.below b3
  have es0 : ∀ y, (ext w3 y).cell? ⟨B1, 0, none⟩ = some (.int .i64 t.most) := fun y => (ext_cell w3 y (p := ⟨B1, 0, none⟩) hS3.lt).trans (hS3.cell (i := 0) rfl)
  have HIx := Lib.hid (fun y => HI.out (ext w3 y) (below2 HB3.out (ext_below w3 y)))
  have HPb := Lib.hid (HP2.out.below b3); have HEb := Lib.hid (HE2.out.below b3); have HOb := Lib.hid (owns_below HO2.out b3); have HSb := Lib.hid hS3
  have z3 := Nat.le_trans z2 b3.size
  clear hS3 HP2 HE2 HO2 HS2 HB2 b3 z2 HI
  try simp only [List.append_eq, List.cons_append, List.nil_append]
  refine wp_region_ext (by kernel_rfl) (by kernel_rfl) ?_
  repeat (go_big_quiet_step ((first | (go_at_call 126; with_reducible exact qe (HIx.out _)))))
  refine wpQuiet_nil ?_
  intro W4 hw'
  obtain ⟨x, hW4⟩ := hw'
  have bx : Below w3.heap.size w3 W4 := by rw [hW4]; exact ext_below w3 x
  have hP4 := HPb.out.below bx
  have HE4 := Lib.hid (HEb.out.below bx); have HO4 := Lib.hid (owns_below HOb.out bx); have HB4 := Lib.hid (below2 HB3.out bx)
  have hS4 := HSb.out.below bx
  have z4 := Nat.le_trans z3 bx.size
  clear es0 HIx HPb HEb HOb HSb HB3 bx hW4 z3
  have s1 := hS4.cell (i := 1) rfl; have s2 := hS4.cell (i := 2) rfl; have s3 := hS4.cell (i := 3) rfl; have s4 := hS4.cell (i := 4) rfl; have s5 := hS4.cell (i := 5) rfl
  have HP4 := Lib.hid hP4
  clear hS4 hP4
  go_upto_region 8 with (go_at_call 127; (with_reducible refine (HCH.out _ HB4.out).mono ?_); rintro e w5 ⟨rfl, b5⟩)
  go_name_world W5 hW5
  have bw5 : Below w5.heap.size w5 W5 := by subst hW5; (repeat (first | with_reducible assumption | with_reducible exact Below.refl _ _ | with_reducible refine Below.setCell ?_ (by first | omega | (simp; done) | (simp; omega)) _ | with_reducible refine Below.alloc ?_ (by first | omega | (simp; done) | (simp; omega)) _ | with_reducible refine Below.drew ?_ | (with_reducible refine Below.trans ?_ (Below.mono (by with_reducible assumption) (by first | omega | (simp; done) | (simp; omega)))) | (refine Below.trans ?_ (Below.mono (by assumption) (by first | omega | (simp; done) | (simp; omega))))))
  have hD5 : BlockIs W5 w5.heap.size [.bool ce.ad.v6, .int .u64 ce.ad.hi, .int .u64 ce.ad.lo, .int .i64 ce.port] 34 := by subst hW5; with_reducible exact BlockIs.newAt' w5 _ _ (by first | rfl | simp)
  obtain ⟨B4, hB4⟩ : ∃ B, B = w5.heap.size := ⟨_, rfl⟩
  rw [← hB4] at hD5 ⊢
  clear hW5
  have n4 : W4.heap.size ≤ B4 := by rw [hB4]; exact b5.size
  have b45 := below2 b5 bw5
  clear b5 bw5 hB4
  have b3 := b45
  have HB2 := HB4; have HO2 := HO4; have HE2 := HE4
  have hE3 := HE2.out.below b3
  have e0 := hE3.cell (i := 0) rfl; have e1 := hE3.cell (i := 1) rfl; have e2 := hE3.cell (i := 2) rfl; have e3 := hE3.cell (i := 3) rfl
  have lE := hE3.lt
  have fE := hE3.frozen
  have HB3 := Lib.hid (below2 HB2.out b3)
  have HO3 := Lib.hid (owns_below HO2.out b3)
  go_wp2_with fail
  refine bodyPost_named fun W9 h9 => ?_
  have hR9 : BlockIs W9 B2 [.bool false, .int .u64 0, .int .u64 0, .int .i64 0] 34 := by subst h9; exact (((hE3.set 0 _).set 1 _).set 2 _).set 3 _
  have b9 : Below w.heap.size w W9 := by subst h9; exact (((HB3.out.setCell g2 _).setCell g2 _).setCell g2 _).setCell g2 _
  have o9 : W9.ownsRow W0.heap.size 66 10 r1 l.length (l.flatMap peV) := by subst h9; exact ownsRow_setCell_below (ownsRow_setCell_below (ownsRow_setCell_below (ownsRow_setCell_below HO3.out (by exact l2) _) (by exact l2) _) (by exact l2) _) (by exact l2) _
  clear h9
  have e90 := hR9.cell (i := 0) rfl; have e91 := hR9.cell (i := 1) rfl; have e92 := hR9.cell (i := 2) rfl; have e93 := hR9.cell (i := 3) rfl
  exact bodyPost_ret (v := .tuple #[r1, .agg #[.bool false, .int .u64 0, .int .u64 0, .int .i64 0], .int .i64 5]) (by simp [results, Try.results79, go_sem, e90, e91, e92, e93]) rfl ⟨_, rfl, owns_reads o9, b9⟩

end Go.Proofs.Ytppmjbnhghaffaa
/- The contract of siege.Arrive, where somebody goes. Conditions: numbers are 64 bits. -/
namespace Go.Proofs.Ytppmjbnhghaffaa
open Go.RowKit

set_option maxRecDepth 100000 in
set_option maxHeartbeats 16000000 in
theorem arrive_out (v : Value) (l : List Pe) (hl : ∀ x ∈ l, x.fits) (p : Pe) (t : St) (ht : t.fits) (w : World) (h : ReadsL peV 10 w v l) (hn : l.length ≤ 999999) (hf : ¬ (0 ≤ fdI l p.en)) (hr : ¬ (((cameL l).length : Int) < t.most)) (hc : chB l t.q t.s = true) :
    Calls Try.prog 79 #[v, .agg #[.bool p.en.ad.v6, .int .u64 p.en.ad.hi, .int .u64 p.en.ad.lo, .int .i64 p.en.port, .bool p.came, .int .i64 p.since, .int .i64 p.pts, .int .i64 p.at_, .int .i64 p.ping, .int .i64 p.work], .agg #[.int .i64 t.most, .int .i64 t.q.group, .int .i64 t.q.ping, .int .i64 t.q.work, .int .i64 t.q.time, .int .u64 t.s]] w fun e w' => ∃ r, e = .returned (.tuple #[r, .agg #[.bool ((chE l t.q t.s)).ad.v6, .int .u64 ((chE l t.q t.s)).ad.hi, .int .u64 ((chE l t.q t.s)).ad.lo, .int .i64 ((chE l t.q t.s)).port], .int .i64 0]) ∧ ReadsL peV 10 w' r ((l.take (arI l t) ++ l.drop (arI l t + 1)) ++ [pIn p]) ∧ Below w.heap.size w w' := by
  have HC := Lib.hid (fun W (hW : Below w.heap.size w W) => clonePe v l W (ReadsL.below h hW) (by omega))
  have HF := Lib.hid (fun e W (hW : Below w.heap.size w W) => find_any v l e W (ReadsL.below h hW))
  have HF1 := Lib.hid (fun W (hW : Below w.heap.size w W) => find_any v l p.en W (ReadsL.below h hW))
  have HI := Lib.hid (fun W (hW : Below w.heap.size w W) => ins_any v l W (ReadsL.below h hW))
  have HCH := Lib.hid (fun W (hW : Below w.heap.size w W) => choose_any v l hl t.q ht.2.1 t.s ht.2.2 W (ReadsL.below h hW) (by omega))
  have HR := Lib.hid h
  clear h
  obtain ⟨px, hfd, hat, hen⟩ := ch_found hc
  have hil := (List.getElem?_eq_some_iff.1 hat).1
  have HF2 := Lib.hid (fun W (hW : Below w.heap.size w W) => HF.out (chE l t.q t.s) W hW)
  rw [hc] at HCH
  rw [hfd] at HF2
  clear hat hen hfd
  generalize fdI l p.en = f at *
  generalize (cameL l).length = m at *
  generalize chE l t.q t.s = ce at *
  generalize arI l t = i at *
  go_enter Try.func79, Try.ntmps79
  go_upto_region 1 with fail
  go_name_world W0 hW0
  obtain ⟨B0, hB0⟩ : ∃ B, B = w.heap.size := ⟨_, rfl⟩
  obtain ⟨B1, hB1⟩ : ∃ B, B = w.heap.size + 1 := ⟨_, rfl⟩
  obtain ⟨B2, hB2⟩ : ∃ B, B = w.heap.size + 2 := ⟨_, rfl⟩
  have hP0 : BlockIs W0 B0 [.bool p.en.ad.v6, .int .u64 p.en.ad.hi, .int .u64 p.en.ad.lo, .int .i64 p.en.port, .bool p.came, .int .i64 p.since, .int .i64 p.pts, .int .i64 p.at_, .int .i64 p.ping, .int .i64 p.work] 66 := by subst hW0 hB0; exact (BlockIs.alloc' (BlockIs.alloc' (BlockIs.newAt' _ _ _ (by simp)) _) _)
  have hS0 : BlockIs W0 B1 [.int .i64 t.most, .int .i64 t.q.group, .int .i64 t.q.ping, .int .i64 t.q.work, .int .i64 t.q.time, .int .u64 t.s] 105 := by subst hW0 hB1; exact (BlockIs.alloc' (BlockIs.newAt' _ _ _ (by simp)) _)
  have hE0 : BlockIs W0 B2 [.bool false, .int .u64 0, .int .u64 0, .int .i64 0] 34 := by subst hW0 hB2; exact (BlockIs.newAt' _ _ _ (by simp))
  have b0 : Below w.heap.size w W0 := by subst hW0; (repeat (first | with_reducible assumption | with_reducible exact Below.refl _ _ | with_reducible refine Below.setCell ?_ (by first | omega | (simp; done) | (simp; omega)) _ | with_reducible refine Below.alloc ?_ (by first | omega | (simp; done) | (simp; omega)) _ | with_reducible refine Below.drew ?_ | (with_reducible refine Below.trans ?_ (Below.mono (by with_reducible assumption) (by first | omega | (simp; done) | (simp; omega)))) | (refine Below.trans ?_ (Below.mono (by assumption) (by first | omega | (simp; done) | (simp; omega))))))
  have z0 : W0.heap.size = w.heap.size + 3 := by subst hW0; simp
  rw [← hB2, ← hB1, ← hB0]
  have l0 : B0 < W0.heap.size := by omega
  have l1 : B1 < W0.heap.size := by omega
  have l2 : B2 < W0.heap.size := by omega
  have n01 : B0 ≠ B1 := by omega
  have n02 : B0 ≠ B2 := by omega
  have n12 : B1 ≠ B2 := by omega
  have g0 : w.heap.size ≤ B0 := by omega
  have g2 : w.heap.size ≤ B2 := by omega
  have gW : w.heap.size ≤ W0.heap.size := by omega
  clear hW0 hB0 hB1 hB2 z0
  have HP0 := Lib.hid hP0; have HS0 := Lib.hid hS0; have HE0 := Lib.hid hE0; have HB0 := Lib.hid b0
  clear hP0 hS0 hE0 b0
  go_upto_region 2 with (go_at_call 100; (with_reducible refine (HC.out _ HB0.out).mono ?_); rintro e w1 ⟨r1, rfl, o1, b1, f1⟩)
  have hP1 := HP0.out.below b1
  have c4 := hP1.cell (i := 4) rfl
  have lP := hP1.lt
  have fP := hP1.frozen
  have z1 := b1.size
  go_upto_region 3 with fail
  go_name_world W2 hW2
  have hP2 : BlockIs W2 B0 [.bool p.en.ad.v6, .int .u64 p.en.ad.hi, .int .u64 p.en.ad.lo, .int .i64 p.en.port, .bool true, .int .i64 p.since, .int .i64 p.pts, .int .i64 p.at_, .int .i64 p.ping, .int .i64 p.work] 66 := by subst hW2; exact hP1.set 4 _
  have hS2 : BlockIs W2 B1 [.int .i64 t.most, .int .i64 t.q.group, .int .i64 t.q.ping, .int .i64 t.q.work, .int .i64 t.q.time, .int .u64 t.s] 105 := by subst hW2; exact (HS0.out.below b1).other (by exact n01) _
  have hE2 : BlockIs W2 B2 [.bool false, .int .u64 0, .int .u64 0, .int .i64 0] 34 := by subst hW2; exact (HE0.out.below b1).other (by exact n02) _
  have o2 : W2.ownsRow W0.heap.size 66 10 r1 l.length (l.flatMap peV) := by subst hW2; exact ownsRow_setCell_below o1 (by exact l0) _
  have b2 : Below w.heap.size w W2 := by subst hW2; exact (below2 HB0.out b1).setCell g0 _
  have z2 : W0.heap.size ≤ W2.heap.size := by subst hW2; simpa using z1
  clear hW2 hP1 c4 lP fP z1 o1 b1
  have HP2 := Lib.hid hP2; have HS2 := Lib.hid hS2; have HE2 := Lib.hid hE2; have HB2 := Lib.hid b2; have HO2 := Lib.hid o2
  have p0 := hP2.cell (i := 0) rfl; have p1 := hP2.cell (i := 1) rfl; have p2 := hP2.cell (i := 2) rfl; have p3 := hP2.cell (i := 3) rfl
  clear hP2 hS2 hE2 b2 o2
  go_upto_region 5 with (go_at_call 125; (with_reducible refine (HF1.out _ HB2.out).mono ?_); rintro e w3 ⟨rfl, b3⟩)
  clear p0 p1 p2 p3
  have HB3 := Lib.hid (below2 HB2.out b3)
  have hS3 := HS2.out.below b3
  have es0 : ∀ y, (ext w3 y).cell? ⟨B1, 0, none⟩ = some (.int .i64 t.most) := fun y => (ext_cell w3 y (p := ⟨B1, 0, none⟩) hS3.lt).trans (hS3.cell (i := 0) rfl)
  have HIx := Lib.hid (fun y => HI.out (ext w3 y) (below2 HB3.out (ext_below w3 y)))
  have HPb := Lib.hid (HP2.out.below b3); have HEb := Lib.hid (HE2.out.below b3); have HOb := Lib.hid (owns_below HO2.out b3); have HSb := Lib.hid hS3
  have z3 := Nat.le_trans z2 b3.size
  clear hS3 HP2 HE2 HO2 HS2 HB2 b3 z2 HI
  try simp only [List.append_eq, List.cons_append, List.nil_append]
  refine wp_region_ext (by kernel_rfl) (by kernel_rfl) ?_
  repeat (go_big_quiet_step ((first | (go_at_call 126; with_reducible exact qe (HIx.out _)))))
  refine wpQuiet_nil ?_
  intro W4 hw'
  obtain ⟨x, hW4⟩ := hw'
  have bx : Below w3.heap.size w3 W4 := by rw [hW4]; exact ext_below w3 x
  have hP4 := HPb.out.below bx
  have HE4 := Lib.hid (HEb.out.below bx); have HO4 := Lib.hid (owns_below HOb.out bx); have HB4 := Lib.hid (below2 HB3.out bx)
  have hS4 := HSb.out.below bx
  have z4 := Nat.le_trans z3 bx.size
  clear es0 HIx HPb HEb HOb HSb HB3 bx hW4 z3
  have s1 := hS4.cell (i := 1) rfl; have s2 := hS4.cell (i := 2) rfl; have s3 := hS4.cell (i := 3) rfl; have s4 := hS4.cell (i := 4) rfl; have s5 := hS4.cell (i := 5) rfl
  have HP4 := Lib.hid hP4
  clear hS4 hP4
  go_upto_region 8 with (go_at_call 127; (with_reducible refine (HCH.out _ HB4.out).mono ?_); rintro e w5 ⟨rfl, b5⟩)
  go_name_world W5 hW5
  have bw5 : Below w5.heap.size w5 W5 := by subst hW5; (repeat (first | with_reducible assumption | with_reducible exact Below.refl _ _ | with_reducible refine Below.setCell ?_ (by first | omega | (simp; done) | (simp; omega)) _ | with_reducible refine Below.alloc ?_ (by first | omega | (simp; done) | (simp; omega)) _ | with_reducible refine Below.drew ?_ | (with_reducible refine Below.trans ?_ (Below.mono (by with_reducible assumption) (by first | omega | (simp; done) | (simp; omega)))) | (refine Below.trans ?_ (Below.mono (by assumption) (by first | omega | (simp; done) | (simp; omega))))))
  have hD5 : BlockIs W5 w5.heap.size [.bool ce.ad.v6, .int .u64 ce.ad.hi, .int .u64 ce.ad.lo, .int .i64 ce.port] 34 := by subst hW5; with_reducible exact BlockIs.newAt' w5 _ _ (by first | rfl | simp)
  obtain ⟨B4, hB4⟩ : ∃ B, B = w5.heap.size := ⟨_, rfl⟩
  rw [← hB4] at hD5 ⊢
  clear hW5
  have n4 : W4.heap.size ≤ B4 := by rw [hB4]; exact b5.size
  have b45 := below2 b5 bw5
  clear b5 bw5 hB4
  have q0 := hD5.cell (i := 0) rfl; have q1 := hD5.cell (i := 1) rfl; have q2 := hD5.cell (i := 2) rfl; have q3 := hD5.cell (i := 3) rfl
  go_upto_region 11 with (go_at_call 125; (with_reducible refine (HF2.out _ (below2 HB4.out b45)).mono ?_); rintro e w6 ⟨rfl, b6⟩)
  clear q0 q1 q2 q3
  have b46 := below2 b45 b6
  have hP6 := HP4.out.below b46; have hE6 := HE4.out.below b46; have hD6 := hD5.below b6
  have HO6 := Lib.hid (owns_below HO4.out b46); have HB6 := Lib.hid (below2 HB4.out b46)
  have hnl : l ≠ [] := fun e => by subst e; simp at hil
  obtain ⟨g, cap, rfl⟩ := f1 hnl
  have hgl := (HO6.out.lt g rfl)
  have zz6 : W0.heap.size ≤ w6.heap.size := Nat.le_trans z4 b46.size
  have HO6d := Lib.hid (World.ownsRow.drew HO6.out)
  have hwr : IntKind.i64.wrap ((i : Int) + 1) = (i : Int) + 1 := IntWalk.i64_in _ (by omega)
  have n0g : B0 ≠ g := by omega
  have n2g : B2 ≠ g := by omega
  have n4g : B4 ≠ g := by have := HO4.out.lt g rfl; omega
  have n42 : B4 ≠ B2 := by have := HE4.out.lt; omega
  have far0 : ∀ (W : World) (o k : Nat) (x : Value), (W.setCell ⟨B2, k, none⟩ x).cell? ⟨B0, o, none⟩ = W.cell? ⟨B0, o, none⟩ := fun W o k x => World.cell?_setCell_far W _ _ x (by show B2 ≠ B0; omega)
  have far4 : ∀ (W : World) (o k : Nat) (x : Value), (W.setCell ⟨B2, k, none⟩ x).cell? ⟨B4, o, none⟩ = W.cell? ⟨B4, o, none⟩ := fun W o k x => World.cell?_setCell_far W _ _ x (by show B2 ≠ B4; omega)
  have m0 := hP6.lt; have m2 := hE6.lt; have m4 := hD6.lt
  have HDel : Hid (∀ W : World, W.ownsRow W0.heap.size 66 10 (.slice (some ⟨g, 0, none⟩) l.length cap) l.length (l.flatMap peV) → Calls Try.prog 113 #[.slice (some ⟨g, 0, none⟩) l.length cap, .int .i64 i, .int .i64 ((i : Int) + 1)] W fun e w' =>
      e = .returned (.slice (some ⟨g, 0, none⟩) (i + (l.length - (i + 1))) cap) ∧ w'.ownsRow W0.heap.size 66 10 (.slice (some ⟨g, 0, none⟩) (i + (l.length - (i + 1))) cap) (i + (l.length - (i + 1))) ((l.take i ++ l.drop (i + 1)).flatMap peV) ∧ W.grownBy w' (some g)) := fun W ho => by
    have := peDelete l i (i + 1) (by omega) (by omega) (by omega) g cap W0.heap.size W ho
    rwa [show (((i + 1 : Nat)) : Int) = (i : Int) + 1 from rfl] at this
  have u0 := hP6.cell (i := 0) rfl; have u1 := hP6.cell (i := 1) rfl; have u2 := hP6.cell (i := 2) rfl; have u3 := hP6.cell (i := 3) rfl; have u4 := hP6.cell (i := 4) rfl; have u5 := hP6.cell (i := 5) rfl; have u6 := hP6.cell (i := 6) rfl; have u7 := hP6.cell (i := 7) rfl; have u8 := hP6.cell (i := 8) rfl; have u9 := hP6.cell (i := 9) rfl
  have q0 := hD6.cell (i := 0) rfl; have q1 := hD6.cell (i := 1) rfl; have q2 := hD6.cell (i := 2) rfl; have q3 := hD6.cell (i := 3) rfl
  have HP6 := Lib.hid hP6; have HE6 := Lib.hid hE6; have HD6 := Lib.hid hD6
  clear hP6 hE6 hD6 hD5
  go_region_held3 (fun w' => w'.cell? ⟨B0, 0, none⟩ = some (.bool p.en.ad.v6) ∧ w'.cell? ⟨B0, 1, none⟩ = some (.int .u64 p.en.ad.hi) ∧ w'.cell? ⟨B0, 2, none⟩ = some (.int .u64 p.en.ad.lo) ∧ w'.cell? ⟨B0, 3, none⟩ = some (.int .i64 p.en.port) ∧ w'.cell? ⟨B0, 4, none⟩ = some (.bool true) ∧ w'.cell? ⟨B0, 5, none⟩ = some (.int .i64 p.since) ∧ w'.cell? ⟨B0, 6, none⟩ = some (.int .i64 p.pts) ∧ w'.cell? ⟨B0, 7, none⟩ = some (.int .i64 p.at_) ∧ w'.cell? ⟨B0, 8, none⟩ = some (.int .i64 p.ping) ∧ w'.cell? ⟨B0, 9, none⟩ = some (.int .i64 p.work) ∧ w'.cell? ⟨B4, 0, none⟩ = some (.bool ce.ad.v6) ∧ w'.cell? ⟨B4, 1, none⟩ = some (.int .u64 ce.ad.hi) ∧ w'.cell? ⟨B4, 2, none⟩ = some (.int .u64 ce.ad.lo) ∧ w'.cell? ⟨B4, 3, none⟩ = some (.int .i64 ce.port)) (first | go_keep | (simp (disch := omega) [*]; done) | (simp only [far0, far4]; simp [*])) (first | (go_at_call 113; (with_reducible refine (HDel.out _ (World.ownsRow.drew (World.ownsRow.alloc HO6.out _))).mono ?_); rintro e w7 ⟨rfl, o7, g7⟩; have d0 := far_cell (n := 0) (c := 0) g7 (b := B0) (by first | omega | (simp; done) | (simp; omega) | (simp at *; omega)) n0g; have d4 := far_cell (n := 0) (c := 0) g7 (b := B4) (by first | omega | (simp; done) | (simp; omega) | (simp at *; omega)) n4g; have z7 := g7.size; have hX7 : BlockIs w7 w6.heap.size (peV (pIn p)) 66 := blk_grown (BlockIs.drew' (BlockIs.newAt' w6 (peV (pIn p)) 66 rfl)) g7 (by simp; omega); have hE7 := blk_grown (BlockIs.drew' (BlockIs.alloc' HE6.out _)) g7 (by simp; omega); have z70 : W0.heap.size ≤ w7.heap.size := Nat.le_trans (by simp; omega) g7.size; have bb7 := Below.grown (Below.drew (Below.alloc HB6.out HB6.out.size _)) g7 (by simp; omega) (fun q hq => by injection hq with hq; omega)) | (go_at_call 113; (with_reducible refine (HDel.out _ HO6d.out).mono ?_); rintro e w7 ⟨rfl, o7, g7⟩; have d0 := far_cell (n := 0) (c := 0) g7 (b := B0) (by first | omega | (simp; done) | (simp; omega) | (simp at *; omega)) n0g; have d4 := far_cell (n := 0) (c := 0) g7 (b := B4) (by first | omega | (simp; done) | (simp; omega) | (simp at *; omega)) n4g; have z7 := g7.size; have hE7 := blk_grown (BlockIs.drew' HE6.out) g7 (by simp; omega); have z70 : W0.heap.size ≤ w7.heap.size := Nat.le_trans (by simp; omega) g7.size; have bb7 := Below.grown (Below.drew HB6.out) g7 (by simp; omega) (fun q hq => by injection hq with hq; omega)) | (refine step_app_reads_g peRow (by rfl) (.tmp 55) (.tmp 57) (by rfl) W0.heap.size (.slice (some ⟨g, 0, none⟩) (i + (l.length - (i + 1))) cap) (i + (l.length - (i + 1))) ((l.take i ++ l.drop (i + 1)).flatMap peV) (by rfl) (o7.alloc _) _ 1 (peV (pIn p)) (by rfl) (reads_blk (BlockIs.newAt' w7 (peV (pIn p)) 66 (by first | rfl | simp)) rfl (Nat.succ_pos 9)) (peV_one1 _) (by omega) (by omega) (by first | omega | (simp; done) | (simp; omega) | (simp at *; omega)) ?_; intro v8 w8 o8 g8; have d04 := far_cell g8 (b := B0) (by first | omega | (simp; done) | (simp; omega) | (simp at *; omega)) n0g; have d44 := far_cell g8 (b := B4) (by first | omega | (simp; done) | (simp; omega) | (simp at *; omega)) n4g; have hE8 := blk_grown (BlockIs.alloc' hE7 _) g8 (by simp [Value.ownBlock]; omega); have x0 := hE8.cell (i := 0) rfl; have x1 := hE8.cell (i := 1) rfl; have x2 := hE8.cell (i := 2) rfl; have x3 := hE8.cell (i := 3) rfl; have lE8 := hE8.lt; have fE8 := hE8.frozen; have bb8 := below_grown (o7.alloc _) (Below.alloc bb7 bb7.size _) gW (by simp; omega) g8) | (refine step_app_reads_g peRow (by rfl) (.tmp 55) (.tmp 57) (by rfl) W0.heap.size (.slice (some ⟨g, 0, none⟩) (i + (l.length - (i + 1))) cap) (i + (l.length - (i + 1))) ((l.take i ++ l.drop (i + 1)).flatMap peV) (by rfl) o7 _ 1 (peV (pIn p)) (by rfl) (reads_blk hX7 rfl (Nat.succ_pos 9)) (peV_one1 _) (by omega) (by omega) (by first | omega | (simp; done) | (simp; omega) | (simp at *; omega)) ?_; intro v8 w8 o8 g8; have d04 := far_cell g8 (b := B0) (by first | omega | (simp; done) | (simp; omega) | (simp at *; omega)) n0g; have d44 := far_cell g8 (b := B4) (by first | omega | (simp; done) | (simp; omega) | (simp at *; omega)) n4g; have hE8 := blk_grown hE7 g8 (by simp [Value.ownBlock]; omega); have x0 := hE8.cell (i := 0) rfl; have x1 := hE8.cell (i := 1) rfl; have x2 := hE8.cell (i := 2) rfl; have x3 := hE8.cell (i := 3) rfl; have lE8 := hE8.lt; have fE8 := hE8.frozen; have bb8 := below_grown o7 bb7 gW (by omega) g8))
  all_goals
    go_wp2_with fail
    refine bodyPost_named fun W9 h9 => ?_
    have hR9 : BlockIs W9 B2 [.bool ce.ad.v6, .int .u64 ce.ad.hi, .int .u64 ce.ad.lo, .int .i64 ce.port] 34 := by subst h9; exact (((hE8.set 0 _).set 1 _).set 2 _).set 3 _
    have b9 : Below w.heap.size w W9 := by subst h9; exact (((bb8.setCell g2 _).setCell g2 _).setCell g2 _).setCell g2 _
    have o9 : W9.ownsRow W0.heap.size 66 10 v8 ((l.take i ++ l.drop (i + 1)) ++ [pIn p]).length (((l.take i ++ l.drop (i + 1)) ++ [pIn p]).flatMap peV) := by
      rw [pe_snoc, show ((l.take i ++ l.drop (i + 1)) ++ [pIn p]).length = i + (l.length - (i + 1)) + 1 by simp; omega]; subst h9; exact ownsRow_setCell_below (ownsRow_setCell_below (ownsRow_setCell_below (ownsRow_setCell_below o8 (by exact l2) _) (by exact l2) _) (by exact l2) _) (by exact l2) _
    clear h9
    have e90 := hR9.cell (i := 0) rfl; have e91 := hR9.cell (i := 1) rfl; have e92 := hR9.cell (i := 2) rfl; have e93 := hR9.cell (i := 3) rfl
    exact bodyPost_ret (v := .tuple #[v8, .agg #[.bool ce.ad.v6, .int .u64 ce.ad.hi, .int .u64 ce.ad.lo, .int .i64 ce.port], .int .i64 0]) (by simp [results, Try.results79, go_sem, e90, e91, e92, e93]) rfl ⟨_, rfl, owns_reads o9, b9⟩

end Go.Proofs.Ytppmjbnhghaffaa
/- The contract of the document's Arrive; both for every input. Conditions: numbers are 64 bits. -/
namespace Go.Proofs.Ytppmjbnhghaffaa
open Go.RowKit


set_option maxRecDepth 100000 in
set_option maxHeartbeats 16000000 in
theorem refArrive_twice (v : Value) (l : List Pe) (hl : ∀ x ∈ l, x.fits) (p : Pe) (t : St) (ht : t.fits) (w : World) (h : ReadsL peV 10 w v l) (hn : l.length ≤ 999999) (hf : 0 ≤ fdI l p.en) :
    Calls Try.prog 80 #[v, .agg #[.bool p.en.ad.v6, .int .u64 p.en.ad.hi, .int .u64 p.en.ad.lo, .int .i64 p.en.port, .bool p.came, .int .i64 p.since, .int .i64 p.pts, .int .i64 p.at_, .int .i64 p.ping, .int .i64 p.work], .int .i64 t.most, .agg #[.int .i64 t.q.group, .int .i64 t.q.ping, .int .i64 t.q.work, .int .i64 t.q.time], .int .u64 t.s] w fun e w' => ∃ r, e = .returned (.tuple #[r, .agg #[.bool false, .int .u64 0, .int .u64 0, .int .i64 0], .int .i64 7]) ∧ ReadsL peV 10 w' r l ∧ Below w.heap.size w w' := by
  have HF1 := Lib.hid (fun W (hW : Below w.heap.size w W) => refIndex_any v l p.en W (ReadsL.below h hW))

  have HR := Lib.hid h
  clear h
  generalize fdI l p.en = f at *

  go_enter Try.func80, Try.ntmps80
  go_upto_region 2 with fail
  go_name_world W2 hW2
  obtain ⟨B0, hB0⟩ : ∃ B, B = w.heap.size := ⟨_, rfl⟩
  obtain ⟨B1, hB1⟩ : ∃ B, B = w.heap.size + 1 := ⟨_, rfl⟩
  obtain ⟨B2, hB2⟩ : ∃ B, B = w.heap.size + 2 := ⟨_, rfl⟩
  have hP2 : BlockIs W2 B0 [.bool p.en.ad.v6, .int .u64 p.en.ad.hi, .int .u64 p.en.ad.lo, .int .i64 p.en.port, .bool true, .int .i64 p.since, .int .i64 p.pts, .int .i64 p.at_, .int .i64 p.ping, .int .i64 p.work] 66 := by subst hW2 hB0; first | exact (BlockIs.set (BlockIs.alloc' (BlockIs.alloc' (BlockIs.newAt' w [.bool p.en.ad.v6, .int .u64 p.en.ad.hi, .int .u64 p.en.ad.lo, .int .i64 p.en.port, .bool p.came, .int .i64 p.since, .int .i64 p.pts, .int .i64 p.at_, .int .i64 p.ping, .int .i64 p.work] 66 (by simp)) _) _) 4 _) | exact (BlockIs.alloc' (BlockIs.alloc' (BlockIs.newAt' _ _ _ (by simp)) _) _)
  have hS2 : BlockIs W2 B1 [.int .i64 t.q.group, .int .i64 t.q.ping, .int .i64 t.q.work, .int .i64 t.q.time] 103 := by subst hW2 hB1; first | exact (BlockIs.other (BlockIs.alloc' (BlockIs.newAt' _ [.int .i64 t.q.group, .int .i64 t.q.ping, .int .i64 t.q.work, .int .i64 t.q.time] 103 (by simp)) _) (by simp) _) | exact (BlockIs.alloc' (BlockIs.newAt' _ _ _ (by simp)) _)
  have hE2 : BlockIs W2 B2 [.bool false, .int .u64 0, .int .u64 0, .int .i64 0] 34 := by subst hW2 hB2; first | exact (BlockIs.other (BlockIs.newAt' _ [.bool false, .int .u64 0, .int .u64 0, .int .i64 0] 34 (by simp)) (by simp) _) | exact (BlockIs.newAt' _ _ _ (by simp))
  have b2 : Below w.heap.size w W2 := by subst hW2; (repeat (first | with_reducible assumption | with_reducible exact Below.refl _ _ | with_reducible refine Below.setCell ?_ (by first | omega | (simp; done) | (simp; omega)) _ | with_reducible refine Below.alloc ?_ (by first | omega | (simp; done) | (simp; omega)) _ | with_reducible refine Below.drew ?_ | (with_reducible refine Below.trans ?_ (Below.mono (by with_reducible assumption) (by first | omega | (simp; done) | (simp; omega)))) | (refine Below.trans ?_ (Below.mono (by assumption) (by first | omega | (simp; done) | (simp; omega))))))
  have z2 : W2.heap.size = w.heap.size + 3 := by subst hW2; simp
  rw [← hB2, ← hB1, ← hB0]
  have l0 : B0 < W2.heap.size := by omega
  have l1 : B1 < W2.heap.size := by omega
  have l2 : B2 < W2.heap.size := by omega
  have n02 : B0 ≠ B2 := by omega
  have n20 : B2 ≠ B0 := by omega
  have n12 : B1 ≠ B2 := by omega
  have g0 : w.heap.size ≤ B0 := by omega
  have g2 : w.heap.size ≤ B2 := by omega
  clear hW2 hB0 hB1 hB2 z2
  have HP2 := Lib.hid hP2; have HS2 := Lib.hid hS2; have HE2 := Lib.hid hE2; have HB2 := Lib.hid b2
  have p0 := hP2.cell (i := 0) rfl; have p1 := hP2.cell (i := 1) rfl; have p2 := hP2.cell (i := 2) rfl; have p3 := hP2.cell (i := 3) rfl
  clear hP2 hS2 hE2 b2
  go_upto_region 3 with (go_at_call 60; (with_reducible refine (HF1.out _ HB2.out).mono ?_); rintro e w3 ⟨rfl, b3⟩)
  clear p0 p1 p2 p3
  have HP3 := Lib.hid (HP2.out.below b3); have HE3 := Lib.hid (HE2.out.below b3); have HS3 := Lib.hid (HS2.out.below b3); have HB3 := Lib.hid (below2 HB2.out b3)
  have z3 := b3.size
  clear HP2 HE2 HS2 b3
  have hE := HE3.out
  have HB := HB3
  have e0 := hE.cell (i := 0) rfl; have e1 := hE.cell (i := 1) rfl; have e2 := hE.cell (i := 2) rfl; have e3 := hE.cell (i := 3) rfl
  have lE := hE.lt
  have fE := hE.frozen
  go_wp2_with fail
  refine bodyPost_named fun W9 h9 => ?_
  have hR9 : BlockIs W9 B2 [.bool false, .int .u64 0, .int .u64 0, .int .i64 0] 34 := by subst h9; exact (((hE.set 0 _).set 1 _).set 2 _).set 3 _
  have b9 : Below w.heap.size w W9 := by subst h9; exact (((HB.out.setCell g2 _).setCell g2 _).setCell g2 _).setCell g2 _
  clear h9
  have e90 := hR9.cell (i := 0) rfl; have e91 := hR9.cell (i := 1) rfl; have e92 := hR9.cell (i := 2) rfl; have e93 := hR9.cell (i := 3) rfl
  exact bodyPost_ret (v := .tuple #[v, .agg #[.bool false, .int .u64 0, .int .u64 0, .int .i64 0], .int .i64 7]) (by simp [results, Try.results80, go_sem, e90, e91, e92, e93]) rfl ⟨_, rfl, ReadsL.below HR.out b9, b9⟩

set_option maxRecDepth 100000 in
set_option maxHeartbeats 16000000 in
theorem refArrive_room (v : Value) (l : List Pe) (hl : ∀ x ∈ l, x.fits) (p : Pe) (t : St) (ht : t.fits) (w : World) (h : ReadsL peV 10 w v l) (hn : l.length ≤ 999999) (hf : ¬ (0 ≤ fdI l p.en)) (hr : ((cameL l).length : Int) < t.most) :
    Calls Try.prog 80 #[v, .agg #[.bool p.en.ad.v6, .int .u64 p.en.ad.hi, .int .u64 p.en.ad.lo, .int .i64 p.en.port, .bool p.came, .int .i64 p.since, .int .i64 p.pts, .int .i64 p.at_, .int .i64 p.ping, .int .i64 p.work], .int .i64 t.most, .agg #[.int .i64 t.q.group, .int .i64 t.q.ping, .int .i64 t.q.work, .int .i64 t.q.time], .int .u64 t.s] w fun e w' => ∃ r, e = .returned (.tuple #[r, .agg #[.bool false, .int .u64 0, .int .u64 0, .int .i64 0], .int .i64 0]) ∧ ReadsL peV 10 w' r (l ++ [pIn p]) ∧ Below w.heap.size w w' := by
  have HF1 := Lib.hid (fun W (hW : Below w.heap.size w W) => refIndex_any v l p.en W (ReadsL.below h hW))
  have HCM := Lib.hid (fun W (hW : Below w.heap.size w W) => refCame_any v l W (ReadsL.below h hW) (by omega))

  have HR := Lib.hid h
  clear h
  generalize fdI l p.en = f at *
  generalize cameL l = cl at *
  go_enter Try.func80, Try.ntmps80
  go_upto_region 2 with fail
  go_name_world W2 hW2
  obtain ⟨B0, hB0⟩ : ∃ B, B = w.heap.size := ⟨_, rfl⟩
  obtain ⟨B1, hB1⟩ : ∃ B, B = w.heap.size + 1 := ⟨_, rfl⟩
  obtain ⟨B2, hB2⟩ : ∃ B, B = w.heap.size + 2 := ⟨_, rfl⟩
  have hP2 : BlockIs W2 B0 [.bool p.en.ad.v6, .int .u64 p.en.ad.hi, .int .u64 p.en.ad.lo, .int .i64 p.en.port, .bool true, .int .i64 p.since, .int .i64 p.pts, .int .i64 p.at_, .int .i64 p.ping, .int .i64 p.work] 66 := by subst hW2 hB0; first | exact (BlockIs.set (BlockIs.alloc' (BlockIs.alloc' (BlockIs.newAt' w [.bool p.en.ad.v6, .int .u64 p.en.ad.hi, .int .u64 p.en.ad.lo, .int .i64 p.en.port, .bool p.came, .int .i64 p.since, .int .i64 p.pts, .int .i64 p.at_, .int .i64 p.ping, .int .i64 p.work] 66 (by simp)) _) _) 4 _) | exact (BlockIs.alloc' (BlockIs.alloc' (BlockIs.newAt' _ _ _ (by simp)) _) _)
  have hS2 : BlockIs W2 B1 [.int .i64 t.q.group, .int .i64 t.q.ping, .int .i64 t.q.work, .int .i64 t.q.time] 103 := by subst hW2 hB1; first | exact (BlockIs.other (BlockIs.alloc' (BlockIs.newAt' _ [.int .i64 t.q.group, .int .i64 t.q.ping, .int .i64 t.q.work, .int .i64 t.q.time] 103 (by simp)) _) (by simp) _) | exact (BlockIs.alloc' (BlockIs.newAt' _ _ _ (by simp)) _)
  have hE2 : BlockIs W2 B2 [.bool false, .int .u64 0, .int .u64 0, .int .i64 0] 34 := by subst hW2 hB2; first | exact (BlockIs.other (BlockIs.newAt' _ [.bool false, .int .u64 0, .int .u64 0, .int .i64 0] 34 (by simp)) (by simp) _) | exact (BlockIs.newAt' _ _ _ (by simp))
  have b2 : Below w.heap.size w W2 := by subst hW2; (repeat (first | with_reducible assumption | with_reducible exact Below.refl _ _ | with_reducible refine Below.setCell ?_ (by first | omega | (simp; done) | (simp; omega)) _ | with_reducible refine Below.alloc ?_ (by first | omega | (simp; done) | (simp; omega)) _ | with_reducible refine Below.drew ?_ | (with_reducible refine Below.trans ?_ (Below.mono (by with_reducible assumption) (by first | omega | (simp; done) | (simp; omega)))) | (refine Below.trans ?_ (Below.mono (by assumption) (by first | omega | (simp; done) | (simp; omega))))))
  have z2 : W2.heap.size = w.heap.size + 3 := by subst hW2; simp
  rw [← hB2, ← hB1, ← hB0]
  have l0 : B0 < W2.heap.size := by omega
  have l1 : B1 < W2.heap.size := by omega
  have l2 : B2 < W2.heap.size := by omega
  have n02 : B0 ≠ B2 := by omega
  have n20 : B2 ≠ B0 := by omega
  have n12 : B1 ≠ B2 := by omega
  have g0 : w.heap.size ≤ B0 := by omega
  have g2 : w.heap.size ≤ B2 := by omega
  clear hW2 hB0 hB1 hB2 z2
  have HP2 := Lib.hid hP2; have HS2 := Lib.hid hS2; have HE2 := Lib.hid hE2; have HB2 := Lib.hid b2
  have p0 := hP2.cell (i := 0) rfl; have p1 := hP2.cell (i := 1) rfl; have p2 := hP2.cell (i := 2) rfl; have p3 := hP2.cell (i := 3) rfl
  clear hP2 hS2 hE2 b2
  go_upto_region 4 with (go_at_call 60; (with_reducible refine (HF1.out _ HB2.out).mono ?_); rintro e w3 ⟨rfl, b3⟩)
  clear p0 p1 p2 p3
  have HP3 := Lib.hid (HP2.out.below b3); have HE3 := Lib.hid (HE2.out.below b3); have HS3 := Lib.hid (HS2.out.below b3); have HB3 := Lib.hid (below2 HB2.out b3)
  have z3 := b3.size
  clear HP2 HE2 HS2 b3
  go_upto_region 5 with (go_at_call 83; (with_reducible refine (HCM.out _ HB3.out).mono ?_); rintro e w4 ⟨rc, rfl, rd4, b4⟩; obtain ⟨hm4, ac, cc, rfl, h34⟩ := pes_open rd4; clear h34 rd4)
  have HP4 := Lib.hid (HP3.out.below b4); have HE4 := Lib.hid (HE3.out.below b4); have HS4 := Lib.hid (HS3.out.below b4); have HB4 := Lib.hid (below2 HB3.out b4)
  have z4 := Nat.le_trans z3 b4.size
  clear HP3 HE3 HS3 HB3 b4 z3
  obtain ⟨W, hWe⟩ : ∃ W, W = w4 := ⟨_, rfl⟩
  subst hWe
  have HRW := Lib.hid (Reads.below HR.out HB4.out)
  have l0' : B0 < W.heap.size := by omega
  have l2' : B2 < W.heap.size := by omega
  have hP4 := HP4.out
  have hE4 := HE4.out
  have p0 := hP4.cell (i := 0) rfl; have p1 := hP4.cell (i := 1) rfl; have p2 := hP4.cell (i := 2) rfl; have p3 := hP4.cell (i := 3) rfl; have p4 := hP4.cell (i := 4) rfl; have p5 := hP4.cell (i := 5) rfl; have p6 := hP4.cell (i := 6) rfl; have p7 := hP4.cell (i := 7) rfl; have p8 := hP4.cell (i := 8) rfl; have p9 := hP4.cell (i := 9) rfl
  have e0 := hE4.cell (i := 0) rfl; have e1 := hE4.cell (i := 1) rfl; have e2 := hE4.cell (i := 2) rfl; have e3 := hE4.cell (i := 3) rfl
  have fE := hE4.frozen
  clear hP4 hE4
  go_region_held3 (fun w' => w'.cell? ⟨B0, 0, none⟩ = some (.bool p.en.ad.v6) ∧ w'.cell? ⟨B0, 1, none⟩ = some (.int .u64 p.en.ad.hi) ∧ w'.cell? ⟨B0, 2, none⟩ = some (.int .u64 p.en.ad.lo) ∧ w'.cell? ⟨B0, 3, none⟩ = some (.int .i64 p.en.port) ∧ w'.cell? ⟨B0, 4, none⟩ = some (.bool true) ∧ w'.cell? ⟨B0, 5, none⟩ = some (.int .i64 p.since) ∧ w'.cell? ⟨B0, 6, none⟩ = some (.int .i64 p.pts) ∧ w'.cell? ⟨B0, 7, none⟩ = some (.int .i64 p.at_) ∧ w'.cell? ⟨B0, 8, none⟩ = some (.int .i64 p.ping) ∧ w'.cell? ⟨B0, 9, none⟩ = some (.int .i64 p.work)) (first | go_keep | (simp (disch := omega) [*]; done)) (first | (refine step_app_reads_g peRow (by rfl) (.tmp 30) (.tmp 31) (by rfl) W.heap.size (.slice (some ⟨W.heap.size, 0, none⟩) 0 0) (0) ([]) (by rfl) (by repeat (first | ((with_reducible refine own_made ?_ ?_); (first | rfl | simp); (first | exact Nat.le_refl _ | simp)) | (with_reducible refine World.ownsRow.alloc ?_ _) | (with_reducible refine World.ownsRow.drew ?_))) _ (l.length) (l.flatMap peV) (by rfl) (Reads.below HRW.out (by (repeat (first | with_reducible assumption | with_reducible exact Below.refl _ _ | with_reducible refine Below.setCell ?_ (by first | omega | (simp; done) | (simp; omega)) _ | with_reducible refine Below.alloc ?_ (by first | omega | (simp; done) | (simp; omega)) _ | with_reducible refine Below.drew ?_ | (with_reducible refine Below.trans ?_ (Below.mono (by with_reducible assumption) (by first | omega | (simp; done) | (simp; omega)))) | (refine Below.trans ?_ (Below.mono (by assumption) (by first | omega | (simp; done) | (simp; omega)))))))) (peV_ones _) (by omega) (by omega) (by first | omega | (simp; done) | (simp; omega) | (simp at *; omega)) ?_; intro v1 w1 o1 gr1; have bb1 : Below W.heap.size W w1 := below_grown (base := W.heap.size) (e := 66) (size := 10) (v := (.slice (some ⟨W.heap.size, 0, none⟩) 0 0)) (n := 0) (xs := []) (by repeat (first | ((with_reducible refine own_made ?_ ?_); (first | rfl | simp); (first | exact Nat.le_refl _ | simp)) | (with_reducible refine World.ownsRow.alloc ?_ _) | (with_reducible refine World.ownsRow.drew ?_))) (by (repeat (first | with_reducible assumption | with_reducible exact Below.refl _ _ | with_reducible refine Below.setCell ?_ (by first | omega | (simp; done) | (simp; omega)) _ | with_reducible refine Below.alloc ?_ (by first | omega | (simp; done) | (simp; omega)) _ | with_reducible refine Below.drew ?_ | (with_reducible refine Below.trans ?_ (Below.mono (by with_reducible assumption) (by first | omega | (simp; done) | (simp; omega)))) | (refine Below.trans ?_ (Below.mono (by assumption) (by first | omega | (simp; done) | (simp; omega))))))) (Nat.le_refl _) (by first | omega | (simp; done) | (simp; omega) | (simp at *; omega)) gr1; simp only [Nat.zero_add, List.nil_append] at o1; obtain ⟨cf1, ff1⟩ := bcellB bb1; have dB01 := fun o => cf1 B0 o (by omega); have dB21 := fun o => cf1 B2 o (by omega); have fB21 := fun o => ff1 B2 o (by omega); have z1 := bb1.size; clear cf1 ff1) | (refine step_app_reads_g peRow (by rfl) (.tmp 30) (.tmp 31) (by rfl) W.heap.size (.slice (some ⟨W.heap.size + 1, 0, none⟩) 0 0) (0) ([]) (by rfl) (by repeat (first | ((with_reducible refine own_made ?_ ?_); (first | rfl | simp); (first | exact Nat.le_refl _ | simp)) | (with_reducible refine World.ownsRow.alloc ?_ _) | (with_reducible refine World.ownsRow.drew ?_))) _ (l.length) (l.flatMap peV) (by rfl) (Reads.below HRW.out (by (repeat (first | with_reducible assumption | with_reducible exact Below.refl _ _ | with_reducible refine Below.setCell ?_ (by first | omega | (simp; done) | (simp; omega)) _ | with_reducible refine Below.alloc ?_ (by first | omega | (simp; done) | (simp; omega)) _ | with_reducible refine Below.drew ?_ | (with_reducible refine Below.trans ?_ (Below.mono (by with_reducible assumption) (by first | omega | (simp; done) | (simp; omega)))) | (refine Below.trans ?_ (Below.mono (by assumption) (by first | omega | (simp; done) | (simp; omega)))))))) (peV_ones _) (by omega) (by omega) (by first | omega | (simp; done) | (simp; omega) | (simp at *; omega)) ?_; intro v1 w1 o1 gr1; have bb1 : Below W.heap.size W w1 := below_grown (base := W.heap.size) (e := 66) (size := 10) (v := (.slice (some ⟨W.heap.size + 1, 0, none⟩) 0 0)) (n := 0) (xs := []) (by repeat (first | ((with_reducible refine own_made ?_ ?_); (first | rfl | simp); (first | exact Nat.le_refl _ | simp)) | (with_reducible refine World.ownsRow.alloc ?_ _) | (with_reducible refine World.ownsRow.drew ?_))) (by (repeat (first | with_reducible assumption | with_reducible exact Below.refl _ _ | with_reducible refine Below.setCell ?_ (by first | omega | (simp; done) | (simp; omega)) _ | with_reducible refine Below.alloc ?_ (by first | omega | (simp; done) | (simp; omega)) _ | with_reducible refine Below.drew ?_ | (with_reducible refine Below.trans ?_ (Below.mono (by with_reducible assumption) (by first | omega | (simp; done) | (simp; omega)))) | (refine Below.trans ?_ (Below.mono (by assumption) (by first | omega | (simp; done) | (simp; omega))))))) (Nat.le_refl _) (by first | omega | (simp; done) | (simp; omega) | (simp at *; omega)) gr1; simp only [Nat.zero_add, List.nil_append] at o1; obtain ⟨cf1, ff1⟩ := bcellB bb1; have dB01 := fun o => cf1 B0 o (by omega); have dB21 := fun o => cf1 B2 o (by omega); have fB21 := fun o => ff1 B2 o (by omega); have z1 := bb1.size; clear cf1 ff1) | (refine step_app_reads_g peRow (by rfl) (.tmp 32) (.tmp 34) (by rfl) W.heap.size v1 (l.length) (l.flatMap peV) (by rfl) (by repeat (first | (with_reducible exact o1) | (with_reducible refine World.ownsRow.alloc ?_ _) | (with_reducible refine World.ownsRow.drew ?_))) _ (1) (peV (pIn p)) (by rfl) (reads_blk (B := w1.heap.size) (T := 66) (by repeat (first | (with_reducible refine BlockIs.drew' ?_) | ((refine BlockIs.newAt' _ _ _ ?_); (first | rfl | (simp; done))) | ((with_reducible refine blk_grown ?_ gr1 ?_); rotate_left; (simp [Value.ownBlock] <;> omega)) |  (with_reducible refine BlockIs.alloc' ?_ _))) rfl (Nat.succ_pos 9)) (peV_one1 _) (by omega) (by omega) (by first | exact bb1.size | (refine Nat.le_trans bb1.size ?_; simp)) ?_; intro v2 w2 o2 gr2; have bb2 : Below W.heap.size W w2 := below_grown (base := W.heap.size) (e := 66) (size := 10) (v := v1) (n := l.length) (xs := l.flatMap peV) (by repeat (first | (with_reducible exact o1) | (with_reducible refine World.ownsRow.alloc ?_ _) | (with_reducible refine World.ownsRow.drew ?_))) (by first | exact bb1 | exact bb1.drew | exact Below.alloc bb1 bb1.size _ | exact (Below.alloc bb1 bb1.size _).drew) (Nat.le_refl _) (by first | exact bb1.size | (refine Nat.le_trans bb1.size ?_; simp)) gr2; obtain ⟨cf2, ff2⟩ := bcellB bb2; have dB02 := fun o => cf2 B0 o (by omega); have dB22 := fun o => cf2 B2 o (by omega); have fB22 := fun o => ff2 B2 o (by omega); have z2 := bb2.size; clear cf2 ff2) | (refine step_app_reads_g peRow (by rfl) (.tmp 32) (.tmp 34) (by rfl) W.heap.size v1 (l.length) (l.flatMap peV) (by rfl) (by repeat (first | (with_reducible exact o1) | (with_reducible refine World.ownsRow.alloc ?_ _) | (with_reducible refine World.ownsRow.drew ?_))) _ (1) (peV (pIn p)) (by rfl) (reads_blk (B := (W.heap.size + 1)) (T := 66) (by repeat (first | (with_reducible refine BlockIs.drew' ?_) | ((refine BlockIs.newAt' _ _ _ ?_); (first | rfl | (simp; done))) | ((with_reducible refine blk_grown ?_ gr1 ?_); rotate_left; (simp [Value.ownBlock] <;> omega)) |  (with_reducible refine BlockIs.alloc' ?_ _))) rfl (Nat.succ_pos 9)) (peV_one1 _) (by omega) (by omega) (by first | exact bb1.size | (refine Nat.le_trans bb1.size ?_; simp)) ?_; intro v2 w2 o2 gr2; have bb2 : Below W.heap.size W w2 := below_grown (base := W.heap.size) (e := 66) (size := 10) (v := v1) (n := l.length) (xs := l.flatMap peV) (by repeat (first | (with_reducible exact o1) | (with_reducible refine World.ownsRow.alloc ?_ _) | (with_reducible refine World.ownsRow.drew ?_))) (by first | exact bb1 | exact bb1.drew | exact Below.alloc bb1 bb1.size _ | exact (Below.alloc bb1 bb1.size _).drew) (Nat.le_refl _) (by first | exact bb1.size | (refine Nat.le_trans bb1.size ?_; simp)) gr2; obtain ⟨cf2, ff2⟩ := bcellB bb2; have dB02 := fun o => cf2 B0 o (by omega); have dB22 := fun o => cf2 B2 o (by omega); have fB22 := fun o => ff2 B2 o (by omega); have z2 := bb2.size; clear cf2 ff2) | (refine step_app_reads_g peRow (by rfl) (.tmp 32) (.tmp 34) (by rfl) W.heap.size v1 (l.length) (l.flatMap peV) (by rfl) (by repeat (first | (with_reducible exact o1) | (with_reducible refine World.ownsRow.alloc ?_ _) | (with_reducible refine World.ownsRow.drew ?_))) _ (1) (peV (pIn p)) (by rfl) (reads_blk (B := W.heap.size) (T := 66) (by repeat (first | (with_reducible refine BlockIs.drew' ?_) | ((refine BlockIs.newAt' _ _ _ ?_); (first | rfl | (simp; done))) | ((with_reducible refine blk_grown ?_ gr1 ?_); rotate_left; (simp [Value.ownBlock] <;> omega)) |  (with_reducible refine BlockIs.alloc' ?_ _))) rfl (Nat.succ_pos 9)) (peV_one1 _) (by omega) (by omega) (by first | exact bb1.size | (refine Nat.le_trans bb1.size ?_; simp)) ?_; intro v2 w2 o2 gr2; have bb2 : Below W.heap.size W w2 := below_grown (base := W.heap.size) (e := 66) (size := 10) (v := v1) (n := l.length) (xs := l.flatMap peV) (by repeat (first | (with_reducible exact o1) | (with_reducible refine World.ownsRow.alloc ?_ _) | (with_reducible refine World.ownsRow.drew ?_))) (by first | exact bb1 | exact bb1.drew | exact Below.alloc bb1 bb1.size _ | exact (Below.alloc bb1 bb1.size _).drew) (Nat.le_refl _) (by first | exact bb1.size | (refine Nat.le_trans bb1.size ?_; simp)) gr2; obtain ⟨cf2, ff2⟩ := bcellB bb2; have dB02 := fun o => cf2 B0 o (by omega); have dB22 := fun o => cf2 B2 o (by omega); have fB22 := fun o => ff2 B2 o (by omega); have z2 := bb2.size; clear cf2 ff2) | fail)
  all_goals
    have hE2 := HE4.out.below bb2
    clear dB01 dB21 fB21 dB02 dB22 fB22
    go_wp2_with fail
    refine bodyPost_named fun W9 h9 => ?_
    have hR9 : BlockIs W9 B2 [.bool false, .int .u64 0, .int .u64 0, .int .i64 0] 34 := by subst h9; exact (((hE2.set 0 _).set 1 _).set 2 _).set 3 _
    have b9 : Below w.heap.size w W9 := by subst h9; exact ((((below2 HB4.out bb2).setCell g2 _).setCell g2 _).setCell g2 _).setCell g2 _
    have o9 : W9.ownsRow W.heap.size 66 10 v2 (l ++ [pIn p]).length ((l ++ [pIn p]).flatMap peV) := by rw [List.length_append, pe_snoc]; subst h9; exact ownsRow_setCell_below (ownsRow_setCell_below (ownsRow_setCell_below (ownsRow_setCell_below o2 (by exact l2') _) (by exact l2') _) (by exact l2') _) (by exact l2') _
    clear h9
    have e90 := hR9.cell (i := 0) rfl; have e91 := hR9.cell (i := 1) rfl; have e92 := hR9.cell (i := 2) rfl; have e93 := hR9.cell (i := 3) rfl
    exact bodyPost_ret (v := .tuple #[v2, .agg #[.bool false, .int .u64 0, .int .u64 0, .int .i64 0], .int .i64 0]) (by simp [results, Try.results80, go_sem, e90, e91, e92, e93]) rfl ⟨_, rfl, owns_reads o9, b9⟩

set_option maxRecDepth 100000 in
set_option maxHeartbeats 16000000 in
theorem refArrive_full (v : Value) (l : List Pe) (hl : ∀ x ∈ l, x.fits) (p : Pe) (t : St) (ht : t.fits) (w : World) (h : ReadsL peV 10 w v l) (hn : l.length ≤ 999999) (hf : ¬ (0 ≤ fdI l p.en)) (hr : ¬ (((cameL l).length : Int) < t.most)) (hc : chB l t.q t.s = false) :
    Calls Try.prog 80 #[v, .agg #[.bool p.en.ad.v6, .int .u64 p.en.ad.hi, .int .u64 p.en.ad.lo, .int .i64 p.en.port, .bool p.came, .int .i64 p.since, .int .i64 p.pts, .int .i64 p.at_, .int .i64 p.ping, .int .i64 p.work], .int .i64 t.most, .agg #[.int .i64 t.q.group, .int .i64 t.q.ping, .int .i64 t.q.work, .int .i64 t.q.time], .int .u64 t.s] w fun e w' => ∃ r, e = .returned (.tuple #[r, .agg #[.bool false, .int .u64 0, .int .u64 0, .int .i64 0], .int .i64 5]) ∧ ReadsL peV 10 w' r l ∧ Below w.heap.size w w' := by
  have HF1 := Lib.hid (fun W (hW : Below w.heap.size w W) => refIndex_any v l p.en W (ReadsL.below h hW))
  have HCM := Lib.hid (fun W (hW : Below w.heap.size w W) => refCame_any v l W (ReadsL.below h hW) (by omega))
  have HCH := Lib.hid (fun W (hW : Below w.heap.size w W) => refChoose_any v l hl t.q ht.2.1 t.s ht.2.2 W (ReadsL.below h hW) (by omega))
  rw [hc] at HCH
  have HR := Lib.hid h
  clear h
  generalize fdI l p.en = f at *
  generalize cameL l = cl at *
  generalize chE l t.q t.s = ce at *
  go_enter Try.func80, Try.ntmps80
  go_upto_region 2 with fail
  go_name_world W2 hW2
  obtain ⟨B0, hB0⟩ : ∃ B, B = w.heap.size := ⟨_, rfl⟩
  obtain ⟨B1, hB1⟩ : ∃ B, B = w.heap.size + 1 := ⟨_, rfl⟩
  obtain ⟨B2, hB2⟩ : ∃ B, B = w.heap.size + 2 := ⟨_, rfl⟩
  have hP2 : BlockIs W2 B0 [.bool p.en.ad.v6, .int .u64 p.en.ad.hi, .int .u64 p.en.ad.lo, .int .i64 p.en.port, .bool true, .int .i64 p.since, .int .i64 p.pts, .int .i64 p.at_, .int .i64 p.ping, .int .i64 p.work] 66 := by subst hW2 hB0; first | exact (BlockIs.set (BlockIs.alloc' (BlockIs.alloc' (BlockIs.newAt' w [.bool p.en.ad.v6, .int .u64 p.en.ad.hi, .int .u64 p.en.ad.lo, .int .i64 p.en.port, .bool p.came, .int .i64 p.since, .int .i64 p.pts, .int .i64 p.at_, .int .i64 p.ping, .int .i64 p.work] 66 (by simp)) _) _) 4 _) | exact (BlockIs.alloc' (BlockIs.alloc' (BlockIs.newAt' _ _ _ (by simp)) _) _)
  have hS2 : BlockIs W2 B1 [.int .i64 t.q.group, .int .i64 t.q.ping, .int .i64 t.q.work, .int .i64 t.q.time] 103 := by subst hW2 hB1; first | exact (BlockIs.other (BlockIs.alloc' (BlockIs.newAt' _ [.int .i64 t.q.group, .int .i64 t.q.ping, .int .i64 t.q.work, .int .i64 t.q.time] 103 (by simp)) _) (by simp) _) | exact (BlockIs.alloc' (BlockIs.newAt' _ _ _ (by simp)) _)
  have hE2 : BlockIs W2 B2 [.bool false, .int .u64 0, .int .u64 0, .int .i64 0] 34 := by subst hW2 hB2; first | exact (BlockIs.other (BlockIs.newAt' _ [.bool false, .int .u64 0, .int .u64 0, .int .i64 0] 34 (by simp)) (by simp) _) | exact (BlockIs.newAt' _ _ _ (by simp))
  have b2 : Below w.heap.size w W2 := by subst hW2; (repeat (first | with_reducible assumption | with_reducible exact Below.refl _ _ | with_reducible refine Below.setCell ?_ (by first | omega | (simp; done) | (simp; omega)) _ | with_reducible refine Below.alloc ?_ (by first | omega | (simp; done) | (simp; omega)) _ | with_reducible refine Below.drew ?_ | (with_reducible refine Below.trans ?_ (Below.mono (by with_reducible assumption) (by first | omega | (simp; done) | (simp; omega)))) | (refine Below.trans ?_ (Below.mono (by assumption) (by first | omega | (simp; done) | (simp; omega))))))
  have z2 : W2.heap.size = w.heap.size + 3 := by subst hW2; simp
  rw [← hB2, ← hB1, ← hB0]
  have l0 : B0 < W2.heap.size := by omega
  have l1 : B1 < W2.heap.size := by omega
  have l2 : B2 < W2.heap.size := by omega
  have n02 : B0 ≠ B2 := by omega
  have n20 : B2 ≠ B0 := by omega
  have n12 : B1 ≠ B2 := by omega
  have g0 : w.heap.size ≤ B0 := by omega
  have g2 : w.heap.size ≤ B2 := by omega
  clear hW2 hB0 hB1 hB2 z2
  have HP2 := Lib.hid hP2; have HS2 := Lib.hid hS2; have HE2 := Lib.hid hE2; have HB2 := Lib.hid b2
  have p0 := hP2.cell (i := 0) rfl; have p1 := hP2.cell (i := 1) rfl; have p2 := hP2.cell (i := 2) rfl; have p3 := hP2.cell (i := 3) rfl
  clear hP2 hS2 hE2 b2
  go_upto_region 4 with (go_at_call 60; (with_reducible refine (HF1.out _ HB2.out).mono ?_); rintro e w3 ⟨rfl, b3⟩)
  clear p0 p1 p2 p3
  have HP3 := Lib.hid (HP2.out.below b3); have HE3 := Lib.hid (HE2.out.below b3); have HS3 := Lib.hid (HS2.out.below b3); have HB3 := Lib.hid (below2 HB2.out b3)
  have z3 := b3.size
  clear HP2 HE2 HS2 b3
  go_upto_region 6 with (go_at_call 83; (with_reducible refine (HCM.out _ HB3.out).mono ?_); rintro e w4 ⟨rc, rfl, rd4, b4⟩; obtain ⟨hm4, ac, cc, rfl, h34⟩ := pes_open rd4; clear h34 rd4)
  have HP4 := Lib.hid (HP3.out.below b4); have HE4 := Lib.hid (HE3.out.below b4); have HS4 := Lib.hid (HS3.out.below b4); have HB4 := Lib.hid (below2 HB3.out b4)
  have z4 := Nat.le_trans z3 b4.size
  clear HP3 HE3 HS3 HB3 b4 z3
  have hS4 := HS4.out
  have s0 := hS4.cell (i := 0) rfl; have s1 := hS4.cell (i := 1) rfl; have s2 := hS4.cell (i := 2) rfl; have s3 := hS4.cell (i := 3) rfl
  clear hS4
  go_upto_region 7 with (go_at_call 128; (with_reducible refine (HCH.out _ HB4.out).mono ?_); rintro e w5 ⟨rfl, b5⟩)
  clear s0 s1 s2 s3
  go_name_world W5 hW5
  have bw5 : Below w5.heap.size w5 W5 := by subst hW5; (repeat (first | with_reducible assumption | with_reducible exact Below.refl _ _ | with_reducible refine Below.setCell ?_ (by first | omega | (simp; done) | (simp; omega)) _ | with_reducible refine Below.alloc ?_ (by first | omega | (simp; done) | (simp; omega)) _ | with_reducible refine Below.drew ?_ | (with_reducible refine Below.trans ?_ (Below.mono (by with_reducible assumption) (by first | omega | (simp; done) | (simp; omega)))) | (refine Below.trans ?_ (Below.mono (by assumption) (by first | omega | (simp; done) | (simp; omega))))))
  have hD5 : BlockIs W5 w5.heap.size [.bool ce.ad.v6, .int .u64 ce.ad.hi, .int .u64 ce.ad.lo, .int .i64 ce.port] 34 := by subst hW5; with_reducible exact BlockIs.newAt' w5 _ _ (by first | rfl | simp)
  obtain ⟨B4, hB4⟩ : ∃ B, B = w5.heap.size := ⟨_, rfl⟩
  rw [← hB4] at hD5 ⊢
  clear hW5
  have n4 : W2.heap.size ≤ B4 := by rw [hB4]; exact Nat.le_trans z4 b5.size
  have b45 := below2 b5 bw5
  have HP5 := Lib.hid (HP4.out.below b45); have HE5 := Lib.hid (HE4.out.below b45); have HB5 := Lib.hid (below2 HB4.out b45); have HD5 := Lib.hid hD5
  clear b5 bw5 hB4 hD5 b45 HP4 HE4 HS4
  have hE := HE5.out
  have HB := HB5
  have e0 := hE.cell (i := 0) rfl; have e1 := hE.cell (i := 1) rfl; have e2 := hE.cell (i := 2) rfl; have e3 := hE.cell (i := 3) rfl
  have lE := hE.lt
  have fE := hE.frozen
  go_wp2_with fail
  refine bodyPost_named fun W9 h9 => ?_
  have hR9 : BlockIs W9 B2 [.bool false, .int .u64 0, .int .u64 0, .int .i64 0] 34 := by subst h9; exact (((hE.set 0 _).set 1 _).set 2 _).set 3 _
  have b9 : Below w.heap.size w W9 := by subst h9; exact (((HB.out.setCell g2 _).setCell g2 _).setCell g2 _).setCell g2 _
  clear h9
  have e90 := hR9.cell (i := 0) rfl; have e91 := hR9.cell (i := 1) rfl; have e92 := hR9.cell (i := 2) rfl; have e93 := hR9.cell (i := 3) rfl
  exact bodyPost_ret (v := .tuple #[v, .agg #[.bool false, .int .u64 0, .int .u64 0, .int .i64 0], .int .i64 5]) (by simp [results, Try.results80, go_sem, e90, e91, e92, e93]) rfl ⟨_, rfl, ReadsL.below HR.out b9, b9⟩

set_option maxRecDepth 100000 in
set_option maxHeartbeats 16000000 in
theorem refArrive_out (v : Value) (l : List Pe) (hl : ∀ x ∈ l, x.fits) (p : Pe) (t : St) (ht : t.fits) (w : World) (h : ReadsL peV 10 w v l) (hn : l.length ≤ 999999) (hf : ¬ (0 ≤ fdI l p.en)) (hr : ¬ (((cameL l).length : Int) < t.most)) (hc : chB l t.q t.s = true) :
    Calls Try.prog 80 #[v, .agg #[.bool p.en.ad.v6, .int .u64 p.en.ad.hi, .int .u64 p.en.ad.lo, .int .i64 p.en.port, .bool p.came, .int .i64 p.since, .int .i64 p.pts, .int .i64 p.at_, .int .i64 p.ping, .int .i64 p.work], .int .i64 t.most, .agg #[.int .i64 t.q.group, .int .i64 t.q.ping, .int .i64 t.q.work, .int .i64 t.q.time], .int .u64 t.s] w fun e w' => ∃ r, e = .returned (.tuple #[r, .agg #[.bool ((chE l t.q t.s)).ad.v6, .int .u64 ((chE l t.q t.s)).ad.hi, .int .u64 ((chE l t.q t.s)).ad.lo, .int .i64 ((chE l t.q t.s)).port], .int .i64 0]) ∧ ReadsL peV 10 w' r ((l.take (arI l t) ++ l.drop (arI l t + 1)) ++ [pIn p]) ∧ Below w.heap.size w w' := by
  have HF1 := Lib.hid (fun W (hW : Below w.heap.size w W) => refIndex_any v l p.en W (ReadsL.below h hW))
  have HCM := Lib.hid (fun W (hW : Below w.heap.size w W) => refCame_any v l W (ReadsL.below h hW) (by omega))
  have HCH := Lib.hid (fun W (hW : Below w.heap.size w W) => refChoose_any v l hl t.q ht.2.1 t.s ht.2.2 W (ReadsL.below h hW) (by omega))
  obtain ⟨px, hfd, hat, hen⟩ := ch_found hc
  have hil := (List.getElem?_eq_some_iff.1 hat).1
  have HF2 := Lib.hid (fun W (hW : Below w.heap.size w W) => refIndex_any v l (chE l t.q t.s) W (ReadsL.below h hW))
  rw [hc] at HCH
  rw [hfd] at HF2
  clear hat hen hfd
  have h0 := h
  obtain ⟨hm, pa, ca, rfl, h3⟩ := pes_open h
  obtain ⟨b, o, rfl, h4, h5, h6⟩ := h3 (by omega)
  clear h3 h6
  clear h
  have h := h0
  clear h0
  have HR := Lib.hid h
  clear h
  generalize fdI l p.en = f at *
  generalize cameL l = cl at *
  generalize chE l t.q t.s = ce at *
  generalize arI l t = i at *
  go_enter Try.func80, Try.ntmps80
  go_upto_region 2 with fail
  go_name_world W2 hW2
  obtain ⟨B0, hB0⟩ : ∃ B, B = w.heap.size := ⟨_, rfl⟩
  obtain ⟨B1, hB1⟩ : ∃ B, B = w.heap.size + 1 := ⟨_, rfl⟩
  obtain ⟨B2, hB2⟩ : ∃ B, B = w.heap.size + 2 := ⟨_, rfl⟩
  have hP2 : BlockIs W2 B0 [.bool p.en.ad.v6, .int .u64 p.en.ad.hi, .int .u64 p.en.ad.lo, .int .i64 p.en.port, .bool true, .int .i64 p.since, .int .i64 p.pts, .int .i64 p.at_, .int .i64 p.ping, .int .i64 p.work] 66 := by subst hW2 hB0; first | exact (BlockIs.set (BlockIs.alloc' (BlockIs.alloc' (BlockIs.newAt' w [.bool p.en.ad.v6, .int .u64 p.en.ad.hi, .int .u64 p.en.ad.lo, .int .i64 p.en.port, .bool p.came, .int .i64 p.since, .int .i64 p.pts, .int .i64 p.at_, .int .i64 p.ping, .int .i64 p.work] 66 (by simp)) _) _) 4 _) | exact (BlockIs.alloc' (BlockIs.alloc' (BlockIs.newAt' _ _ _ (by simp)) _) _)
  have hS2 : BlockIs W2 B1 [.int .i64 t.q.group, .int .i64 t.q.ping, .int .i64 t.q.work, .int .i64 t.q.time] 103 := by subst hW2 hB1; first | exact (BlockIs.other (BlockIs.alloc' (BlockIs.newAt' _ [.int .i64 t.q.group, .int .i64 t.q.ping, .int .i64 t.q.work, .int .i64 t.q.time] 103 (by simp)) _) (by simp) _) | exact (BlockIs.alloc' (BlockIs.newAt' _ _ _ (by simp)) _)
  have hE2 : BlockIs W2 B2 [.bool false, .int .u64 0, .int .u64 0, .int .i64 0] 34 := by subst hW2 hB2; first | exact (BlockIs.other (BlockIs.newAt' _ [.bool false, .int .u64 0, .int .u64 0, .int .i64 0] 34 (by simp)) (by simp) _) | exact (BlockIs.newAt' _ _ _ (by simp))
  have b2 : Below w.heap.size w W2 := by subst hW2; (repeat (first | with_reducible assumption | with_reducible exact Below.refl _ _ | with_reducible refine Below.setCell ?_ (by first | omega | (simp; done) | (simp; omega)) _ | with_reducible refine Below.alloc ?_ (by first | omega | (simp; done) | (simp; omega)) _ | with_reducible refine Below.drew ?_ | (with_reducible refine Below.trans ?_ (Below.mono (by with_reducible assumption) (by first | omega | (simp; done) | (simp; omega)))) | (refine Below.trans ?_ (Below.mono (by assumption) (by first | omega | (simp; done) | (simp; omega))))))
  have z2 : W2.heap.size = w.heap.size + 3 := by subst hW2; simp
  rw [← hB2, ← hB1, ← hB0]
  have l0 : B0 < W2.heap.size := by omega
  have l1 : B1 < W2.heap.size := by omega
  have l2 : B2 < W2.heap.size := by omega
  have n02 : B0 ≠ B2 := by omega
  have n20 : B2 ≠ B0 := by omega
  have n12 : B1 ≠ B2 := by omega
  have g0 : w.heap.size ≤ B0 := by omega
  have g2 : w.heap.size ≤ B2 := by omega
  clear hW2 hB0 hB1 hB2 z2
  have HP2 := Lib.hid hP2; have HS2 := Lib.hid hS2; have HE2 := Lib.hid hE2; have HB2 := Lib.hid b2
  have p0 := hP2.cell (i := 0) rfl; have p1 := hP2.cell (i := 1) rfl; have p2 := hP2.cell (i := 2) rfl; have p3 := hP2.cell (i := 3) rfl
  clear hP2 hS2 hE2 b2
  go_upto_region 4 with (go_at_call 60; (with_reducible refine (HF1.out _ HB2.out).mono ?_); rintro e w3 ⟨rfl, b3⟩)
  clear p0 p1 p2 p3
  have HP3 := Lib.hid (HP2.out.below b3); have HE3 := Lib.hid (HE2.out.below b3); have HS3 := Lib.hid (HS2.out.below b3); have HB3 := Lib.hid (below2 HB2.out b3)
  have z3 := b3.size
  clear HP2 HE2 HS2 b3
  go_upto_region 6 with (go_at_call 83; (with_reducible refine (HCM.out _ HB3.out).mono ?_); rintro e w4 ⟨rc, rfl, rd4, b4⟩; obtain ⟨hm4, ac, cc, rfl, h34⟩ := pes_open rd4; clear h34 rd4)
  have HP4 := Lib.hid (HP3.out.below b4); have HE4 := Lib.hid (HE3.out.below b4); have HS4 := Lib.hid (HS3.out.below b4); have HB4 := Lib.hid (below2 HB3.out b4)
  have z4 := Nat.le_trans z3 b4.size
  clear HP3 HE3 HS3 HB3 b4 z3
  have hS4 := HS4.out
  have s0 := hS4.cell (i := 0) rfl; have s1 := hS4.cell (i := 1) rfl; have s2 := hS4.cell (i := 2) rfl; have s3 := hS4.cell (i := 3) rfl
  clear hS4
  go_upto_region 7 with (go_at_call 128; (with_reducible refine (HCH.out _ HB4.out).mono ?_); rintro e w5 ⟨rfl, b5⟩)
  clear s0 s1 s2 s3
  go_name_world W5 hW5
  have bw5 : Below w5.heap.size w5 W5 := by subst hW5; (repeat (first | with_reducible assumption | with_reducible exact Below.refl _ _ | with_reducible refine Below.setCell ?_ (by first | omega | (simp; done) | (simp; omega)) _ | with_reducible refine Below.alloc ?_ (by first | omega | (simp; done) | (simp; omega)) _ | with_reducible refine Below.drew ?_ | (with_reducible refine Below.trans ?_ (Below.mono (by with_reducible assumption) (by first | omega | (simp; done) | (simp; omega)))) | (refine Below.trans ?_ (Below.mono (by assumption) (by first | omega | (simp; done) | (simp; omega))))))
  have hD5 : BlockIs W5 w5.heap.size [.bool ce.ad.v6, .int .u64 ce.ad.hi, .int .u64 ce.ad.lo, .int .i64 ce.port] 34 := by subst hW5; with_reducible exact BlockIs.newAt' w5 _ _ (by first | rfl | simp)
  obtain ⟨B4, hB4⟩ : ∃ B, B = w5.heap.size := ⟨_, rfl⟩
  rw [← hB4] at hD5 ⊢
  clear hW5
  have n4 : W2.heap.size ≤ B4 := by rw [hB4]; exact Nat.le_trans z4 b5.size
  have b45 := below2 b5 bw5
  have HP5 := Lib.hid (HP4.out.below b45); have HE5 := Lib.hid (HE4.out.below b45); have HB5 := Lib.hid (below2 HB4.out b45); have HD5 := Lib.hid hD5
  clear b5 bw5 hB4 hD5 b45 HP4 HE4 HS4
  have hD5 := HD5.out
  have q0 := hD5.cell (i := 0) rfl; have q1 := hD5.cell (i := 1) rfl; have q2 := hD5.cell (i := 2) rfl; have q3 := hD5.cell (i := 3) rfl
  have lB4 := hD5.lt
  clear hD5
  go_upto_region 10 with (go_at_call 60; (with_reducible refine (HF2.out _ HB5.out).mono ?_); rintro e W6 ⟨rfl, b6⟩)
  clear q0 q1 q2 q3
  have HP6 := Lib.hid (HP5.out.below b6); have HE6 := Lib.hid (HE5.out.below b6); have HD6 := Lib.hid (HD5.out.below b6); have HB6 := Lib.hid (below2 HB5.out b6)
  have m0 := HP6.out.lt; have m2 := HE6.out.lt; have m4 := HD6.out.lt
  have n42 : B4 ≠ B2 := by omega
  have n24 : B2 ≠ B4 := by omega
  clear HP5 HE5 HD5 HB5 b6
  have hRr : ReadsL peV 10 W6 (.slice (some ⟨b, o, none⟩) l.length ca) l := Reads.below HR.out HB6.out
  have hd1 : (l.drop (i + 1)).length = l.length - (i + 1) := List.length_drop
  have hd2 : (l.take i).length = i := by rw [List.length_take]; omega
  have r1 := reads_dropP hRr (show i + 1 ≤ l.length by omega)
  have r2 := reads_takeP hRr (show i ≤ l.length by omega)
  unfold ReadsL at r1 r2
  rw [hd1] at r1
  rw [hd2] at r2
  have RT := Lib.hid r2
  have HRD := Lib.hid r1
  have HRE : Hid (ca = i + 1 → ∀ d, Reads W6 (.slice (some ⟨b, o, none⟩) (l.length - (i + 1)) d) (l.length - (i + 1)) 10 ((l.drop (i + 1)).flatMap peV)) := fun e d => by
    rw [List.drop_eq_nil_of_le (by omega), show l.length - (i + 1) = 0 by omega]
    exact ⟨rfl, by omega, Or.inl ⟨rfl, _, _, rfl⟩⟩
  clear r1 r2 hd1 hd2 hRr
  have q1 : (0 : Int) ≤ (i : Int) := by omega
  have q2 : (i : Int) ≤ (l.length : Int) := by omega
  have q3 : (i : Int) ≤ (ca : Int) := by omega
  have q4 : (i : Int) + 1 ≤ (l.length : Int) := by omega
  have q5 : (i : Int) + 1 ≤ (ca : Int) := by omega
  have q6 : (0 : Int) ≤ (i : Int) + 1 := by omega
  have q7 : IntKind.i64.wrap ((i : Int) + 1) = (i : Int) + 1 := IntWalk.i64_in _ (by omega)
  have zt0 : ((i : Int) + 1).toNat = i + 1 := by omega
  have zt1 : ((l.length : Int) - ((i : Int) + 1)).toNat = l.length - (i + 1) := by omega
  have zt2 : ((ca : Int) - ((i : Int) + 1)).toNat = ca - (i + 1) := by omega
  have key : ∀ (W8 : World) (v8 : Value), W8.ownsRow W6.heap.size 66 10 v8 (i + (l.length - (i + 1)) + 1) ((l.take i).flatMap peV ++ (l.drop (i + 1)).flatMap peV ++ peV (pIn p)) → ReadsL peV 10 W8 v8 ((l.take i ++ l.drop (i + 1)) ++ [pIn p]) := fun W8 v8 ho => by
    unfold ReadsL
    rw [show ((l.take i ++ l.drop (i + 1)) ++ [pIn p]).length = i + (l.length - (i + 1)) + 1 by simp; omega, pe_snoc, List.flatMap_append]
    exact owns_reads ho
  have HK := Lib.hid key
  clear key
  by_cases hck : ca = i + 1
  case pos =>
    have hz0 : l.length - (i + 1) = 0 := by omega
    have RD := HRE.out hck
    rw [hz0] at HK RD
    have RD := Lib.hid RD
    clear hz0
    have q8 : (l.length : Int) ≤ (i : Int) + 1 := by omega
    have q9 : (i : Int) ≤ (i : Int) + 1 := by omega
    have q10 : l.length ≤ i + 1 := Nat.le_trans h4 (Nat.le_of_eq hck)
    clear HRE HRD q3 q5 zt2
    subst hck
    go_region_held3 (fun _ => True) (first | trivial) (first | (refine step_app_reads_g peRow (by rfl) (.tmp 51) (.tmp 54) (by rfl) W6.heap.size (.slice (some ⟨W6.heap.size, 0, none⟩) 0 0) (0) ([]) (by rfl) (by repeat (first | ((with_reducible refine own_made ?_ ?_); (first | rfl | simp); (first | exact Nat.le_refl _ | simp)) | (with_reducible refine World.ownsRow.alloc ?_ _) | (with_reducible refine World.ownsRow.drew ?_))) _ (i) ((l.take i).flatMap peV) (by rfl) (Reads.below RT.out (by (repeat (first | with_reducible assumption | with_reducible exact Below.refl _ _ | with_reducible refine Below.setCell ?_ (by first | omega | (simp; done) | (simp; omega)) _ | with_reducible refine Below.alloc ?_ (by first | omega | (simp; done) | (simp; omega)) _ | with_reducible refine Below.drew ?_ | (with_reducible refine Below.trans ?_ (Below.mono (by with_reducible assumption) (by first | omega | (simp; done) | (simp; omega)))) | (refine Below.trans ?_ (Below.mono (by assumption) (by first | omega | (simp; done) | (simp; omega)))))))) (peV_ones _) (by omega) (by omega) (by first | omega | (simp; done) | (simp; omega) | (simp at *; omega)) ?_; intro v1 w1 o1 gr1; have bb1 : Below W6.heap.size W6 w1 := below_grown (base := W6.heap.size) (e := 66) (size := 10) (v := (.slice (some ⟨W6.heap.size, 0, none⟩) 0 0)) (n := 0) (xs := []) (by repeat (first | ((with_reducible refine own_made ?_ ?_); (first | rfl | simp); (first | exact Nat.le_refl _ | simp)) | (with_reducible refine World.ownsRow.alloc ?_ _) | (with_reducible refine World.ownsRow.drew ?_))) (by (repeat (first | with_reducible assumption | with_reducible exact Below.refl _ _ | with_reducible refine Below.setCell ?_ (by first | omega | (simp; done) | (simp; omega)) _ | with_reducible refine Below.alloc ?_ (by first | omega | (simp; done) | (simp; omega)) _ | with_reducible refine Below.drew ?_ | (with_reducible refine Below.trans ?_ (Below.mono (by with_reducible assumption) (by first | omega | (simp; done) | (simp; omega)))) | (refine Below.trans ?_ (Below.mono (by assumption) (by first | omega | (simp; done) | (simp; omega))))))) (Nat.le_refl _) (by first | omega | (simp; done) | (simp; omega) | (simp at *; omega)) gr1; simp only [Nat.zero_add, List.nil_append] at o1) | (refine step_app_reads_g peRow (by rfl) (.tmp 51) (.tmp 54) (by rfl) W6.heap.size (.slice (some ⟨W6.heap.size + 1, 0, none⟩) 0 0) (0) ([]) (by rfl) (by repeat (first | ((with_reducible refine own_made ?_ ?_); (first | rfl | simp); (first | exact Nat.le_refl _ | simp)) | (with_reducible refine World.ownsRow.alloc ?_ _) | (with_reducible refine World.ownsRow.drew ?_))) _ (i) ((l.take i).flatMap peV) (by rfl) (Reads.below RT.out (by (repeat (first | with_reducible assumption | with_reducible exact Below.refl _ _ | with_reducible refine Below.setCell ?_ (by first | omega | (simp; done) | (simp; omega)) _ | with_reducible refine Below.alloc ?_ (by first | omega | (simp; done) | (simp; omega)) _ | with_reducible refine Below.drew ?_ | (with_reducible refine Below.trans ?_ (Below.mono (by with_reducible assumption) (by first | omega | (simp; done) | (simp; omega)))) | (refine Below.trans ?_ (Below.mono (by assumption) (by first | omega | (simp; done) | (simp; omega)))))))) (peV_ones _) (by omega) (by omega) (by first | omega | (simp; done) | (simp; omega) | (simp at *; omega)) ?_; intro v1 w1 o1 gr1; have bb1 : Below W6.heap.size W6 w1 := below_grown (base := W6.heap.size) (e := 66) (size := 10) (v := (.slice (some ⟨W6.heap.size + 1, 0, none⟩) 0 0)) (n := 0) (xs := []) (by repeat (first | ((with_reducible refine own_made ?_ ?_); (first | rfl | simp); (first | exact Nat.le_refl _ | simp)) | (with_reducible refine World.ownsRow.alloc ?_ _) | (with_reducible refine World.ownsRow.drew ?_))) (by (repeat (first | with_reducible assumption | with_reducible exact Below.refl _ _ | with_reducible refine Below.setCell ?_ (by first | omega | (simp; done) | (simp; omega)) _ | with_reducible refine Below.alloc ?_ (by first | omega | (simp; done) | (simp; omega)) _ | with_reducible refine Below.drew ?_ | (with_reducible refine Below.trans ?_ (Below.mono (by with_reducible assumption) (by first | omega | (simp; done) | (simp; omega)))) | (refine Below.trans ?_ (Below.mono (by assumption) (by first | omega | (simp; done) | (simp; omega))))))) (Nat.le_refl _) (by first | omega | (simp; done) | (simp; omega) | (simp at *; omega)) gr1; simp only [Nat.zero_add, List.nil_append] at o1) | (refine step_app_reads_g peRow (by rfl) (.tmp 55) (.tmp 59) (by rfl) W6.heap.size v1 (i) ((l.take i).flatMap peV) (by rfl) (by repeat (first | (with_reducible exact o1) | (with_reducible refine World.ownsRow.alloc ?_ _) | (with_reducible refine World.ownsRow.drew ?_))) _ 0 ((l.drop (i + 1)).flatMap peV) (by rfl) (Reads.below (RD.out _) bb1) (peV_ones _) (by omega) (by omega) (by first | exact bb1.size | (refine Nat.le_trans bb1.size ?_; simp)) ?_; intro v2 w2 o2 gr2; have bb2 : Below W6.heap.size W6 w2 := below_grown (base := W6.heap.size) (e := 66) (size := 10) (v := v1) (n := i) (xs := (l.take i).flatMap peV) (by repeat (first | (with_reducible exact o1) | (with_reducible refine World.ownsRow.alloc ?_ _) | (with_reducible refine World.ownsRow.drew ?_))) (by first | exact bb1 | exact bb1.drew | exact Below.alloc bb1 bb1.size _ | exact (Below.alloc bb1 bb1.size _).drew) (Nat.le_refl _) (by first | exact bb1.size | (refine Nat.le_trans bb1.size ?_; simp)) gr2) | fail)
    have hP7 := HP6.out.below bb2
    have hE7 := HE6.out.below bb2
    have hD7 := HD6.out.below bb2
    have p0 := hP7.cell (i := 0) rfl; have p1 := hP7.cell (i := 1) rfl; have p2 := hP7.cell (i := 2) rfl; have p3 := hP7.cell (i := 3) rfl; have p4 := hP7.cell (i := 4) rfl; have p5 := hP7.cell (i := 5) rfl; have p6 := hP7.cell (i := 6) rfl; have p7 := hP7.cell (i := 7) rfl; have p8 := hP7.cell (i := 8) rfl; have p9 := hP7.cell (i := 9) rfl
    have e0 := hE7.cell (i := 0) rfl; have e1 := hE7.cell (i := 1) rfl; have e2 := hE7.cell (i := 2) rfl; have e3 := hE7.cell (i := 3) rfl
    have x0 := hD7.cell (i := 0) rfl; have x1 := hD7.cell (i := 1) rfl; have x2 := hD7.cell (i := 2) rfl; have x3 := hD7.cell (i := 3) rfl
    have fE := hE7.frozen
    have hP6 := HP6.out
    have hE6 := HE6.out
    have hD6 := HD6.out
    have u0 := hP6.cell (i := 0) rfl; have u1 := hP6.cell (i := 1) rfl; have u2 := hP6.cell (i := 2) rfl; have u3 := hP6.cell (i := 3) rfl; have u4 := hP6.cell (i := 4) rfl; have u5 := hP6.cell (i := 5) rfl; have u6 := hP6.cell (i := 6) rfl; have u7 := hP6.cell (i := 7) rfl; have u8 := hP6.cell (i := 8) rfl; have u9 := hP6.cell (i := 9) rfl
    have s0 := hE6.cell (i := 0) rfl; have s1 := hE6.cell (i := 1) rfl; have s2 := hE6.cell (i := 2) rfl; have s3 := hE6.cell (i := 3) rfl
    have t0 := hD6.cell (i := 0) rfl; have t1 := hD6.cell (i := 1) rfl; have t2 := hD6.cell (i := 2) rfl; have t3 := hD6.cell (i := 3) rfl
    have fE6 := hE6.frozen
    clear hP6 hE6 hD6 hP7 hE7 hD7 zt0 zt1 q7
    go_wp2_with fail
    go_region_held3 (fun w' => w'.cell? ⟨B0, 0, none⟩ = some (.bool p.en.ad.v6) ∧ w'.cell? ⟨B0, 1, none⟩ = some (.int .u64 p.en.ad.hi) ∧ w'.cell? ⟨B0, 2, none⟩ = some (.int .u64 p.en.ad.lo) ∧ w'.cell? ⟨B0, 3, none⟩ = some (.int .i64 p.en.port) ∧ w'.cell? ⟨B0, 4, none⟩ = some (.bool true) ∧ w'.cell? ⟨B0, 5, none⟩ = some (.int .i64 p.since) ∧ w'.cell? ⟨B0, 6, none⟩ = some (.int .i64 p.pts) ∧ w'.cell? ⟨B0, 7, none⟩ = some (.int .i64 p.at_) ∧ w'.cell? ⟨B0, 8, none⟩ = some (.int .i64 p.ping) ∧ w'.cell? ⟨B0, 9, none⟩ = some (.int .i64 p.work) ∧ w'.cell? ⟨B4, 0, none⟩ = some (.bool ce.ad.v6) ∧ w'.cell? ⟨B4, 1, none⟩ = some (.int .u64 ce.ad.hi) ∧ w'.cell? ⟨B4, 2, none⟩ = some (.int .u64 ce.ad.lo) ∧ w'.cell? ⟨B4, 3, none⟩ = some (.int .i64 ce.port)) (first | go_keep | (simp (disch := omega) [*]; done)) (first | (refine step_app_reads_g peRow (by rfl) (.tmp 61) (.tmp 63) (by rfl) W6.heap.size v2 (i + 0) ((l.take i).flatMap peV ++ (l.drop (i + 1)).flatMap peV) (by rfl) (by repeat (first | (with_reducible exact o2) | (with_reducible refine World.ownsRow.alloc ?_ _) | (with_reducible refine World.ownsRow.drew ?_))) _ (1) (peV (pIn p)) (by rfl) (reads_blk (B := w2.heap.size) (T := 66) (by repeat (first | (with_reducible refine BlockIs.drew' ?_) | ((refine BlockIs.newAt' _ _ _ ?_); (first | rfl | (simp; done))) |  (with_reducible refine BlockIs.alloc' ?_ _))) rfl (Nat.succ_pos 9)) (peV_one1 _) (by omega) (by omega) (by first | exact bb2.size | (refine Nat.le_trans bb2.size ?_; simp)) ?_; intro v8 w8 o8 gr8; have bb8 : Below W6.heap.size W6 w8 := below_grown (base := W6.heap.size) (e := 66) (size := 10) (v := v2) (n := i + 0) (xs := (l.take i).flatMap peV ++ (l.drop (i + 1)).flatMap peV) (by repeat (first | (with_reducible exact o2) | (with_reducible refine World.ownsRow.alloc ?_ _) | (with_reducible refine World.ownsRow.drew ?_))) (by first | exact bb2 | exact bb2.drew | exact Below.alloc bb2 bb2.size _ | exact (Below.alloc bb2 bb2.size _).drew) (Nat.le_refl _) (by first | exact bb2.size | (refine Nat.le_trans bb2.size ?_; simp)) gr8; obtain ⟨cf8, ff8⟩ := bcellB bb8; have dB08 := fun o => cf8 B0 o (by omega); have dB28 := fun o => cf8 B2 o (by omega); have fB28 := fun o => ff8 B2 o (by omega); have dB48 := fun o => cf8 B4 o (by omega); have z8 := bb8.size; clear cf8 ff8) | fail)
    all_goals
      have hE8 := HE6.out.below bb8
      clear dB08 dB28 dB48 fB28
      go_wp2_with fail
      refine bodyPost_named fun W9 h9 => ?_
      have hR9 : BlockIs W9 B2 [.bool ce.ad.v6, .int .u64 ce.ad.hi, .int .u64 ce.ad.lo, .int .i64 ce.port] 34 := by subst h9; exact (((hE8.set 0 _).set 1 _).set 2 _).set 3 _
      have b9 : Below w.heap.size w W9 := by subst h9; exact ((((below2 HB6.out bb8).setCell g2 _).setCell g2 _).setCell g2 _).setCell g2 _
      have o9 : W9.ownsRow W6.heap.size 66 10 v8 (i + 0 + 1) ((l.take i).flatMap peV ++ (l.drop (i + 1)).flatMap peV ++ peV (pIn p)) := by subst h9; exact ownsRow_setCell_below (ownsRow_setCell_below (ownsRow_setCell_below (ownsRow_setCell_below o8 (by exact m2) _) (by exact m2) _) (by exact m2) _) (by exact m2) _
      clear h9
      have e90 := hR9.cell (i := 0) rfl; have e91 := hR9.cell (i := 1) rfl; have e92 := hR9.cell (i := 2) rfl; have e93 := hR9.cell (i := 3) rfl
      exact bodyPost_ret (v := .tuple #[v8, .agg #[.bool ce.ad.v6, .int .u64 ce.ad.hi, .int .u64 ce.ad.lo, .int .i64 ce.port], .int .i64 0]) (by simp [results, Try.results80, go_sem, e90, e91, e92, e93]) rfl ⟨_, rfl, HK.out _ _ o9, b9⟩
  case neg =>
    have hckz : ¬ (ca : Int) = (i : Int) + 1 := by omega
    have RD := HRD
    clear HRE HRD
    go_region_held3 (fun _ => True) (first | trivial) (first | (refine step_app_reads_g peRow (by rfl) (.tmp 51) (.tmp 54) (by rfl) W6.heap.size (.slice (some ⟨W6.heap.size, 0, none⟩) 0 0) (0) ([]) (by rfl) (by repeat (first | ((with_reducible refine own_made ?_ ?_); (first | rfl | simp); (first | exact Nat.le_refl _ | simp)) | (with_reducible refine World.ownsRow.alloc ?_ _) | (with_reducible refine World.ownsRow.drew ?_))) _ (i) ((l.take i).flatMap peV) (by rfl) (Reads.below RT.out (by (repeat (first | with_reducible assumption | with_reducible exact Below.refl _ _ | with_reducible refine Below.setCell ?_ (by first | omega | (simp; done) | (simp; omega)) _ | with_reducible refine Below.alloc ?_ (by first | omega | (simp; done) | (simp; omega)) _ | with_reducible refine Below.drew ?_ | (with_reducible refine Below.trans ?_ (Below.mono (by with_reducible assumption) (by first | omega | (simp; done) | (simp; omega)))) | (refine Below.trans ?_ (Below.mono (by assumption) (by first | omega | (simp; done) | (simp; omega)))))))) (peV_ones _) (by omega) (by omega) (by first | omega | (simp; done) | (simp; omega) | (simp at *; omega)) ?_; intro v1 w1 o1 gr1; have bb1 : Below W6.heap.size W6 w1 := below_grown (base := W6.heap.size) (e := 66) (size := 10) (v := (.slice (some ⟨W6.heap.size, 0, none⟩) 0 0)) (n := 0) (xs := []) (by repeat (first | ((with_reducible refine own_made ?_ ?_); (first | rfl | simp); (first | exact Nat.le_refl _ | simp)) | (with_reducible refine World.ownsRow.alloc ?_ _) | (with_reducible refine World.ownsRow.drew ?_))) (by (repeat (first | with_reducible assumption | with_reducible exact Below.refl _ _ | with_reducible refine Below.setCell ?_ (by first | omega | (simp; done) | (simp; omega)) _ | with_reducible refine Below.alloc ?_ (by first | omega | (simp; done) | (simp; omega)) _ | with_reducible refine Below.drew ?_ | (with_reducible refine Below.trans ?_ (Below.mono (by with_reducible assumption) (by first | omega | (simp; done) | (simp; omega)))) | (refine Below.trans ?_ (Below.mono (by assumption) (by first | omega | (simp; done) | (simp; omega))))))) (Nat.le_refl _) (by first | omega | (simp; done) | (simp; omega) | (simp at *; omega)) gr1; simp only [Nat.zero_add, List.nil_append] at o1) | (refine step_app_reads_g peRow (by rfl) (.tmp 51) (.tmp 54) (by rfl) W6.heap.size (.slice (some ⟨W6.heap.size + 1, 0, none⟩) 0 0) (0) ([]) (by rfl) (by repeat (first | ((with_reducible refine own_made ?_ ?_); (first | rfl | simp); (first | exact Nat.le_refl _ | simp)) | (with_reducible refine World.ownsRow.alloc ?_ _) | (with_reducible refine World.ownsRow.drew ?_))) _ (i) ((l.take i).flatMap peV) (by rfl) (Reads.below RT.out (by (repeat (first | with_reducible assumption | with_reducible exact Below.refl _ _ | with_reducible refine Below.setCell ?_ (by first | omega | (simp; done) | (simp; omega)) _ | with_reducible refine Below.alloc ?_ (by first | omega | (simp; done) | (simp; omega)) _ | with_reducible refine Below.drew ?_ | (with_reducible refine Below.trans ?_ (Below.mono (by with_reducible assumption) (by first | omega | (simp; done) | (simp; omega)))) | (refine Below.trans ?_ (Below.mono (by assumption) (by first | omega | (simp; done) | (simp; omega)))))))) (peV_ones _) (by omega) (by omega) (by first | omega | (simp; done) | (simp; omega) | (simp at *; omega)) ?_; intro v1 w1 o1 gr1; have bb1 : Below W6.heap.size W6 w1 := below_grown (base := W6.heap.size) (e := 66) (size := 10) (v := (.slice (some ⟨W6.heap.size + 1, 0, none⟩) 0 0)) (n := 0) (xs := []) (by repeat (first | ((with_reducible refine own_made ?_ ?_); (first | rfl | simp); (first | exact Nat.le_refl _ | simp)) | (with_reducible refine World.ownsRow.alloc ?_ _) | (with_reducible refine World.ownsRow.drew ?_))) (by (repeat (first | with_reducible assumption | with_reducible exact Below.refl _ _ | with_reducible refine Below.setCell ?_ (by first | omega | (simp; done) | (simp; omega)) _ | with_reducible refine Below.alloc ?_ (by first | omega | (simp; done) | (simp; omega)) _ | with_reducible refine Below.drew ?_ | (with_reducible refine Below.trans ?_ (Below.mono (by with_reducible assumption) (by first | omega | (simp; done) | (simp; omega)))) | (refine Below.trans ?_ (Below.mono (by assumption) (by first | omega | (simp; done) | (simp; omega))))))) (Nat.le_refl _) (by first | omega | (simp; done) | (simp; omega) | (simp at *; omega)) gr1; simp only [Nat.zero_add, List.nil_append] at o1) | (refine step_app_reads_g peRow (by rfl) (.tmp 55) (.tmp 59) (by rfl) W6.heap.size v1 (i) ((l.take i).flatMap peV) (by rfl) (by repeat (first | (with_reducible exact o1) | (with_reducible refine World.ownsRow.alloc ?_ _) | (with_reducible refine World.ownsRow.drew ?_))) _ (l.length - (i + 1)) ((l.drop (i + 1)).flatMap peV) (by rfl) (Reads.below RD.out bb1) (peV_ones _) (by omega) (by omega) (by first | exact bb1.size | (refine Nat.le_trans bb1.size ?_; simp)) ?_; intro v2 w2 o2 gr2; have bb2 : Below W6.heap.size W6 w2 := below_grown (base := W6.heap.size) (e := 66) (size := 10) (v := v1) (n := i) (xs := (l.take i).flatMap peV) (by repeat (first | (with_reducible exact o1) | (with_reducible refine World.ownsRow.alloc ?_ _) | (with_reducible refine World.ownsRow.drew ?_))) (by first | exact bb1 | exact bb1.drew | exact Below.alloc bb1 bb1.size _ | exact (Below.alloc bb1 bb1.size _).drew) (Nat.le_refl _) (by first | exact bb1.size | (refine Nat.le_trans bb1.size ?_; simp)) gr2) | fail)
    have hP7 := HP6.out.below bb2
    have hE7 := HE6.out.below bb2
    have hD7 := HD6.out.below bb2
    have p0 := hP7.cell (i := 0) rfl; have p1 := hP7.cell (i := 1) rfl; have p2 := hP7.cell (i := 2) rfl; have p3 := hP7.cell (i := 3) rfl; have p4 := hP7.cell (i := 4) rfl; have p5 := hP7.cell (i := 5) rfl; have p6 := hP7.cell (i := 6) rfl; have p7 := hP7.cell (i := 7) rfl; have p8 := hP7.cell (i := 8) rfl; have p9 := hP7.cell (i := 9) rfl
    have e0 := hE7.cell (i := 0) rfl; have e1 := hE7.cell (i := 1) rfl; have e2 := hE7.cell (i := 2) rfl; have e3 := hE7.cell (i := 3) rfl
    have x0 := hD7.cell (i := 0) rfl; have x1 := hD7.cell (i := 1) rfl; have x2 := hD7.cell (i := 2) rfl; have x3 := hD7.cell (i := 3) rfl
    have fE := hE7.frozen
    have hP6 := HP6.out
    have hE6 := HE6.out
    have hD6 := HD6.out
    have u0 := hP6.cell (i := 0) rfl; have u1 := hP6.cell (i := 1) rfl; have u2 := hP6.cell (i := 2) rfl; have u3 := hP6.cell (i := 3) rfl; have u4 := hP6.cell (i := 4) rfl; have u5 := hP6.cell (i := 5) rfl; have u6 := hP6.cell (i := 6) rfl; have u7 := hP6.cell (i := 7) rfl; have u8 := hP6.cell (i := 8) rfl; have u9 := hP6.cell (i := 9) rfl
    have s0 := hE6.cell (i := 0) rfl; have s1 := hE6.cell (i := 1) rfl; have s2 := hE6.cell (i := 2) rfl; have s3 := hE6.cell (i := 3) rfl
    have t0 := hD6.cell (i := 0) rfl; have t1 := hD6.cell (i := 1) rfl; have t2 := hD6.cell (i := 2) rfl; have t3 := hD6.cell (i := 3) rfl
    have fE6 := hE6.frozen
    clear hP6 hE6 hD6 hP7 hE7 hD7 zt0 zt1 q7
    go_wp2_with fail
    go_region_held3 (fun w' => w'.cell? ⟨B0, 0, none⟩ = some (.bool p.en.ad.v6) ∧ w'.cell? ⟨B0, 1, none⟩ = some (.int .u64 p.en.ad.hi) ∧ w'.cell? ⟨B0, 2, none⟩ = some (.int .u64 p.en.ad.lo) ∧ w'.cell? ⟨B0, 3, none⟩ = some (.int .i64 p.en.port) ∧ w'.cell? ⟨B0, 4, none⟩ = some (.bool true) ∧ w'.cell? ⟨B0, 5, none⟩ = some (.int .i64 p.since) ∧ w'.cell? ⟨B0, 6, none⟩ = some (.int .i64 p.pts) ∧ w'.cell? ⟨B0, 7, none⟩ = some (.int .i64 p.at_) ∧ w'.cell? ⟨B0, 8, none⟩ = some (.int .i64 p.ping) ∧ w'.cell? ⟨B0, 9, none⟩ = some (.int .i64 p.work) ∧ w'.cell? ⟨B4, 0, none⟩ = some (.bool ce.ad.v6) ∧ w'.cell? ⟨B4, 1, none⟩ = some (.int .u64 ce.ad.hi) ∧ w'.cell? ⟨B4, 2, none⟩ = some (.int .u64 ce.ad.lo) ∧ w'.cell? ⟨B4, 3, none⟩ = some (.int .i64 ce.port)) (first | go_keep | (simp (disch := omega) [*]; done)) (first | (refine step_app_reads_g peRow (by rfl) (.tmp 61) (.tmp 63) (by rfl) W6.heap.size v2 (i + (l.length - (i + 1))) ((l.take i).flatMap peV ++ (l.drop (i + 1)).flatMap peV) (by rfl) (by repeat (first | (with_reducible exact o2) | (with_reducible refine World.ownsRow.alloc ?_ _) | (with_reducible refine World.ownsRow.drew ?_))) _ (1) (peV (pIn p)) (by rfl) (reads_blk (B := w2.heap.size) (T := 66) (by repeat (first | (with_reducible refine BlockIs.drew' ?_) | ((refine BlockIs.newAt' _ _ _ ?_); (first | rfl | (simp; done))) |  (with_reducible refine BlockIs.alloc' ?_ _))) rfl (Nat.succ_pos 9)) (peV_one1 _) (by omega) (by omega) (by first | exact bb2.size | (refine Nat.le_trans bb2.size ?_; simp)) ?_; intro v8 w8 o8 gr8; have bb8 : Below W6.heap.size W6 w8 := below_grown (base := W6.heap.size) (e := 66) (size := 10) (v := v2) (n := i + (l.length - (i + 1))) (xs := (l.take i).flatMap peV ++ (l.drop (i + 1)).flatMap peV) (by repeat (first | (with_reducible exact o2) | (with_reducible refine World.ownsRow.alloc ?_ _) | (with_reducible refine World.ownsRow.drew ?_))) (by first | exact bb2 | exact bb2.drew | exact Below.alloc bb2 bb2.size _ | exact (Below.alloc bb2 bb2.size _).drew) (Nat.le_refl _) (by first | exact bb2.size | (refine Nat.le_trans bb2.size ?_; simp)) gr8; obtain ⟨cf8, ff8⟩ := bcellB bb8; have dB08 := fun o => cf8 B0 o (by omega); have dB28 := fun o => cf8 B2 o (by omega); have fB28 := fun o => ff8 B2 o (by omega); have dB48 := fun o => cf8 B4 o (by omega); have z8 := bb8.size; clear cf8 ff8) | fail)
    all_goals
      have hE8 := HE6.out.below bb8
      clear dB08 dB28 dB48 fB28
      go_wp2_with fail
      refine bodyPost_named fun W9 h9 => ?_
      have hR9 : BlockIs W9 B2 [.bool ce.ad.v6, .int .u64 ce.ad.hi, .int .u64 ce.ad.lo, .int .i64 ce.port] 34 := by subst h9; exact (((hE8.set 0 _).set 1 _).set 2 _).set 3 _
      have b9 : Below w.heap.size w W9 := by subst h9; exact ((((below2 HB6.out bb8).setCell g2 _).setCell g2 _).setCell g2 _).setCell g2 _
      have o9 : W9.ownsRow W6.heap.size 66 10 v8 (i + (l.length - (i + 1)) + 1) ((l.take i).flatMap peV ++ (l.drop (i + 1)).flatMap peV ++ peV (pIn p)) := by subst h9; exact ownsRow_setCell_below (ownsRow_setCell_below (ownsRow_setCell_below (ownsRow_setCell_below o8 (by exact m2) _) (by exact m2) _) (by exact m2) _) (by exact m2) _
      clear h9
      have e90 := hR9.cell (i := 0) rfl; have e91 := hR9.cell (i := 1) rfl; have e92 := hR9.cell (i := 2) rfl; have e93 := hR9.cell (i := 3) rfl
      exact bodyPost_ret (v := .tuple #[v8, .agg #[.bool ce.ad.v6, .int .u64 ce.ad.hi, .int .u64 ce.ad.lo, .int .i64 ce.port], .int .i64 0]) (by simp [results, Try.results80, go_sem, e90, e91, e92, e93]) rfl ⟨_, rfl, HK.out _ _ o9, b9⟩

/-- siege.Arrive, whatever comes -/
theorem arrive_any (v : Value) (l : List Pe) (hl : ∀ x ∈ l, x.fits) (p : Pe) (t : St) (ht : t.fits) (w : World) (h : ReadsL peV 10 w v l) (hn : l.length ≤ 999999) :
    Calls Try.prog 79 #[v, .agg #[.bool p.en.ad.v6, .int .u64 p.en.ad.hi, .int .u64 p.en.ad.lo, .int .i64 p.en.port, .bool p.came, .int .i64 p.since, .int .i64 p.pts, .int .i64 p.at_, .int .i64 p.ping, .int .i64 p.work], .agg #[.int .i64 t.most, .int .i64 t.q.group, .int .i64 t.q.ping, .int .i64 t.q.work, .int .i64 t.q.time, .int .u64 t.s]] w fun e w' => ∃ r, e = .returned (.tuple #[r, .agg #[.bool ((arE l p t)).ad.v6, .int .u64 ((arE l p t)).ad.hi, .int .u64 ((arE l p t)).ad.lo, .int .i64 ((arE l p t)).port], .int .i64 (arC l p t)]) ∧ ReadsL peV 10 w' r (arL l p t) ∧ Below w.heap.size w w' := by
  unfold arE arC arL
  by_cases hf : 0 ≤ fdI l p.en
  · simp only [if_pos hf]; exact arrive_twice v l hl p t ht w h hn hf
  simp only [if_neg hf]
  by_cases hr : ((cameL l).length : Int) < t.most
  · simp only [if_pos hr]; exact arrive_room v l hl p t ht w h hn hf hr
  simp only [if_neg hr]
  by_cases hc : chB l t.q t.s = true
  · simp only [if_pos hc]; exact arrive_out v l hl p t ht w h hn hf hr hc
  · simp only [if_neg hc]; exact arrive_full v l hl p t ht w h hn hf hr (by simpa using hc)
/-- the document's Arrive, whatever comes -/
theorem refArrive_any (v : Value) (l : List Pe) (hl : ∀ x ∈ l, x.fits) (p : Pe) (t : St) (ht : t.fits) (w : World) (h : ReadsL peV 10 w v l) (hn : l.length ≤ 999999) :
    Calls Try.prog 80 #[v, .agg #[.bool p.en.ad.v6, .int .u64 p.en.ad.hi, .int .u64 p.en.ad.lo, .int .i64 p.en.port, .bool p.came, .int .i64 p.since, .int .i64 p.pts, .int .i64 p.at_, .int .i64 p.ping, .int .i64 p.work], .int .i64 t.most, .agg #[.int .i64 t.q.group, .int .i64 t.q.ping, .int .i64 t.q.work, .int .i64 t.q.time], .int .u64 t.s] w fun e w' => ∃ r, e = .returned (.tuple #[r, .agg #[.bool ((arE l p t)).ad.v6, .int .u64 ((arE l p t)).ad.hi, .int .u64 ((arE l p t)).ad.lo, .int .i64 ((arE l p t)).port], .int .i64 (arC l p t)]) ∧ ReadsL peV 10 w' r (arL l p t) ∧ Below w.heap.size w w' := by
  unfold arE arC arL
  by_cases hf : 0 ≤ fdI l p.en
  · simp only [if_pos hf]; exact refArrive_twice v l hl p t ht w h hn hf
  simp only [if_neg hf]
  by_cases hr : ((cameL l).length : Int) < t.most
  · simp only [if_pos hr]; exact refArrive_room v l hl p t ht w h hn hf hr
  simp only [if_neg hr]
  by_cases hc : chB l t.q t.s = true
  · simp only [if_pos hc]; exact refArrive_out v l hl p t ht w h hn hf hr hc
  · simp only [if_neg hc]; exact refArrive_full v l hl p t ht w h hn hf hr (by simpa using hc)
end Go.Proofs.Ytppmjbnhghaffaa
/- Who stays, whoever comes: plain. Conditions: ends unlike. -/
namespace Go.Proofs.Ytppmjbnhghaffaa

/-- so many stand ahead -/
def ahN (L : List Pe) (a : Pe) (q : Int) (s : Nat) : Nat := (L.filter fun p => rkCounts p q && rkAhead p a q s).length
theorem ahN_rk (L : List Pe) (a : Pe) (q : Int) (s : Nat) : rkN L a q s L.length = ahN L a q s := by unfold rkN ahN; rw [List.take_length]
theorem ahN_app (A B : List Pe) (a : Pe) (q : Int) (s : Nat) : ahN (A ++ B) a q s = ahN A a q s + ahN B a q s := by unfold ahN; rw [List.filter_append, List.length_append]
theorem ahN_cons (p : Pe) (B : List Pe) (a : Pe) (q : Int) (s : Nat) : ahN (p :: B) a q s = ahN [p] a q s + ahN B a q s := ahN_app [p] B a q s
theorem ahN_in (p : Pe) (a : Pe) (q : Int) (s : Nat) : ahN [pIn p] a q s = ahN [p] a q s := by
  unfold ahN
  have h : (rkCounts (pIn p) q && rkAhead (pIn p) a q s) = (rkCounts p q && rkAhead p a q s) := rfl
  simp only [List.filter_cons, List.filter_nil, h]
  split <;> rfl
theorem ahN_sub {A B : List Pe} (h : A.Sublist B) (a : Pe) (q : Int) (s : Nat) : ahN A a q s ≤ ahN B a q s := (h.filter _).length_le
theorem ahN_le (A : List Pe) (a : Pe) (q : Int) (s : Nat) : ahN A a q s ≤ A.length := List.length_filter_le _ _
/-- is one inside an order's quota, whoever comes? -/
def sfO (l news : List Pe) (i : Nat) (t : St) (b : Nat) : Bool := rkCounts (rkGet l i) (b : Int) && decide ((ahN (cameL l ++ news) (rkGet l i) (b : Int) t.s : Int) < quN t.q (b : Int))
def sfB (l news : List Pe) (i : Nat) (t : St) : Bool := (rkGet l i).came && (sfO l news i t 1 || (sfO l news i t 2 || (sfO l news i t 3 || sfO l news i t 4)))
theorem sf_one {l news : List Pe} {i : Nat} {t : St} (h : sfB l news i t = true) : (rkGet l i).came = true ∧ ∃ b : Nat, 1 ≤ b ∧ b ≤ 4 ∧ sfO l news i t b = true := by
  unfold sfB at h
  rw [Bool.and_eq_true] at h
  refine ⟨h.1, ?_⟩
  have h2 := h.2
  rw [Bool.or_eq_true, Bool.or_eq_true, Bool.or_eq_true] at h2
  rcases h2 with h2 | h2 | h2 | h2
  · exact ⟨1, by omega, by omega, h2⟩
  · exact ⟨2, by omega, by omega, h2⟩
  · exact ⟨3, by omega, by omega, h2⟩
  · exact ⟨4, by omega, by omega, h2⟩
theorem sf_of {l news : List Pe} {i : Nat} {t : St} (hc : (rkGet l i).came = true) {b : Nat} (h1 : 1 ≤ b) (h4 : b ≤ 4) (h : sfO l news i t b = true) : sfB l news i t = true := by
  unfold sfB
  rw [hc]
  rcases (show b = 1 ∨ b = 2 ∨ b = 3 ∨ b = 4 by omega) with rfl | rfl | rfl | rfl <;> simp [h]
theorem sf_none {l news : List Pe} {i : Nat} {t : St} (h : (rkGet l i).came = false ∨ ∀ b : Nat, 1 ≤ b → b ≤ 4 → sfO l news i t b = false) : sfB l news i t = false := by
  unfold sfB
  rcases h with h | h
  · rw [h]; rfl
  · rw [h 1 (by omega) (by omega), h 2 (by omega) (by omega), h 3 (by omega) (by omega), h 4 (by omega) (by omega)]
    cases (rkGet l i).came <;> rfl
/-- what becomes of peers when some come -/
def siL (l news : List Pe) (t : St) : List Pe := news.foldl (fun m p => arL m p t) l
theorem siL_cons (l : List Pe) (p : Pe) (r : List Pe) (t : St) : siL l (p :: r) t = siL (arL l p t) r t := rfl
theorem siL_snoc (l news : List Pe) (p : Pe) (t : St) : siL l (news ++ [p]) t = arL (siL l news t) p t := by unfold siL; rw [List.foldl_append]; rfl

theorem un_eq {m : List Pe} (h : UnlikeC m) {x y : Pe} (hx : x ∈ m) (hy : y ∈ m) (e : x.en = y.en) : x = y := by
  obtain ⟨i, hi, rfl⟩ := List.getElem_of_mem hx
  obtain ⟨j, hj, rfl⟩ := List.getElem_of_mem hy
  rcases Nat.lt_trichotomy i j with c | c | c
  · exact absurd e (List.pairwise_iff_getElem.1 h i j hi hj c)
  · subst c; rfl
  · exact absurd e.symm (List.pairwise_iff_getElem.1 h j i hj hi c)
theorem out_sub (m : List Pe) (i : Nat) : (m.take i ++ m.drop (i + 1)).Sublist m := by
  rw [← List.eraseIdx_eq_take_drop_succ]; exact List.eraseIdx_sublist ..
theorem mem_out {m : List Pe} {a : Pe} {i k : Nat} (hk : m[k]? = some a) (hne : k ≠ i) : a ∈ m.take i ++ m.drop (i + 1) := by
  rcases Nat.lt_or_ge k i with h | h
  · exact List.mem_append_left _ (List.mem_of_getElem? (i := k) (by rw [List.getElem?_take, if_pos h]; exact hk))
  · exact List.mem_append_right _ (List.mem_of_getElem? (i := k - (i + 1)) (by rw [List.getElem?_drop, show i + 1 + (k - (i + 1)) = k by omega]; exact hk))
theorem un_snoc {m : List Pe} {p : Pe} (h : UnlikeC m) (hp : ∀ x ∈ m, x.en ≠ p.en) : UnlikeC (m ++ [pIn p]) :=
  List.pairwise_append.2 ⟨h, List.pairwise_singleton .., fun a ha b hb => by rw [List.mem_singleton.1 hb]; exact hp a ha⟩
theorem fd_no {m : List Pe} {p : Pe} (h : ¬ (0 ≤ fdI m p.en)) : ∀ x ∈ m, x.en ≠ p.en := fun x hx e => h (by rw [← e]; exact fd_mem hx)
theorem un_step {m : List Pe} (h : UnlikeC m) (p : Pe) (t : St) : UnlikeC (arL m p t) := by
  unfold arL
  by_cases h0 : 0 ≤ fdI m p.en
  · rw [if_pos h0]; exact h
  rw [if_neg h0]
  have hp := fd_no h0
  split
  · exact un_snoc h hp
  · split
    · exact un_snoc (h.sublist (out_sub m _)) fun x hx => hp x ((out_sub m _).subset hx)
    · exact h
/-- who goes: one of those that came, and nobody protected -/
theorem ch_who {m : List Pe} {t : St} (h : UnlikeC m) (hc : chB m t.q t.s = true) : ∃ px j, m[arI m t]? = some px ∧ (cameL m)[j]? = some px ∧ j ∉ svO (cameL m) t.q t.s 4 := by
  obtain ⟨px, _, hat, hen⟩ := ch_found hc
  have hc' := hc
  unfold chB at hc'
  cases hk : pkO (cdL m t.q t.s) with
  | none => rw [hk] at hc'; cases hc'
  | some x =>
    obtain ⟨j, hj, hO, e⟩ := ch_one hk
    have he : chE m t.q t.s = (rkGet (cameL m) j).en := by unfold chE; rw [hk]; simp only [e]
    have hg : (cameL m)[j]? = some (rkGet (cameL m) j) := by rw [rkGet_at (List.getElem?_eq_getElem hj)]; exact List.getElem?_eq_getElem hj
    have hm : rkGet (cameL m) j ∈ m := (List.mem_filter.1 (List.mem_of_getElem? hg)).1
    have : px = rkGet (cameL m) j := un_eq h (List.mem_of_getElem? hat) hm (by rw [hen, he])
    exact ⟨px, j, hat, by rw [this]; exact hg, hO⟩
structure Stay (a : Pe) (m rest : List Pe) (t : St) (b : Nat) : Prop where
  un : UnlikeC m
  mem : a ∈ m
  ahead : (ahN (cameL m ++ rest) a (b : Int) t.s : Int) < quN t.q (b : Int)
theorem stay_step {a p : Pe} {m rest : List Pe} {t : St} {b : Nat} (ha : a.came = true) (h1 : 1 ≤ b) (h4 : b ≤ 4) (hc : rkCounts a (b : Int) = true) (h : Stay a m (p :: rest) t b) : Stay a (arL m p t) rest t b := by
  obtain ⟨hu, hm, hA⟩ := h
  rw [ahN_app, ahN_cons] at hA
  refine ⟨un_step hu p t, ?_, ?_⟩
  · unfold arL
    by_cases h0 : 0 ≤ fdI m p.en
    · rw [if_pos h0]; exact hm
    rw [if_neg h0]
    split
    · exact List.mem_append_left _ hm
    · split
      · rename_i hcb
        obtain ⟨px, j, hat, hj, hO⟩ := ch_who hu hcb
        obtain ⟨k, hk, e⟩ := List.getElem_of_mem hm
        have hk' : m[k]? = some a := by rw [List.getElem?_eq_getElem hk, e]
        refine List.mem_append_left _ (mem_out hk' fun e => hO ?_)
        subst e
        have e2 : px = a := by rw [hat] at hk'; injection hk'
        subst e2
        have hj' := (List.getElem?_eq_some_iff.1 hj).1
        refine inside_saved (came_unlike hu) hj' (shIn_one hj' h1 h4 (inB_yes (by rw [rkGet_at hj]; exact hc) ?_))
        unfold rkRank
        rw [if_neg (by omega), show ((j : Int)).toNat = j from by omega, hj]
        show ((rkN (cameL m) px (b : Int) t.s (cameL m).length : Nat) : Int) < _
        rw [ahN_rk]; omega
      · exact hm
  · unfold arL
    rw [ahN_app]
    by_cases h0 : 0 ≤ fdI m p.en
    · rw [if_pos h0]; omega
    rw [if_neg h0]
    have hs : ∀ M : List Pe, cameL (M ++ [pIn p]) = cameL M ++ [pIn p] := fun M => cameL_snoc M (pIn p)
    split
    · rw [hs, ahN_app, ahN_in]; omega
    · split
      · rw [hs, ahN_app, ahN_in]
        have := ahN_sub ((out_sub m (arI m t)).filter fun p => p.came) a (b : Int) t.s
        unfold cameL at *
        omega
      · omega
theorem stay_run {a : Pe} {t : St} {b : Nat} (ha : a.came = true) (h1 : 1 ≤ b) (h4 : b ≤ 4) (hc : rkCounts a (b : Int) = true) : ∀ (news m : List Pe), Stay a m news t b → Stay a (siL m news t) [] t b
  | [], _, h => h
  | p :: r, m, h => by rw [siL_cons]; exact stay_run ha h1 h4 hc r _ (stay_step ha h1 h4 hc h)
theorem run_un {t : St} : ∀ (news m : List Pe), UnlikeC m → UnlikeC (siL m news t)
  | [], _, h => h
  | p :: r, m, h => by rw [siL_cons]; exact run_un r _ (un_step h p t)
/-- whoever is inside a quota, whoever comes, is there at last -/
theorem stays {l news : List Pe} {i : Nat} {a : Pe} {t : St} (hu : UnlikeC l) (hi : l[i]? = some a) (h : sfB l news i t = true) : ∃ k : Nat, fdI (siL l news t) a.en = k ∧ (siL l news t)[k]? = some a := by
  obtain ⟨hca, b, h1, h4, hs⟩ := sf_one h
  unfold sfO at hs
  rw [rkGet_at hi] at hca hs
  rw [Bool.and_eq_true] at hs
  have := stay_run hca h1 h4 hs.1 news l ⟨hu, List.mem_of_getElem? hi, of_decide_eq_true hs.2⟩
  obtain ⟨k, p, hk, hp, he⟩ := fd_at (fd_mem this.mem)
  have e := un_eq this.un (List.mem_of_getElem? hp) this.mem he
  subst e
  exact ⟨k, hk, hp⟩
theorem came_step {m : List Pe} (h : UnlikeC m) (p : Pe) (t : St) : ((cameL (arL m p t)).length : Int) ≤ max t.most ((cameL m).length : Int) := by
  unfold arL
  have hs : ∀ M : List Pe, cameL (M ++ [pIn p]) = cameL M ++ [pIn p] := fun M => cameL_snoc M (pIn p)
  split
  · omega
  · split
    · rw [hs, List.length_append, List.length_singleton]; omega
    · split
      · rename_i hcb
        obtain ⟨px, j, hat, hj, _⟩ := ch_who h hcb
        rw [hs, List.length_append, List.length_singleton]
        have hpc : px.came = true := (List.mem_filter.1 (List.mem_of_getElem? hj)).2
        generalize arI m t = i at *
        have e : (cameL m).length = (cameL (m.take i ++ m.drop (i + 1))).length + 1 := by
          have hi := (List.getElem?_eq_some_iff.1 hat).1
          have e1 : m = m.take i ++ px :: m.drop (i + 1) := by
            conv => lhs; rw [← List.take_append_drop i m]
            congr 1
            rw [List.drop_eq_getElem_cons hi]
            congr 1
            rw [List.getElem?_eq_getElem hi] at hat; injection hat
          conv => lhs; rw [e1]
          unfold cameL
          rw [List.filter_append, List.filter_append, List.filter_cons, if_pos hpc, List.length_append, List.length_append, List.length_cons]; omega
        omega
      · omega
theorem came_run {t : St} : ∀ (news m : List Pe), UnlikeC m → ((cameL (siL m news t)).length : Int) ≤ max t.most ((cameL m).length : Int)
  | [], m, _ => by show ((cameL m).length : Int) ≤ _; omega
  | p :: r, m, h => by
    rw [siL_cons]
    have h1 := came_run (t := t) r _ (un_step h p t)
    have h2 := came_step h p t
    omega
theorem arL_len (m : List Pe) (p : Pe) (t : St) : (arL m p t).length ≤ m.length + 1 := by
  unfold arL
  split
  · omega
  · split
    · simp
    · split
      · have := (out_sub m (arI m t)).length_le
        rw [List.length_append (bs := [pIn p]), List.length_singleton]; omega
      · omega
theorem arL_fits {m : List Pe} (h : ∀ x ∈ m, x.fits) {p : Pe} (hp : p.fits) (t : St) : ∀ x ∈ arL m p t, x.fits := by
  have hp' : (pIn p).fits := hp
  intro x hx
  unfold arL at hx
  split at hx
  · exact h x hx
  · split at hx
    · rcases List.mem_append.1 hx with hx | hx
      · exact h x hx
      · rw [List.mem_singleton.1 hx]; exact hp'
    · split at hx
      · rcases List.mem_append.1 hx with hx | hx
        · exact h x ((out_sub m _).subset hx)
        · rw [List.mem_singleton.1 hx]; exact hp'
      · exact h x hx
theorem run_len {t : St} : ∀ (news m : List Pe), (siL m news t).length ≤ m.length + news.length
  | [], m => by show m.length ≤ _; simp
  | p :: r, m => by
    rw [siL_cons]
    have h1 := run_len (t := t) r (arL m p t)
    have h2 := arL_len m p t
    rw [List.length_cons]; omega
theorem run_fits {t : St} : ∀ (news m : List Pe), (∀ x ∈ m, x.fits) → (∀ x ∈ news, x.fits) → ∀ x ∈ siL m news t, x.fits
  | [], _, h, _ => h
  | p :: r, m, h, h2 => by
    rw [siL_cons]
    exact run_fits r _ (arL_fits h (h2 p (by simp)) t) fun x hx => h2 x (by simp [hx])
/-! ### quick ones -/
def qkP (p : Pe) (i : Nat) : Pe := ⟨⟨p.en.ad, 1 + (i : Int)⟩, true, p.since, p.pts, p.at_, 1 + (i : Int), p.work⟩
def slP (p : Pe) (i : Nat) : Pe := ⟨⟨p.en.ad, 1000 + (i : Int)⟩, p.came, p.since, p.pts, p.at_, 100 + (i : Int), p.work⟩
def qkK (f : Pe → Nat → Pe) (l : List Pe) (k : Nat) : List Pe := (List.range k).map fun i => f (rkGet l i) i
theorem qkK_len (f : Pe → Nat → Pe) (l : List Pe) (k : Nat) : (qkK f l k).length = k := by simp [qkK]
theorem qkK_succ (f : Pe → Nat → Pe) {l : List Pe} {k : Nat} {p : Pe} (h : l[k]? = some p) : qkK f l (k + 1) = qkK f l k ++ [f p k] := by
  unfold qkK; rw [List.range_succ, List.map_append, List.map_singleton, rkGet_at h]
theorem qkK_at (f : Pe → Nat → Pe) {l : List Pe} {k i : Nat} (h : i < k) : (qkK f l k)[i]? = some (f (rkGet l i) i) := by
  unfold qkK; rw [List.getElem?_map, List.getElem?_range h]; rfl
theorem qk_un (l : List Pe) (k : Nat) : UnlikeC (qkK qkP l k) := by
  refine List.pairwise_iff_getElem.2 fun i j hi hj hij e => ?_
  rw [qkK_len] at hi hj
  have h1 : (qkK qkP l k)[i]'(by rw [qkK_len]; exact hi) = qkP (rkGet l i) i := by
    have := qkK_at qkP (l := l) hi
    rw [List.getElem?_eq_getElem (by rw [qkK_len]; exact hi)] at this; injection this
  have h2 : (qkK qkP l k)[j]'(by rw [qkK_len]; exact hj) = qkP (rkGet l j) j := by
    have := qkK_at qkP (l := l) hj
    rw [List.getElem?_eq_getElem (by rw [qkK_len]; exact hj)] at this; injection this
  rw [h1, h2] at e
  have : (qkP (rkGet l i) i).en.port = (qkP (rkGet l j) j).en.port := by rw [e]
  simp only [qkP] at this
  omega
theorem ping_ahead {p a : Pe} {s : Nat} (h : rkAhead p a 2 s = true) : p.ping ≤ a.ping ∧ (p.ping = a.ping → enCmp p.en a.en < 0) := by
  rw [rkAhead_in (by omega) (by omega)] at h
  have h := of_decide_eq_true h
  have hr : rkCmp p a 2 s = cmpI p.ping a.ping := rfl
  constructor
  · rcases Int.lt_or_le a.ping p.ping with hlt | hle
    · exfalso
      have hc : cmpI p.ping a.ping = 1 := by unfold cmpI; rw [if_neg (by omega), if_pos (by omega)]
      rw [rkFull_ne (by rw [hr, hc]; omega), hr, hc] at h
      omega
    · exact hle
  · intro e
    have hc : cmpI p.ping a.ping = 0 := by rw [e]; unfold cmpI; rw [if_neg (by omega), if_neg (by omega)]
    rwa [rkFull_eq (by rw [hr, hc])] at h
theorem filter_few {n i : Nat} {f : Nat → Bool} (h : ∀ k, k < n → f k = true → k < i) : ((List.range n).filter f).length ≤ i := by
  induction n generalizing i with
  | zero => simp
  | succ n ih =>
    rw [List.range_succ, List.filter_append, List.length_append]
    by_cases hf : f n = true
    · have hn := h n (by omega) hf
      have h1 : ((List.range n).filter f).length ≤ n := Nat.le_trans (List.length_filter_le _ _) (by simp)
      have h2 : ([n].filter f).length ≤ 1 := Nat.le_trans (List.length_filter_le _ _) (by simp)
      omega
    · have h1 := ih (i := i) fun k hk hf' => h k (by omega) hf'
      have h2 : ([n].filter f).length = 0 := by simp [hf]
      omega
theorem qk_safe {l news : List Pe} {i : Nat} {t : St} (hi : i < l.length) (hl : l.length ≤ 10) (hq : (l.length : Int) ≤ t.q.ping) : sfB (qkK qkP l l.length) (qkK slP news news.length) i t = true := by
  have hg : rkGet (qkK qkP l l.length) i = qkP (rkGet l i) i := rkGet_at (qkK_at qkP hi)
  refine sf_of (by rw [hg]; rfl) (b := 2) (by omega) (by omega) ?_
  unfold sfO
  rw [hg]
  generalize hpe : qkP (rkGet l i) i = a
  have hap : a.ping = 1 + (i : Int) := by rw [← hpe]; rfl
  have hae : a.en = ⟨(rkGet l i).en.ad, 1 + (i : Int)⟩ := by rw [← hpe]; rfl
  have hc : rkCounts a ((2 : Nat) : Int) = true := by
    show decide (0 < a.ping) = true
    exact decide_eq_true (by omega)
  rw [hc, Bool.true_and]
  refine decide_eq_true ?_
  have e2 : quN t.q ((2 : Nat) : Int) = t.q.ping := rfl
  rw [e2, ahN_app]
  have h1 : ahN (cameL (qkK qkP l l.length)) a ((2 : Nat) : Int) t.s ≤ i := by
    refine Nat.le_trans (ahN_sub (List.filter_sublist (p := fun p => p.came)) a _ _) ?_
    unfold ahN qkK
    rw [List.filter_map, List.length_map]
    refine filter_few fun k hk hf => ?_
    simp only [Function.comp_apply, Bool.and_eq_true] at hf
    obtain ⟨hle, heq⟩ := ping_ahead hf.2
    have hkp : (qkP (rkGet l k) k).ping = 1 + (k : Int) := rfl
    rw [hkp, hap] at hle heq
    rcases Nat.lt_or_ge k i with h | h
    · exact h
    · obtain rfl : k = i := by omega
      have h0 := heq rfl
      have : (qkP (rkGet l k) k).en = a.en := by rw [hae]; rfl
      rw [this] at h0
      have := cmp_en.self a.en
      omega
  have h2 : ahN (qkK slP news news.length) a ((2 : Nat) : Int) t.s = 0 := by
    unfold ahN
    refine List.length_eq_zero_iff.2 (List.filter_eq_nil_iff.2 fun p hp hf => ?_)
    unfold qkK at hp
    obtain ⟨k, _, rfl⟩ := List.mem_map.1 hp
    rw [Bool.and_eq_true] at hf
    have := (ping_ahead hf.2).1
    have hkp : (slP (rkGet news k) k).ping = 100 + (k : Int) := rfl
    omega
  omega
end Go.Proofs.Ytppmjbnhghaffaa
/- The contracts of siege.quota and siege.Safe. Conditions: numbers are 64 bits. -/
namespace Go.Proofs.Ytppmjbnhghaffaa
open Go.RowKit
set_option linter.unusedSimpArgs false
set_option linter.unusedVariables false

theorem put_none (a : Act) (v : Value) : Act.put a (@none Nat) v = a := rfl
theorem own_one {w : World} {base g size : Nat} {e : TypeId} {us : List Value} (hu : us.length = size) (hg : g = w.heap.size) (hb : base ≤ w.heap.size) : (w.alloc (.cells us.toArray e)).ownsRow base e size (.slice (some ⟨g, 0, none⟩) 1 1) 1 us := by
  subst hg
  exact ⟨by omega, .inr ⟨w.heap.size, 1, us.toArray, rfl, hb, heap_alloc_new w _, Nat.le_refl _, by unfold maxLen; omega, by simp; omega, by rw [Nat.one_mul, ← hu]; simp⟩⟩
set_option maxRecDepth 100000 in
theorem siQuota_any (q : Qu) (b : Nat) (h1 : 1 ≤ b) (h4 : b ≤ 4) (w : World) : Calls Try.prog 121 #[.agg #[.int .i64 q.group, .int .i64 q.ping, .int .i64 q.work, .int .i64 q.time], .int .i64 b] w fun e w' => e = .returned (.int .i64 (quN q b)) ∧ Below w.heap.size w w' := by
  rcases (show b = 1 ∨ b = 2 ∨ b = 3 ∨ b = 4 by omega) with rfl | rfl | rfl | rfl
  · have e : quN q ((1 : Nat) : Int) = q.group := rfl
    rw [e]
    have hi : ∀ W, (Instr.index 163 (.agg #[.int .i64 0, .int .i64 q.group, .int .i64 q.ping, .int .i64 q.work, .int .i64 q.time]) (.int .i64 1)).run Try.prog W = .ok (.int .i64 q.group) W := fun _ => by kernel_rfl
    go_enter Try.func121, Try.ntmps121
    go_wp2_with fail
    go_ret
    refine ⟨rfl, ?_⟩
    (repeat (first | with_reducible assumption | with_reducible exact Below.refl _ _ | with_reducible refine Below.setCell ?_ (by first | omega | (simp; done) | (simp; omega)) _ | with_reducible refine Below.alloc ?_ (by first | omega | (simp; done) | (simp; omega)) _ | with_reducible refine Below.drew ?_ | (with_reducible refine Below.trans ?_ (Below.mono (by with_reducible assumption) (by first | omega | (simp; done) | (simp; omega)))) | (refine Below.trans ?_ (Below.mono (by assumption) (by first | omega | (simp; done) | (simp; omega))))))
  · have e : quN q ((2 : Nat) : Int) = q.ping := rfl
    rw [e]
    have hi : ∀ W, (Instr.index 163 (.agg #[.int .i64 0, .int .i64 q.group, .int .i64 q.ping, .int .i64 q.work, .int .i64 q.time]) (.int .i64 2)).run Try.prog W = .ok (.int .i64 q.ping) W := fun _ => by kernel_rfl
    go_enter Try.func121, Try.ntmps121
    go_wp2_with fail
    go_ret
    refine ⟨rfl, ?_⟩
    (repeat (first | with_reducible assumption | with_reducible exact Below.refl _ _ | with_reducible refine Below.setCell ?_ (by first | omega | (simp; done) | (simp; omega)) _ | with_reducible refine Below.alloc ?_ (by first | omega | (simp; done) | (simp; omega)) _ | with_reducible refine Below.drew ?_ | (with_reducible refine Below.trans ?_ (Below.mono (by with_reducible assumption) (by first | omega | (simp; done) | (simp; omega)))) | (refine Below.trans ?_ (Below.mono (by assumption) (by first | omega | (simp; done) | (simp; omega))))))
  · have e : quN q ((3 : Nat) : Int) = q.work := rfl
    rw [e]
    have hi : ∀ W, (Instr.index 163 (.agg #[.int .i64 0, .int .i64 q.group, .int .i64 q.ping, .int .i64 q.work, .int .i64 q.time]) (.int .i64 3)).run Try.prog W = .ok (.int .i64 q.work) W := fun _ => by kernel_rfl
    go_enter Try.func121, Try.ntmps121
    go_wp2_with fail
    go_ret
    refine ⟨rfl, ?_⟩
    (repeat (first | with_reducible assumption | with_reducible exact Below.refl _ _ | with_reducible refine Below.setCell ?_ (by first | omega | (simp; done) | (simp; omega)) _ | with_reducible refine Below.alloc ?_ (by first | omega | (simp; done) | (simp; omega)) _ | with_reducible refine Below.drew ?_ | (with_reducible refine Below.trans ?_ (Below.mono (by with_reducible assumption) (by first | omega | (simp; done) | (simp; omega)))) | (refine Below.trans ?_ (Below.mono (by assumption) (by first | omega | (simp; done) | (simp; omega))))))
  · have e : quN q ((4 : Nat) : Int) = q.time := rfl
    rw [e]
    have hi : ∀ W, (Instr.index 163 (.agg #[.int .i64 0, .int .i64 q.group, .int .i64 q.ping, .int .i64 q.work, .int .i64 q.time]) (.int .i64 4)).run Try.prog W = .ok (.int .i64 q.time) W := fun _ => by kernel_rfl
    go_enter Try.func121, Try.ntmps121
    go_wp2_with fail
    go_ret
    refine ⟨rfl, ?_⟩
    (repeat (first | with_reducible assumption | with_reducible exact Below.refl _ _ | with_reducible refine Below.setCell ?_ (by first | omega | (simp; done) | (simp; omega)) _ | with_reducible refine Below.alloc ?_ (by first | omega | (simp; done) | (simp; omega)) _ | with_reducible refine Below.drew ?_ | (with_reducible refine Below.trans ?_ (Below.mono (by with_reducible assumption) (by first | omega | (simp; done) | (simp; omega)))) | (refine Below.trans ?_ (Below.mono (by assumption) (by first | omega | (simp; done) | (simp; omega))))))
/-- of whom so many are looked at: who came, or comes -/
def kpL (l m : List Pe) (k : Nat) : List Pe := cameL (l.take k) ++ m.take (k - l.length)
theorem kp_succ {l m : List Pe} {k : Nat} {p : Pe} (h : (l ++ m)[k]? = some p) : kpL l m (k + 1) = kpL l m k ++ (if (p.came || decide (l.length ≤ k)) = true then [p] else []) := by
  unfold kpL
  rcases Nat.lt_or_ge k l.length with hk | hk
  · rw [List.getElem?_append_left hk] at h
    rw [List.take_add_one, h, Option.toList_some, cameL_snoc, show k + 1 - l.length = 0 by omega, show k - l.length = 0 by omega, decide_eq_false (show ¬ l.length ≤ k by omega), Bool.or_false]
    simp
  · rw [List.getElem?_append_right hk] at h
    rw [List.take_of_length_le (show l.length ≤ k + 1 by omega), List.take_of_length_le hk, show k + 1 - l.length = (k - l.length) + 1 by omega, List.take_add_one, h, Option.toList_some, decide_eq_true hk, Bool.or_true, if_pos rfl, List.append_assoc]
theorem kp_zero (l m : List Pe) : kpL l m 0 = [] := by unfold kpL; simp [cameL]
theorem kp_all (l m : List Pe) : kpL l m (l ++ m).length = cameL l ++ m := by
  unfold kpL
  rw [List.length_append, List.take_of_length_le (by omega), List.take_of_length_le (by omega)]
theorem kp_len (l m : List Pe) (k : Nat) : (kpL l m k).length ≤ l.length + m.length := by
  unfold kpL
  rw [List.length_append, List.length_take]
  have := cameL_le (l.take k)
  rw [List.length_take] at this
  omega
theorem ah_succ {l m : List Pe} {k : Nat} {p : Pe} (h : (l ++ m)[k]? = some p) (a : Pe) (b : Int) (s : Nat) : ahN (kpL l m (k + 1)) a b s = ahN (kpL l m k) a b s + (if (p.came || decide (l.length ≤ k)) = true then (if (rkCounts p b && rkAhead p a b s) = true then 1 else 0) else 0) := by
  rw [kp_succ h, ahN_app]
  congr 1
  split
  · unfold ahN; rw [List.filter_cons]; split <;> rfl
  · rfl
set_option maxRecDepth 100000 in
set_option maxHeartbeats 16000000 in
theorem safe_any (v u : Value) (l m : List Pe) (hl : ∀ x ∈ l, x.fits) (hm : ∀ x ∈ m, x.fits) (i : Nat) (hi : i < l.length) (t : St) (ht : t.fits) (w : World) (h : ReadsL peV 10 w v l) (h2 : ReadsL peV 10 w u m) (hn : l.length + m.length ≤ 900000) :
    Calls Try.prog 77 #[v, u, .int .i64 i, .agg #[.int .i64 t.most, .int .i64 t.q.group, .int .i64 t.q.ping, .int .i64 t.q.work, .int .i64 t.q.time, .int .u64 t.s]] w fun e w' => e = .returned (.bool (sfB l m i t)) ∧ Below w.heap.size w w' := by
  have HR1 := Lib.hid h; have HR2 := Lib.hid h2
  obtain ⟨L, hL⟩ : ∃ L, L = l ++ m := ⟨_, rfl⟩
  have hCT : ∀ W, Below w.heap.size w W → Calls Try.prog 118 #[.slice (some ⟨W.heap.size, 0, none⟩) 2 2] (W.alloc (.cells #[v, u] 58)) fun e w' => ∃ r, e = .returned r ∧ ReadsL peV 10 w' r L ∧ Below W.heap.size W w' := fun W hW => by
    have hb : Below W.heap.size W (W.alloc (.cells #[v, u] 58)) := (Below.refl _ _).alloc (Nat.le_refl _) _
    have hb2 := below2 hW hb
    refine (concatPe v u l m W.heap.size _ (by simp [go_sem]) (by simp [go_sem]) (by simp) (ReadsL.below h hb2) (ReadsL.below h2 hb2) (by omega)).mono ?_
    rintro e w' ⟨r, rfl, rd, hb'⟩
    exact ⟨r, rfl, by rw [hL]; exact rd, below2 hb hb'⟩
  have hLn : L.length ≤ 900000 := by rw [hL, List.length_append]; exact hn
  obtain ⟨hmu, pu, cu, rfl, -⟩ := pes_open h2
  have hLf : ∀ x ∈ L, x.fits := fun x hx => by rw [hL] at hx; rcases List.mem_append.1 hx with hx | hx; exact hl x hx; exact hm x hx
  have HL := Lib.hid hL; have HLF := Lib.hid hLf
  clear hL hLf
  obtain ⟨hm1, p, c, rfl, h3⟩ := pes_open h
  clear h h2
  obtain ⟨a, ha⟩ : ∃ a, l[i]? = some a := ⟨_, List.getElem?_eq_getElem hi⟩
  have hag : rkGet l i = a := rkGet_at ha
  have fa : a.fits := hl a (List.mem_of_getElem? ha)
  obtain ⟨b, o, rfl, h4, h5, h6⟩ := h3 (by omega)
  have HA := Lib.hid (h6 i a ha)
  have q1 : (0 : Int) ≤ (i : Int) := by omega
  have q2 : (i : Int) < (l.length : Int) := by omega
  have q3 : ¬ ((l.length : Int) ≤ (i : Int)) := by omega
  clear h3 h6 ha
  cases hca : a.came with
  | false =>
    have hF : sfB l m i t = false := sf_none (Or.inl (by rw [hag]; exact hca))
    rw [hF]
    obtain ⟨k0, k1, k2, k3, k4, k5, k6, k7, k8, k9⟩ := HA.out
    rw [hca] at k4
    clear hag hF hca k0 k1 k2 k3 k5 k6 k7 k8 k9
    have k4' := keep ((Below.refl w.heap.size w).alloc (Nat.le_refl _) (.cells #[.int .i64 t.most, .int .i64 t.q.group, .int .i64 t.q.ping, .int .i64 t.q.work, .int .i64 t.q.time, .int .u64 t.s] 105)) h5 k4
    go_enter Try.func77, Try.ntmps77
    go_wp2_with fail
    go_ret
    refine ⟨rfl, ?_⟩
    (repeat (first | with_reducible assumption | with_reducible exact Below.refl _ _ | with_reducible refine Below.setCell ?_ (by first | omega | (simp; done) | (simp; omega)) _ | with_reducible refine Below.alloc ?_ (by first | omega | (simp; done) | (simp; omega)) _ | with_reducible refine Below.drew ?_ | (with_reducible refine Below.trans ?_ (Below.mono (by with_reducible assumption) (by first | omega | (simp; done) | (simp; omega)))) | (refine Below.trans ?_ (Below.mono (by assumption) (by first | omega | (simp; done) | (simp; omega))))))
  | true =>
    have hF0 : ∀ r : Bool, (∃ b : Nat, 1 ≤ b ∧ b ≤ 4 ∧ sfO l m i t b = true) → sfB l m i t = true := fun _ ⟨b, h1, h4, h⟩ => sf_of (by rw [hag]; exact hca) h1 h4 h
    have HT := Lib.hid (hF0 true)
    have HF := Lib.hid (fun (h : ∀ b : Nat, 1 ≤ b → b ≤ 4 → sfO l m i t b = false) => sf_none (l := l) (news := m) (i := i) (t := t) (Or.inr h))
    have HSO := Lib.hid (fun b : Nat => show sfO l m i t b = (rkCounts a (b : Int) && decide ((ahN (cameL l ++ m) a (b : Int) t.s : Int) < quN t.q (b : Int))) by unfold sfO; rw [hag])
    have HCT := Lib.hid hCT
    have HCA := Lib.hid hca
    clear hF0 hag hca hCT
    go_enter Try.func77, Try.ntmps77
    go_upto_region 1 with fail
    go_name_world W0 hW0
    obtain ⟨B, hB⟩ : ∃ B, B = w.heap.size := ⟨_, rfl⟩
    have hS0 : BlockIs W0 B [.int .i64 t.most, .int .i64 t.q.group, .int .i64 t.q.ping, .int .i64 t.q.work, .int .i64 t.q.time, .int .u64 t.s] 105 := by subst hW0 hB; exact BlockIs.newAt' _ _ _ (by simp)
    have b0 : Below w.heap.size w W0 := by subst hW0; (repeat (first | with_reducible assumption | with_reducible exact Below.refl _ _ | with_reducible refine Below.setCell ?_ (by first | omega | (simp; done) | (simp; omega)) _ | with_reducible refine Below.alloc ?_ (by first | omega | (simp; done) | (simp; omega)) _ | with_reducible refine Below.drew ?_ | (with_reducible refine Below.trans ?_ (Below.mono (by with_reducible assumption) (by first | omega | (simp; done) | (simp; omega)))) | (refine Below.trans ?_ (Below.mono (by assumption) (by first | omega | (simp; done) | (simp; omega))))))
    rw [← hB]
    have HS0 := Lib.hid hS0; have HB0 := Lib.hid b0
    have KA := HA.out.below b0 h5
    obtain ⟨k0, k1, k2, k3, k4, k5, k6, k7, k8, k9⟩ := KA
    rw [HCA.out] at k4
    clear hW0 hB hS0 b0 k0 k1 k2 k3 k5 k6 k7 k8 k9
    go_upto_region 3 with fail
    clear k4
    go_wp2_with fail
    go_loopw [9] (fun b' wr => ∃ b : Nat, 1 ≤ b ∧ b ≤ 5 ∧ b' = .int .i64 b ∧ Hid (∀ c : Nat, 1 ≤ c → c < b → sfO l m i t c = false) ∧ Hid (Below W0.heap.size W0 wr)) (fun b' _ => 5 - (intOf b').toNat)
    case atStart => exact ⟨1, by omega, by omega, rfl, fun c h1 h2 => by omega, Below.refl _ _⟩
    case round =>
      obtain ⟨by_, hb1, hb5, rfl, HO, HBB⟩ := hrel
      by_cases hb4 : by_ ≤ 4
      · have qb1 : (1 : Int) ≤ (by_ : Int) := by omega
        have qb4 : (by_ : Int) ≤ (4 : Int) := by omega
        have HS := HS0.out.below HBB.out
        have HBw := Lib.hid (below2 HB0.out HBB.out)
        obtain ⟨wo, rfl⟩ : ∃ wo : World, wo = wr := ⟨_, rfl⟩
        have HSo := Lib.hid HS
        have hsz := HS.lt
        clear HS
        go_wp2_with (go_at_call 118; (with_reducible refine (HCT.out _ HBw.out).mono ?_); rintro e w1 ⟨r1, rfl, rd1, b1⟩; obtain ⟨hmx, p2, c2, rfl, h32⟩ := pes_open rd1; have H32 := Lib.hid h32; have HB1 := Lib.hid b1; clear rd1 h32 b1)
        go_loopw [10, 38] (fun n' i' wr => ∃ k : Nat, k ≤ L.length ∧ i' = .int .i64 k ∧ n' = .int .i64 ((ahN (kpL l m k) a (by_ : Int) t.s : Nat) : Int) ∧ Hid (Below w1.heap.size w1 wr)) (fun _ i' _ => L.length - (intOf i').toNat)
        case atStart => exact ⟨0, by omega, rfl, by rw [kp_zero]; rfl, Below.refl _ _⟩
        case round =>
          obtain ⟨k, hk, rfl, rfl, HB⟩ := hrel
          have HBa := Lib.hid (below2 HB1.out HB.out)
          have hSr := HSo.out.below HBa.out
          have HAr := (HA.out.below (below2 HBw.out HBa.out) h5)
          have hgl := Nat.le_trans (ahN_le (kpL l m k) a (by_ : Int) t.s) (kp_len l m k)
          by_cases hlt : k < L.length
          · obtain ⟨x, hx⟩ : ∃ x, L[k]? = some x := ⟨_, List.getElem?_eq_getElem hlt⟩
            obtain ⟨b2, o2, rfl, h42, h52, h62⟩ := H32.out (by omega)
            have K := (h62 k x hx).below HB.out h52
            have fx : x.fits := HLF.out x (List.mem_of_getElem? hx)
            have q4 : (0 : Int) ≤ (k : Int) := by omega
            have q5 : (k : Int) < (L.length : Int) := by omega
            have HN := Lib.hid (ah_succ (l := l) (m := m) (by rw [← HL.out]; exact hx) a (by_ : Int) t.s)
            have hc := fun w => rk_counts_any x (by_ : Int) w
            have hah := fun w => rk_ahead_any x a fx fa (by_ : Int) t.s ht.2.2 w
            have hds := HSo.out.lt
            clear hx h62 h42 fx
            generalize rkCounts x (by_ : Int) = cc at *
            generalize rkAhead x a (by_ : Int) t.s = aa at *
            generalize hg : ahN (kpL l m k) a (by_ : Int) t.s = g at *
            have HH := Lib.hid hc; have HAA := Lib.hid hah; have HG := Lib.hid hg
            clear hc hah hg
            obtain ⟨k0, k1, k2, k3, k4, k5, k6, k7, k8, k9⟩ := K
            go_upto_region 10 with (refine list_store_blk rfl 66 _ _ rfl (wr.heap.size) _ _ 66 (BlockIs.newAt' _ _ _ (by simp)) rfl rfl (by kernel_rfl) rfl (by simp [Value.oneCell']) wr.heap.size wr (by (repeat (first | with_reducible assumption | with_reducible exact Below.refl _ _ | with_reducible refine Below.setCell ?_ (by first | omega | (simp; done) | (simp; omega)) _ | with_reducible refine Below.alloc ?_ (by first | omega | (simp; done) | (simp; omega)) _ | with_reducible refine Below.drew ?_ | (with_reducible refine Below.trans ?_ (Below.mono (by with_reducible assumption) (by first | omega | (simp; done) | (simp; omega)))) | (refine Below.trans ?_ (Below.mono (by assumption) (by first | omega | (simp; done) | (simp; omega))))))) (Nat.le_refl _) ?_; intro W7 hP hoth hsz7 b7; clear hoth hsz7; dsimp only [Act.put])
            have hl5 : b < wr.heap.size := Nat.lt_of_lt_of_le h5 (below2 HBw.out HBa.out).size
            have Y := (HAr.below b7 hl5).ext (Nat.lt_of_lt_of_le hl5 b7.size)
            have hS7 := hSr.below b7
            have es5 : ∀ y, (ext W7 y).cell? ⟨B, 5, none⟩ = some (.int .u64 t.s) := fun y => (ext_cell W7 y (p := ⟨B, 5, none⟩) hS7.lt).trans (hS7.cell (i := 5) rfl)
            have HB7 := Lib.hid b7
            clear k0 k1 k2 k3 k4 k5 k6 k7 k8 k9 b7 hSr hS7 HAr
            have y0 := fun y => (Y y).1; have y1 := fun y => (Y y).2.1; have y2 := fun y => (Y y).2.2.1; have y3 := fun y => (Y y).2.2.2.1; have y4 := fun y => (Y y).2.2.2.2.1; have y5 := fun y => (Y y).2.2.2.2.2.1; have y6 := fun y => (Y y).2.2.2.2.2.2.1; have y7 := fun y => (Y y).2.2.2.2.2.2.2.1; have y8 := fun y => (Y y).2.2.2.2.2.2.2.2.1; have y9 := fun y => (Y y).2.2.2.2.2.2.2.2.2
            have x0 := fun y => (hP.below (ext_below W7 y)).cell (i := 0) rfl; have x1 := fun y => (hP.below (ext_below W7 y)).cell (i := 1) rfl; have x2 := fun y => (hP.below (ext_below W7 y)).cell (i := 2) rfl; have x3 := fun y => (hP.below (ext_below W7 y)).cell (i := 3) rfl; have x4 := fun y => (hP.below (ext_below W7 y)).cell (i := 4) rfl; have x5 := fun y => (hP.below (ext_below W7 y)).cell (i := 5) rfl; have x6 := fun y => (hP.below (ext_below W7 y)).cell (i := 6) rfl; have x7 := fun y => (hP.below (ext_below W7 y)).cell (i := 7) rfl; have x8 := fun y => (hP.below (ext_below W7 y)).cell (i := 8) rfl; have x9 := fun y => (hP.below (ext_below W7 y)).cell (i := 9) rfl
            clear Y
            cases hcx : x.came with
            | true =>
              rw [hcx] at x4 HH HAA
              have HCX := Lib.hid hcx
              clear hcx
              cases cc with
              | false =>
                refine wp_region_ext (by kernel_rfl) (by kernel_rfl) ?_
                repeat (go_big_quiet_step ((first | (go_at_call 119; with_reducible exact qe (HH.out _)) | (go_at_call 120; with_reducible exact qe (HAA.out _)))))
                refine wpQuiet_nil ?_
                first | (intro _ hw'; obtain ⟨gx, hw''⟩ := hw'; subst hw'') | intro gx
                clear x0 x1 x2 x3 x4 x5 x6 x7 x8 x9 y0 y1 y2 y3 y4 y5 y6 y7 y8 y9 es5
                have b8 := below2 HB.out (below2 HB7.out (ext_below W7 gx))
                go_wp2_with fail
                go_roundw
                case rel => exact ⟨k + 1, by omega, by go_num, by (have e := HN.out; rw [HCX.out] at e; simp at e; rw [e]), b8⟩
                case measure => simp [intOf]; omega
              | true =>
                cases aa with
                | false =>
                  refine wp_region_ext (by kernel_rfl) (by kernel_rfl) ?_
                  repeat (go_big_quiet_step ((first | (go_at_call 119; with_reducible exact qe (HH.out _)) | (go_at_call 120; with_reducible exact qe (HAA.out _)))))
                  refine wpQuiet_nil ?_
                  first | (intro _ hw'; obtain ⟨gx, hw''⟩ := hw'; subst hw'') | intro gx
                  clear x0 x1 x2 x3 x4 x5 x6 x7 x8 x9 y0 y1 y2 y3 y4 y5 y6 y7 y8 y9 es5
                  have b8 := below2 HB.out (below2 HB7.out (ext_below W7 gx))
                  go_wp2_with fail
                  go_roundw
                  case rel => exact ⟨k + 1, by omega, by go_num, by (have e := HN.out; rw [HCX.out] at e; simp at e; rw [e]), b8⟩
                  case measure => simp [intOf]; omega
                | true =>
                  refine wp_region_ext (by kernel_rfl) (by kernel_rfl) ?_
                  repeat (go_big_quiet_step ((first | (go_at_call 119; with_reducible exact qe (HH.out _)) | (go_at_call 120; with_reducible exact qe (HAA.out _)))))
                  refine wpQuiet_nil ?_
                  first | (intro _ hw'; obtain ⟨gx, hw''⟩ := hw'; subst hw'') | intro gx
                  clear x0 x1 x2 x3 x4 x5 x6 x7 x8 x9 y0 y1 y2 y3 y4 y5 y6 y7 y8 y9 es5
                  have b8 := below2 HB.out (below2 HB7.out (ext_below W7 gx))
                  go_wp2_with fail
                  go_roundw
                  case rel => exact ⟨k + 1, by omega, by go_num, by (have e := HN.out; rw [HCX.out] at e; simp at e; rw [e]); go_num, b8⟩
                  case measure => simp [intOf]; omega
            | false =>
              rw [hcx] at x4 HH HAA
              have HCX := Lib.hid hcx
              clear hcx
              by_cases hge : l.length ≤ k
              · have q6 : (l.length : Int) ≤ (k : Int) := by omega
                have HGE := Lib.hid (decide_eq_true hge)
                cases cc with
                | false =>
                  refine wp_region_ext (by kernel_rfl) (by kernel_rfl) ?_
                  repeat (go_big_quiet_step ((first | (go_at_call 119; with_reducible exact qe (HH.out _)) | (go_at_call 120; with_reducible exact qe (HAA.out _)))))
                  refine wpQuiet_nil ?_
                  first | (intro _ hw'; obtain ⟨gx, hw''⟩ := hw'; subst hw'') | intro gx
                  clear x0 x1 x2 x3 x4 x5 x6 x7 x8 x9 y0 y1 y2 y3 y4 y5 y6 y7 y8 y9 es5
                  have b8 := below2 HB.out (below2 HB7.out (ext_below W7 gx))
                  go_wp2_with fail
                  go_roundw
                  case rel => exact ⟨k + 1, by omega, by go_num, by (have e := HN.out; rw [HCX.out] at e; rw [HGE.out] at e; simp at e; rw [e]), b8⟩
                  case measure => simp [intOf]; omega
                | true =>
                  cases aa with
                  | false =>
                    refine wp_region_ext (by kernel_rfl) (by kernel_rfl) ?_
                    repeat (go_big_quiet_step ((first | (go_at_call 119; with_reducible exact qe (HH.out _)) | (go_at_call 120; with_reducible exact qe (HAA.out _)))))
                    refine wpQuiet_nil ?_
                    first | (intro _ hw'; obtain ⟨gx, hw''⟩ := hw'; subst hw'') | intro gx
                    clear x0 x1 x2 x3 x4 x5 x6 x7 x8 x9 y0 y1 y2 y3 y4 y5 y6 y7 y8 y9 es5
                    have b8 := below2 HB.out (below2 HB7.out (ext_below W7 gx))
                    go_wp2_with fail
                    go_roundw
                    case rel => exact ⟨k + 1, by omega, by go_num, by (have e := HN.out; rw [HCX.out] at e; rw [HGE.out] at e; simp at e; rw [e]), b8⟩
                    case measure => simp [intOf]; omega
                  | true =>
                    refine wp_region_ext (by kernel_rfl) (by kernel_rfl) ?_
                    repeat (go_big_quiet_step ((first | (go_at_call 119; with_reducible exact qe (HH.out _)) | (go_at_call 120; with_reducible exact qe (HAA.out _)))))
                    refine wpQuiet_nil ?_
                    first | (intro _ hw'; obtain ⟨gx, hw''⟩ := hw'; subst hw'') | intro gx
                    clear x0 x1 x2 x3 x4 x5 x6 x7 x8 x9 y0 y1 y2 y3 y4 y5 y6 y7 y8 y9 es5
                    have b8 := below2 HB.out (below2 HB7.out (ext_below W7 gx))
                    go_wp2_with fail
                    go_roundw
                    case rel => exact ⟨k + 1, by omega, by go_num, by (have e := HN.out; rw [HCX.out] at e; rw [HGE.out] at e; simp at e; rw [e]); go_num, b8⟩
                    case measure => simp [intOf]; omega
              · have q6 : ¬ ((l.length : Int) ≤ (k : Int)) := by omega
                have HGE := Lib.hid (decide_eq_false hge)
                refine wp_region_ext (by kernel_rfl) (by kernel_rfl) ?_
                repeat (go_big_quiet_step ((first | (go_at_call 119; with_reducible exact qe (HH.out _)) | (go_at_call 120; with_reducible exact qe (HAA.out _)))))
                refine wpQuiet_nil ?_
                first | (intro _ hw'; obtain ⟨gx, hw''⟩ := hw'; subst hw'') | intro gx
                clear x0 x1 x2 x3 x4 x5 x6 x7 x8 x9 y0 y1 y2 y3 y4 y5 y6 y7 y8 y9 es5
                have b8 := below2 HB.out (below2 HB7.out (ext_below W7 gx))
                go_wp2_with fail
                go_roundw
                case rel => exact ⟨k + 1, by omega, by go_num, by (have e := HN.out; rw [HCX.out] at e; rw [HGE.out] at e; simp at e; rw [e]), b8⟩
                case measure => simp [intOf]; omega
          · obtain rfl : k = L.length := by omega
            have HKA : Hid (kpL l m L.length = cameL l ++ m) := by show _ = _; rw [HL.out]; exact kp_all l m
            have HS1 := Lib.hid (HSO.out by_)
            have hga : ahN (kpL l m L.length) a (by_ : Int) t.s = ahN (cameL l ++ m) a (by_ : Int) t.s := by rw [HKA.out]
            have hcc := fun w => rk_counts_any a (by_ : Int) w
            have hqq := fun w => siQuota_any t.q by_ hb1 hb4 w
            rw [hga] at hgl ⊢
            clear hga HKA
            generalize ahN (cameL l ++ m) a (by_ : Int) t.s = g at *
            generalize rkCounts a (by_ : Int) = cc at *
            generalize quN t.q (by_ : Int) = qn at *
            have HH := Lib.hid hcc; have HQ := Lib.hid hqq
            obtain ⟨k0, k1, k2, k3, k4, k5, k6, k7, k8, k9⟩ := HAr
            have s1 := hSr.cell (i := 1) rfl; have s2 := hSr.cell (i := 2) rfl; have s3 := hSr.cell (i := 3) rfl; have s4 := hSr.cell (i := 4) rfl
            have lS := hSr.lt
            clear hcc hqq hSr hgl
            cases cc with
            | false =>
              go_wp2_with (go_at_call 119; (with_reducible refine (HH.out _).mono ?_); rintro e w3 ⟨rfl, b3⟩)
              go_roundw
              case rel => exact ⟨by_ + 1, by omega, by omega, by go_num, fun c h1 h2 => (by
                rcases Nat.lt_or_ge c by_ with e | e
                · exact HO.out c h1 e
                · obtain rfl : c = by_ := by omega
                  rw [HS1.out]; rfl), below2 HBB.out (below2 HBa.out b3)⟩
              case measure => simp [intOf]; omega
            | true =>
              by_cases hlq : (g : Int) < qn
              · go_wp2_with (first | (go_at_call 119; (with_reducible refine (HH.out _).mono ?_); rintro e w3 ⟨rfl, b3⟩; have r1 := keep b3 lS s1; have r2 := keep b3 lS s2; have r3 := keep b3 lS s3; have r4 := keep b3 lS s4) | (go_at_call 121; (with_reducible refine (HQ.out _).mono ?_); rintro e w4 ⟨rfl, b4⟩))
                go_ret
                refine ⟨?_, below2 HBw.out (below2 HBa.out (below2 b3 b4))⟩
                rw [HT.out ⟨by_, hb1, hb4, by rw [HS1.out, decide_eq_true (by omega)]; rfl⟩]; rfl
              · go_wp2_with (first | (go_at_call 119; (with_reducible refine (HH.out _).mono ?_); rintro e w3 ⟨rfl, b3⟩; have r1 := keep b3 lS s1; have r2 := keep b3 lS s2; have r3 := keep b3 lS s3; have r4 := keep b3 lS s4) | (go_at_call 121; (with_reducible refine (HQ.out _).mono ?_); rintro e w4 ⟨rfl, b4⟩))
                go_roundw
                case rel => exact ⟨by_ + 1, by omega, by omega, by go_num, fun c h1 h2 => (by
                  rcases Nat.lt_or_ge c by_ with e | e
                  · exact HO.out c h1 e
                  · obtain rfl : c = by_ := by omega
                    rw [HS1.out, decide_eq_false (by omega)]; rfl), below2 HBB.out (below2 HBa.out (below2 b3 b4))⟩
                case measure => simp [intOf]; omega
      · obtain rfl : by_ = 5 := by omega
        go_wp2_with fail
        go_ret
        refine ⟨?_, below2 HB0.out HBB.out⟩
        rw [HF.out fun c h1 h4 => HO.out c h1 (by omega)]; rfl

end Go.Proofs.Ytppmjbnhghaffaa
/- The contract of siege.Run. Conditions: numbers are 64 bits. -/
namespace Go.Proofs.Ytppmjbnhghaffaa
open Go.RowKit
set_option linter.unusedSimpArgs false
set_option linter.unusedVariables false

set_option maxRecDepth 100000 in
set_option maxHeartbeats 8000000 in
theorem run_any (v u : Value) (l news : List Pe) (hl : ∀ x ∈ l, x.fits) (hm : ∀ x ∈ news, x.fits) (t : St) (ht : t.fits) (w : World) (h : ReadsL peV 10 w v l) (h2 : ReadsL peV 10 w u news) (hn : l.length + news.length ≤ 900000) :
    Calls Try.prog 81 #[v, u, .agg #[.int .i64 t.most, .int .i64 t.q.group, .int .i64 t.q.ping, .int .i64 t.q.work, .int .i64 t.q.time, .int .u64 t.s]] w fun e w' => ∃ r, e = .returned r ∧ ReadsL peV 10 w' r (siL l news t) ∧ Below w.heap.size w w' := by
  have HC := Lib.hid (fun W (hW : Below w.heap.size w W) => clonePe v l W (ReadsL.below h hW) (by omega))
  obtain ⟨hm2, p, c, rfl, h3⟩ := pes_open h2
  clear h h2
  go_enter Try.func81, Try.ntmps81
  go_upto_region 1 with fail
  go_name_world W0 hW0
  obtain ⟨B, hB⟩ : ∃ B, B = w.heap.size := ⟨_, rfl⟩
  have hS0 : BlockIs W0 B [.int .i64 t.most, .int .i64 t.q.group, .int .i64 t.q.ping, .int .i64 t.q.work, .int .i64 t.q.time, .int .u64 t.s] 105 := by subst hW0 hB; exact BlockIs.newAt' _ _ _ (by simp)
  have b0 : Below w.heap.size w W0 := by subst hW0; (repeat (first | with_reducible assumption | with_reducible exact Below.refl _ _ | with_reducible refine Below.setCell ?_ (by first | omega | (simp; done) | (simp; omega)) _ | with_reducible refine Below.alloc ?_ (by first | omega | (simp; done) | (simp; omega)) _ | with_reducible refine Below.drew ?_ | (with_reducible refine Below.trans ?_ (Below.mono (by with_reducible assumption) (by first | omega | (simp; done) | (simp; omega)))) | (refine Below.trans ?_ (Below.mono (by assumption) (by first | omega | (simp; done) | (simp; omega))))))
  rw [← hB]
  have HS0 := Lib.hid hS0; have HB0 := Lib.hid b0
  clear hW0 hB hS0 b0
  go_upto_region 2 with (go_at_call 100; (with_reducible refine (HC.out _ HB0.out).mono ?_); rintro e w1 ⟨r1, rfl, o1, b1, f1⟩)
  have HS1 := Lib.hid (HS0.out.below b1)
  have HR1 : Hid (ReadsL peV 10 w1 r1 l) := by unfold ReadsL; exact owns_reads o1
  have HB1 := Lib.hid (below2 HB0.out b1)
  clear f1 o1 b1 HS0 HB0
  go_wp2_with fail
  go_loopw [0, 13] (fun v' i' wr => ∃ k : Nat, k ≤ news.length ∧ i' = .int .i64 k ∧ Hid (ReadsL peV 10 wr v' (siL l (news.take k) t)) ∧ Hid (Below w1.heap.size w1 wr)) (fun _ i' _ => news.length - (intOf i').toNat)
  case atStart => exact ⟨0, by omega, rfl, HR1.out, Below.refl _ _⟩
  case round =>
    obtain ⟨k, hk, rfl, HR, HB⟩ := hrel
    by_cases hlt : k < news.length
    · obtain ⟨x, hx⟩ : ∃ x, news[k]? = some x := ⟨_, List.getElem?_eq_getElem hlt⟩
      obtain ⟨b, o, rfl, h4, h5, h6⟩ := h3 (by omega)
      have K := (h6 k x hx).below (below2 HB1.out HB.out) h5
      have fx : x.fits := hm x (List.mem_of_getElem? hx)
      have q1 : (0 : Int) ≤ (k : Int) := by omega
      have q2 : (k : Int) < (news.length : Int) := by omega
      have hS := siL_snoc l (news.take k) x t
      rw [← show news.take (k + 1) = news.take k ++ [x] by rw [List.take_add_one, hx, Option.toList_some]] at hS
      have HSN := Lib.hid hS
      have hlen : (siL l (news.take k) t).length ≤ 999999 := by
        have := run_len (t := t) (news.take k) l
        rw [List.length_take] at this; omega
      have HA := Lib.hid (fun W (hW : Below wr.heap.size wr W) => arrive_any _ _ (run_fits (t := t) (news.take k) l hl (fun y hy => hm y (List.mem_of_mem_take hy))) x t ht W (ReadsL.below HR.out hW) hlen)
      obtain ⟨k0, k1, k2, k3, k4, k5, k6, k7, k8, k9⟩ := K
      clear hx h6 hS hlen fx h3 hl hm
      go_upto_region 5 with (refine list_store_blk rfl 66 _ _ rfl (wr.heap.size) _ _ 66 (BlockIs.newAt' _ _ _ (by simp)) rfl rfl (by kernel_rfl) rfl (by simp [Value.oneCell']) wr.heap.size wr (by (repeat (first | with_reducible assumption | with_reducible exact Below.refl _ _ | with_reducible refine Below.setCell ?_ (by first | omega | (simp; done) | (simp; omega)) _ | with_reducible refine Below.alloc ?_ (by first | omega | (simp; done) | (simp; omega)) _ | with_reducible refine Below.drew ?_ | (with_reducible refine Below.trans ?_ (Below.mono (by with_reducible assumption) (by first | omega | (simp; done) | (simp; omega)))) | (refine Below.trans ?_ (Below.mono (by assumption) (by first | omega | (simp; done) | (simp; omega))))))) (Nat.le_refl _) ?_; intro W5 hP hoth hsz b5; clear hoth hsz)
      clear k0 k1 k2 k3 k4 k5 k6 k7 k8 k9
      have hS5 := (HS1.out.below HB.out).below b5
      have HB5 := Lib.hid b5
      have x0 := hP.cell (i := 0) rfl
      have x1 := hP.cell (i := 1) rfl
      have x2 := hP.cell (i := 2) rfl
      have x3 := hP.cell (i := 3) rfl
      have x4 := hP.cell (i := 4) rfl
      have x5 := hP.cell (i := 5) rfl
      have x6 := hP.cell (i := 6) rfl
      have x7 := hP.cell (i := 7) rfl
      have x8 := hP.cell (i := 8) rfl
      have x9 := hP.cell (i := 9) rfl
      have xf := hP.frozen
      have xl := hP.lt
      have s0 := hS5.cell (i := 0) rfl
      have s1 := hS5.cell (i := 1) rfl
      have s2 := hS5.cell (i := 2) rfl
      have s3 := hS5.cell (i := 3) rfl
      have s4 := hS5.cell (i := 4) rfl
      have s5 := hS5.cell (i := 5) rfl
      have sf := hS5.frozen
      have sl := hS5.lt
      clear b5 hP hS5
      go_wp2_with (go_at_call 79; (with_reducible refine (HA.out _ HB5.out).mono ?_); rintro e w6 ⟨r6, rfl, rd6, b6⟩)
      go_roundw
      case rel => exact ⟨k + 1, by omega, by go_num, by show ReadsL _ _ _ _ _; rw [HSN.out]; exact rd6, below2 HB.out (below2 HB5.out b6)⟩
      case measure => simp [intOf]; omega
    · obtain rfl : k = news.length := by omega
      have HT : Hid (siL l (news.take news.length) t = siL l news t) := by show _ = _; rw [List.take_length]
      go_wp2_with fail
      go_ret
      exact ⟨_, rfl, by rw [← HT.out]; exact HR.out, below2 HB1.out HB.out⟩
end Go.Proofs.Ytppmjbnhghaffaa
/- The contract of the document's Safe. Conditions: numbers are 64 bits. -/
namespace Go.Proofs.Ytppmjbnhghaffaa
open Go.RowKit
set_option linter.unusedSimpArgs false
set_option linter.unusedVariables false

theorem rk_self (a : Pe) (q : Int) (s : Nat) : rkAhead a a q s = false := by
  unfold rkAhead
  rw [(cmp_full q s).self a]; simp
theorem rank_all (a : Pe) (R : List Pe) (q : Int) (s : Nat) : rkRank (a :: R) 0 q s = (ahN R a q s : Nat) := by
  unfold rkRank
  rw [if_neg (by simp)]
  show ((rkN (a :: R) a q s (a :: R).length : Nat) : Int) = _
  rw [ahN_rk]
  unfold ahN
  rw [List.filter_cons, rk_self, Bool.and_false]; simp
set_option maxRecDepth 100000 in
set_option maxHeartbeats 16000000 in
theorem refSafe_any (v u : Value) (l m : List Pe) (hl : ∀ x ∈ l, x.fits) (hm : ∀ x ∈ m, x.fits) (i : Nat) (hi : i < l.length) (t : St) (ht : t.fits) (w : World) (h : ReadsL peV 10 w v l) (h2 : ReadsL peV 10 w u m) (hn : l.length + m.length ≤ 900000) :
    Calls Try.prog 78 #[v, u, .int .i64 i, .agg #[.int .i64 t.q.group, .int .i64 t.q.ping, .int .i64 t.q.work, .int .i64 t.q.time], .int .u64 t.s] w fun e w' => e = .returned (.bool (sfB l m i t)) ∧ Below w.heap.size w w' := by
  obtain ⟨hmu, pu, cu, rfl, -⟩ := pes_open h2
  have HR1 := Lib.hid h; have HR2 := Lib.hid h2
  obtain ⟨hm1, p, c, rfl, h3⟩ := pes_open h
  have HCM := Lib.hid (fun W (hW : Below w.heap.size w W) => refCame_any _ l W (ReadsL.below h hW) (by omega))
  clear h h2
  obtain ⟨a, ha⟩ : ∃ a, l[i]? = some a := ⟨_, List.getElem?_eq_getElem hi⟩
  have hag : rkGet l i = a := rkGet_at ha
  have fa : a.fits := hl a (List.mem_of_getElem? ha)
  obtain ⟨b, o, rfl, h4, h5, h6⟩ := h3 (by omega)
  have HA := Lib.hid (h6 i a ha)
  have q1 : (0 : Int) ≤ (i : Int) := by omega
  have q2 : (i : Int) < (l.length : Int) := by omega
  have q3 : ¬ ((l.length : Int) ≤ (i : Int)) := by omega
  have hcl := cameL_le l
  have HCF := Lib.hid (cameL_fits hl)
  clear h3 h6 ha
  cases hca : a.came with
  | false =>
    have hF : sfB l m i t = false := sf_none (Or.inl (by rw [hag]; exact hca))
    rw [hF]
    obtain ⟨k0, k1, k2, k3, k4, k5, k6, k7, k8, k9⟩ := HA.out
    rw [hca] at k4
    clear hag hF hca k0 k1 k2 k3 k5 k6 k7 k8 k9
    have k4' := keep ((Below.refl w.heap.size w).alloc (Nat.le_refl _) (.cells #[.int .i64 t.q.group, .int .i64 t.q.ping, .int .i64 t.q.work, .int .i64 t.q.time] 103)) h5 k4
    go_enter Try.func78, Try.ntmps78
    go_wp2_with fail
    go_ret
    refine ⟨rfl, ?_⟩
    (repeat (first | with_reducible assumption | with_reducible exact Below.refl _ _ | with_reducible refine Below.setCell ?_ (by first | omega | (simp; done) | (simp; omega)) _ | with_reducible refine Below.alloc ?_ (by first | omega | (simp; done) | (simp; omega)) _ | with_reducible refine Below.drew ?_ | (with_reducible refine Below.trans ?_ (Below.mono (by with_reducible assumption) (by first | omega | (simp; done) | (simp; omega)))) | (refine Below.trans ?_ (Below.mono (by assumption) (by first | omega | (simp; done) | (simp; omega))))))
  | true =>
    have HT : Hid ((∃ b : Nat, 1 ≤ b ∧ b ≤ 4 ∧ sfO l m i t b = true) → sfB l m i t = true) := fun ⟨b, h1, h4, h⟩ => sf_of (by rw [hag]; exact hca) h1 h4 h
    have HF := Lib.hid (fun (h : ∀ b : Nat, 1 ≤ b → b ≤ 4 → sfO l m i t b = false) => sf_none (l := l) (news := m) (i := i) (t := t) (Or.inr h))
    have HSO := Lib.hid (fun b : Nat => show sfO l m i t b = (rkCounts a (b : Int) && decide ((ahN (cameL l ++ m) a (b : Int) t.s : Int) < quN t.q (b : Int))) by unfold sfO; rw [hag])
    have HCA := Lib.hid hca
    have hpe : peV a = [.bool a.en.ad.v6, .int .u64 a.en.ad.hi, .int .u64 a.en.ad.lo, .int .i64 a.en.port, .bool true, .int .i64 a.since, .int .i64 a.pts, .int .i64 a.at_, .int .i64 a.ping, .int .i64 a.work] := by unfold peV; rw [hca]
    have HPE := Lib.hid hpe
    clear hag hca hpe
    go_enter Try.func78, Try.ntmps78
    go_upto_region 1 with fail
    go_name_world W hW0
    obtain ⟨B, hB⟩ : ∃ B, B = w.heap.size := ⟨_, rfl⟩
    have hS0 : BlockIs W B [.int .i64 t.q.group, .int .i64 t.q.ping, .int .i64 t.q.work, .int .i64 t.q.time] 103 := by subst hW0 hB; exact BlockIs.newAt' _ _ _ (by simp)
    have b0 : Below w.heap.size w W := by subst hW0; (repeat (first | with_reducible assumption | with_reducible exact Below.refl _ _ | with_reducible refine Below.setCell ?_ (by first | omega | (simp; done) | (simp; omega)) _ | with_reducible refine Below.alloc ?_ (by first | omega | (simp; done) | (simp; omega)) _ | with_reducible refine Below.drew ?_ | (with_reducible refine Below.trans ?_ (Below.mono (by with_reducible assumption) (by first | omega | (simp; done) | (simp; omega)))) | (refine Below.trans ?_ (Below.mono (by assumption) (by first | omega | (simp; done) | (simp; omega))))))
    rw [← hB]
    have HS0 := Lib.hid hS0; have HB0 := Lib.hid b0
    have hlb : b < W.heap.size := Nat.lt_of_lt_of_le h5 b0.size
    have KA := HA.out.below b0 h5
    obtain ⟨k0, k1, k2, k3, k4, k5, k6, k7, k8, k9⟩ := KA
    rw [HCA.out] at k4
    have zb0 := b0.size
    clear hW0 hB hS0
    go_upto_region 3 with fail
    go_region_held3 (fun w' => w'.cell? ⟨b, o + i * 10, none⟩ = some (.bool a.en.ad.v6) ∧ w'.cell? ⟨b, o + i * 10 + 1, none⟩ = some (.int .u64 a.en.ad.hi) ∧ w'.cell? ⟨b, o + i * 10 + 2, none⟩ = some (.int .u64 a.en.ad.lo) ∧ w'.cell? ⟨b, o + i * 10 + 3, none⟩ = some (.int .i64 a.en.port) ∧ w'.cell? ⟨b, o + i * 10 + 4, none⟩ = some (.bool true) ∧ w'.cell? ⟨b, o + i * 10 + 5, none⟩ = some (.int .i64 a.since) ∧ w'.cell? ⟨b, o + i * 10 + 6, none⟩ = some (.int .i64 a.pts) ∧ w'.cell? ⟨b, o + i * 10 + 7, none⟩ = some (.int .i64 a.at_) ∧ w'.cell? ⟨b, o + i * 10 + 8, none⟩ = some (.int .i64 a.ping) ∧ w'.cell? ⟨b, o + i * 10 + 9, none⟩ = some (.int .i64 a.work)) (first | go_keep | (simp (disch := omega) [*]; done)) (first | (go_at_call 83; (with_reducible refine (HCM.out _ (by (repeat (first | with_reducible assumption | with_reducible exact Below.refl _ _ | with_reducible refine Below.setCell ?_ (by first | omega | (simp; done) | (simp; omega)) _ | with_reducible refine Below.alloc ?_ (by first | omega | (simp; done) | (simp; omega)) _ | with_reducible refine Below.drew ?_ | (with_reducible refine Below.trans ?_ (Below.mono (by with_reducible assumption) (by first | omega | (simp; done) | (simp; omega)))) | (refine Below.trans ?_ (Below.mono (by assumption) (by first | omega | (simp; done) | (simp; omega)))))))).mono ?_); rintro e w1 ⟨rc, rfl, rd1, b1⟩; obtain ⟨c1, f1⟩ := bcell b1; have z1 := b1.size; (try simp at z1); have d1 := fun o => c1 b o (by first | omega | (simp; done) | (simp; omega)); clear c1 f1) | (refine step_app_reads_g peRow (by rfl) (.tmp 33) (.tmp 35) (by rfl) W.heap.size (.slice (some ⟨W.heap.size, 0, none⟩) 1 1) (1) (([.bool a.en.ad.v6, .int .u64 a.en.ad.hi, .int .u64 a.en.ad.lo, .int .i64 a.en.port, .bool true, .int .i64 a.since, .int .i64 a.pts, .int .i64 a.at_, .int .i64 a.ping, .int .i64 a.work] : List Value)) (by rfl) (by repeat (first | (with_reducible refine owns_below ?_ b1) | (with_reducible refine World.ownsRow.drew ?_) | ((refine own_one ?_ ?_ ?_); (first | rfl | simp); (first | rfl | simp); (first | exact Nat.le_refl _ | exact b1.size | simp | (have := b1.size; simp; omega))) | (with_reducible refine World.ownsRow.alloc ?_ _))) _ ((cameL l).length) ((cameL l).flatMap peV) (by rfl) (Reads.below rd1 (by (repeat (first | with_reducible assumption | with_reducible exact Below.refl _ _ | with_reducible refine Below.setCell ?_ (by first | omega | (simp; done) | (simp; omega)) _ | with_reducible refine Below.alloc ?_ (by first | omega | (simp; done) | (simp; omega)) _ | with_reducible refine Below.drew ?_ | (with_reducible refine Below.trans ?_ (Below.mono (by with_reducible assumption) (by first | omega | (simp; done) | (simp; omega)))) | (refine Below.trans ?_ (Below.mono (by assumption) (by first | omega | (simp; done) | (simp; omega)))))))) (peV_ones _) (by omega) (by omega) (by first | exact b1.size | (refine Nat.le_trans ?_ b1.size; simp) | (simp; omega) | (have := b1.size; simp at *; omega)) ?_; intro v2 w2 o2 gr2; have bb2 : Below W.heap.size W w2 := below_grown (base := W.heap.size) (e := 66) (size := 10) (v := (.slice (some ⟨W.heap.size, 0, none⟩) 1 1)) (n := 1) (xs := ([.bool a.en.ad.v6, .int .u64 a.en.ad.hi, .int .u64 a.en.ad.lo, .int .i64 a.en.port, .bool true, .int .i64 a.since, .int .i64 a.pts, .int .i64 a.at_, .int .i64 a.ping, .int .i64 a.work] : List Value)) (by repeat (first | (with_reducible refine owns_below ?_ b1) | (with_reducible refine World.ownsRow.drew ?_) | ((refine own_one ?_ ?_ ?_); (first | rfl | simp); (first | rfl | simp); (first | exact Nat.le_refl _ | exact b1.size | simp | (have := b1.size; simp; omega))) | (with_reducible refine World.ownsRow.alloc ?_ _))) (by (repeat (first | with_reducible assumption | with_reducible exact Below.refl _ _ | with_reducible refine Below.setCell ?_ (by first | omega | (simp; done) | (simp; omega)) _ | with_reducible refine Below.alloc ?_ (by first | omega | (simp; done) | (simp; omega)) _ | with_reducible refine Below.drew ?_ | (with_reducible refine Below.trans ?_ (Below.mono (by with_reducible assumption) (by first | omega | (simp; done) | (simp; omega)))) | (refine Below.trans ?_ (Below.mono (by assumption) (by first | omega | (simp; done) | (simp; omega))))))) (Nat.le_refl _) (by first | exact b1.size | (refine Nat.le_trans ?_ b1.size; simp) | (simp; omega) | (have := b1.size; simp at *; omega)) gr2; obtain ⟨cf2, ff2⟩ := bcellB bb2; have db2 := fun o => cf2 b o (by omega); have z2 := bb2.size; clear cf2 ff2) | (refine step_app_reads_g peRow (by rfl) (.tmp 33) (.tmp 35) (by rfl) W.heap.size (.slice (some ⟨w1.heap.size, 0, none⟩) 1 1) (1) (([.bool a.en.ad.v6, .int .u64 a.en.ad.hi, .int .u64 a.en.ad.lo, .int .i64 a.en.port, .bool true, .int .i64 a.since, .int .i64 a.pts, .int .i64 a.at_, .int .i64 a.ping, .int .i64 a.work] : List Value)) (by rfl) (by repeat (first | (with_reducible refine owns_below ?_ b1) | (with_reducible refine World.ownsRow.drew ?_) | ((refine own_one ?_ ?_ ?_); (first | rfl | simp); (first | rfl | simp); (first | exact Nat.le_refl _ | exact b1.size | simp | (have := b1.size; simp; omega))) | (with_reducible refine World.ownsRow.alloc ?_ _))) _ ((cameL l).length) ((cameL l).flatMap peV) (by rfl) (Reads.below rd1 (by (repeat (first | with_reducible assumption | with_reducible exact Below.refl _ _ | with_reducible refine Below.setCell ?_ (by first | omega | (simp; done) | (simp; omega)) _ | with_reducible refine Below.alloc ?_ (by first | omega | (simp; done) | (simp; omega)) _ | with_reducible refine Below.drew ?_ | (with_reducible refine Below.trans ?_ (Below.mono (by with_reducible assumption) (by first | omega | (simp; done) | (simp; omega)))) | (refine Below.trans ?_ (Below.mono (by assumption) (by first | omega | (simp; done) | (simp; omega)))))))) (peV_ones _) (by omega) (by omega) (by first | exact b1.size | (refine Nat.le_trans ?_ b1.size; simp) | (simp; omega) | (have := b1.size; simp at *; omega)) ?_; intro v2 w2 o2 gr2; have bb2 : Below W.heap.size W w2 := below_grown (base := W.heap.size) (e := 66) (size := 10) (v := (.slice (some ⟨w1.heap.size, 0, none⟩) 1 1)) (n := 1) (xs := ([.bool a.en.ad.v6, .int .u64 a.en.ad.hi, .int .u64 a.en.ad.lo, .int .i64 a.en.port, .bool true, .int .i64 a.since, .int .i64 a.pts, .int .i64 a.at_, .int .i64 a.ping, .int .i64 a.work] : List Value)) (by repeat (first | (with_reducible refine owns_below ?_ b1) | (with_reducible refine World.ownsRow.drew ?_) | ((refine own_one ?_ ?_ ?_); (first | rfl | simp); (first | rfl | simp); (first | exact Nat.le_refl _ | exact b1.size | simp | (have := b1.size; simp; omega))) | (with_reducible refine World.ownsRow.alloc ?_ _))) (by (repeat (first | with_reducible assumption | with_reducible exact Below.refl _ _ | with_reducible refine Below.setCell ?_ (by first | omega | (simp; done) | (simp; omega)) _ | with_reducible refine Below.alloc ?_ (by first | omega | (simp; done) | (simp; omega)) _ | with_reducible refine Below.drew ?_ | (with_reducible refine Below.trans ?_ (Below.mono (by with_reducible assumption) (by first | omega | (simp; done) | (simp; omega)))) | (refine Below.trans ?_ (Below.mono (by assumption) (by first | omega | (simp; done) | (simp; omega))))))) (Nat.le_refl _) (by first | exact b1.size | (refine Nat.le_trans ?_ b1.size; simp) | (simp; omega) | (have := b1.size; simp at *; omega)) gr2; obtain ⟨cf2, ff2⟩ := bcellB bb2; have db2 := fun o => cf2 b o (by omega); have z2 := bb2.size; clear cf2 ff2) | fail)
    all_goals
      clear d1 db2 z2 b0 zb0
      obtain ⟨p2, c2, rfl⟩ := owns_slice o2
      have HO2 := Lib.hid o2; have HB2 := Lib.hid bb2
      have HBW := Lib.hid (below2 HB0.out HB2.out)
      obtain ⟨L, hL⟩ : ∃ L, L = a :: (cameL l ++ m) := ⟨_, rfl⟩
      have hLl : L.length = 1 + (cameL l).length + m.length := by rw [hL, List.length_cons, List.length_append]; omega
      have hLf : L.flatMap peV = ([.bool a.en.ad.v6, .int .u64 a.en.ad.hi, .int .u64 a.en.ad.lo, .int .i64 a.en.port, .bool true, .int .i64 a.since, .int .i64 a.pts, .int .i64 a.at_, .int .i64 a.ping, .int .i64 a.work] : List Value) ++ (cameL l).flatMap peV ++ m.flatMap peV := by rw [hL, List.flatMap_cons, List.flatMap_append, List.append_assoc, HPE.out]
      have HLX := Lib.hid hL; have HLL := Lib.hid hLl; have HLF := Lib.hid hLf
      clear hL hLl hLf gr2 o2 bb2 b1 rd1
      try clear z1
      go_wp2_with (at_builtin; refine list_app_reads peRow rfl (.tmp 37) (.tmp 38) rfl W.heap.size _ (1 + (cameL l).length) _ rfl HO2.out _ m.length (m.flatMap peV) rfl (Reads.below HR2.out HBW.out) (peV_ones _) (by omega) (by omega) HB2.out.size W.heap.size W HB2.out (Nat.le_refl _) ?_; intro v3 w3 o3 b3)
      have hRd : ReadsL peV 10 w3 v3 L := by unfold ReadsL; rw [HLL.out, HLF.out]; exact owns_reads o3
      have hLfit : ∀ x ∈ L, x.fits := fun x hx => by
        rw [HLX.out] at hx
        rcases List.mem_cons.1 hx with hx | hx
        · rw [hx]; exact fa
        · rcases List.mem_append.1 hx with hx | hx
          · exact HCF.out x hx
          · exact hm x hx
      have hLn : L.length ≤ 1000000 := by have := HLL.out; omega
      have HRK := Lib.hid (fun W' (hW : Below w3.heap.size w3 W') (q : Int) => ref_rank_any v3 L hLfit 0 q t.s ht.2.2 W' (ReadsL.below hRd hW) hLn)
      have HB3 := Lib.hid (below2 HB0.out b3)
      have HS3 := Lib.hid (HS0.out.below b3)
      have HA3 := Lib.hid (HA.out.below HB3.out h5)
      have hl3 := Nat.lt_of_lt_of_le h5 HB3.out.size
      clear o3 b3 hRd hLfit hLn k0 k1 k2 k3 k4 k5 k6 k7 k8 k9 HO2 HB2 HBW
      go_loopw [12] (fun b' wr => ∃ b : Nat, 1 ≤ b ∧ b ≤ 5 ∧ b' = .int .i64 b ∧ Hid (∀ c : Nat, 1 ≤ c → c < b → sfO l m i t c = false) ∧ Hid (Below w3.heap.size w3 wr)) (fun b' _ => 5 - (intOf b').toNat)
      case atStart => exact ⟨1, by omega, by omega, rfl, fun c h1 h2 => by omega, Below.refl _ _⟩
      case round =>
        obtain ⟨by_, hb1, hb5, rfl, HO, HBB⟩ := hrel
        by_cases hb4 : by_ ≤ 4
        · have qb1 : (1 : Int) ≤ (by_ : Int) := by omega
          have qb4 : (by_ : Int) ≤ (4 : Int) := by omega
          have Y := (HA3.out.below HBB.out hl3).ext (Nat.lt_of_lt_of_le hl3 HBB.out.size)
          have y0 := fun y => (Y y).1; have y1 := fun y => (Y y).2.1; have y2 := fun y => (Y y).2.2.1; have y3 := fun y => (Y y).2.2.2.1; have y4 := fun y => (Y y).2.2.2.2.1; have y5 := fun y => (Y y).2.2.2.2.2.1; have y6 := fun y => (Y y).2.2.2.2.2.2.1; have y7 := fun y => (Y y).2.2.2.2.2.2.2.1; have y8 := fun y => (Y y).2.2.2.2.2.2.2.2.1; have y9 := fun y => (Y y).2.2.2.2.2.2.2.2.2
          have hS := HS3.out.below HBB.out
          have s0 := fun y => (ext_cell wr y (p := ⟨B, 0, none⟩) hS.lt).trans (hS.cell (i := 0) rfl); have s1 := fun y => (ext_cell wr y (p := ⟨B, 1, none⟩) hS.lt).trans (hS.cell (i := 1) rfl); have s2 := fun y => (ext_cell wr y (p := ⟨B, 2, none⟩) hS.lt).trans (hS.cell (i := 2) rfl); have s3 := fun y => (ext_cell wr y (p := ⟨B, 3, none⟩) hS.lt).trans (hS.cell (i := 3) rfl)
          have HCO := Lib.hid (fun w => ref_counts_any a (by_ : Int) w)
          have HQ := Lib.hid (fun w => refQuota_any t.q by_ w)
          have HS1 := Lib.hid (HSO.out by_)
          have HR0 := Lib.hid (fun y => HRK.out (ext wr y) (below2 HBB.out (ext_below wr y)) (by_ : Int))
          rw [HLX.out, rank_all] at HR0
          clear hS Y
          generalize ahN (cameL l ++ m) a (by_ : Int) t.s = g at *
          generalize rkCounts a (by_ : Int) = cc at *
          generalize quN t.q (by_ : Int) = qn at *
          have qg : (0 : Int) ≤ (g : Int) := by omega
          cases cc with
          | false =>
            go_wp2_with fail
            refine wp_region_ext (by kernel_rfl) (by kernel_rfl) ?_
            repeat (go_big_quiet_step ((first | (go_at_call 122; with_reducible exact qe (HCO.out _)) | (go_at_call 123; with_reducible exact qe (HR0.out _)) | (go_at_call 124; with_reducible exact qe (HQ.out _)))))
            refine wpQuiet_nil ?_
            first | (intro _ hw'; obtain ⟨gx, hw''⟩ := hw'; subst hw'') | intro gx
            clear y0 y1 y2 y3 y4 y5 y6 y7 y8 y9 s0 s1 s2 s3
            go_wp2_with fail
            go_roundw
            case rel => exact ⟨by_ + 1, by omega, by omega, by go_num, fun c h1 h2 => (by
              rcases Nat.lt_or_ge c by_ with e | e
              · exact HO.out c h1 e
              · obtain rfl : c = by_ := by omega
                rw [HS1.out]; rfl), below2 HBB.out (ext_below wr gx)⟩
            case measure => simp [intOf]; omega
          | true =>
            by_cases hlq : (g : Int) < qn
            · go_wp2_with fail
              refine wp_region_ext (by kernel_rfl) (by kernel_rfl) ?_
              repeat (go_big_quiet_step ((first | (go_at_call 122; with_reducible exact qe (HCO.out _)) | (go_at_call 123; with_reducible exact qe (HR0.out _)) | (go_at_call 124; with_reducible exact qe (HQ.out _)))))
              refine wpQuiet_nil ?_
              first | (intro _ hw'; obtain ⟨gx, hw''⟩ := hw'; subst hw'') | intro gx
              clear y0 y1 y2 y3 y4 y5 y6 y7 y8 y9 s0 s1 s2 s3
              go_wp2_with fail
              go_ret
              refine ⟨?_, below2 HB3.out (below2 HBB.out (ext_below wr gx))⟩
              rw [HT.out ⟨by_, hb1, hb4, by rw [HS1.out, decide_eq_true (by omega)]; rfl⟩]; rfl
            · go_wp2_with fail
              refine wp_region_ext (by kernel_rfl) (by kernel_rfl) ?_
              repeat (go_big_quiet_step ((first | (go_at_call 122; with_reducible exact qe (HCO.out _)) | (go_at_call 123; with_reducible exact qe (HR0.out _)) | (go_at_call 124; with_reducible exact qe (HQ.out _)))))
              refine wpQuiet_nil ?_
              first | (intro _ hw'; obtain ⟨gx, hw''⟩ := hw'; subst hw'') | intro gx
              clear y0 y1 y2 y3 y4 y5 y6 y7 y8 y9 s0 s1 s2 s3
              go_wp2_with fail
              go_roundw
              case rel => exact ⟨by_ + 1, by omega, by omega, by go_num, fun c h1 h2 => (by
                rcases Nat.lt_or_ge c by_ with e | e
                · exact HO.out c h1 e
                · obtain rfl : c = by_ := by omega
                  rw [HS1.out, decide_eq_false (by omega)]; rfl), below2 HBB.out (ext_below wr gx)⟩
              case measure => simp [intOf]; omega
        · obtain rfl : by_ = 5 := by omega
          go_wp2_with fail
          go_ret
          refine ⟨?_, below2 HB3.out HBB.out⟩
          rw [HF.out fun c h1 h4 => HO.out c h1 (by omega)]; rfl
end Go.Proofs.Ytppmjbnhghaffaa
