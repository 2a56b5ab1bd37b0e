/- Texts put together: BaIdx. No condition. -/
import Derived.Test.YtdmobgdgeiiicaaGreatRzwlyefaotn
import Derived.Test.YtdmobgdgeiiicaaGreatRousytilbkx
import Derived.Handy
namespace Go.Proofs.YtdmobgdgeiiicaaGreat
open Go.RowKit

/-- the first place at which it holds, or -1 -/
def fnB (l : List Ba) (t : Ba → Bool) : Int := match l.findIdx? t with | some i => (i : Int) | none => -1
theorem fnB_hit {l : List Ba} {t : Ba → Bool} {k : Nat} {p : Ba} (hp : l[k]? = some p) (ht : t p = true) (hA : ∀ j q, j < k → l[j]? = some q → t q = false) : fnB l t = k := by
  have h : l.findIdx? t = some k := by
    rw [List.findIdx?_eq_some_iff_getElem]
    obtain ⟨hk, e⟩ := List.getElem?_eq_some_iff.1 hp
    refine ⟨hk, by rw [e]; exact ht, fun j hj => ?_⟩
    rw [hA j _ hj (List.getElem?_eq_getElem (by omega))]; simp
  unfold fnB; rw [h]
theorem fnB_miss {l : List Ba} {t : Ba → Bool} (hA : ∀ j q, j < l.length → l[j]? = some q → t q = false) : fnB l t = -1 := by
  have h : l.findIdx? t = none := by
    rw [List.findIdx?_eq_none_iff]
    intro x hx
    obtain ⟨j, hj, e⟩ := List.getElem_of_mem hx
    exact hA j x hj (by rw [List.getElem?_eq_getElem hj, e])
  unfold fnB; rw [h]
/-- the first place of an end's peer -/
def fdB (l : List Ba) (e : Nt) : Int := fnB l fun p => decide (p.nt = e)

set_option maxRecDepth 100000 in
set_option maxHeartbeats 4000000 in
/-- slices.IndexFunc at peers, whatever the test -/
theorem baIndexFunc (g : Nat) (lb : Array Value) (t : Ba → Bool) (v : Value) (l : List Ba) (w : World) (h : ReadsL baV 5 w v l)
    (hp : ∀ (W : World) (x : Ba), x ∈ l → Below w.heap.size w W → Calls Tryz.prog g (#[.agg #[.bool x.nt.ad.v6, .int .u64 x.nt.ad.hi, .int .u64 x.nt.ad.lo, .int .i64 x.nt.bits, .int .i64 x.till]] ++ lb) W fun e w' => e = .returned (.bool (t x)) ∧ Below w.heap.size w w') :
    (∀ args w, (callFunc g args).run Tryz.prog w = .ok (.enter g args) w) →
    Calls Tryz.prog 49 #[v, .func (.func g) #[] lb] w fun e w' => e = .returned (.int .i64 (fnB l t)) ∧ Below w.heap.size w w' := by
  intro eg
  obtain ⟨hm, p, c, rfl, h3⟩ := bas_open h
  clear h
  have HP := Lib.hid hp
  clear hp
  go_enter Tryz.func49, Tryz.ntmps49
  go_wp2_with fail
  go_loopw [5, 8] (fun _ i' wr => ∃ k : Nat, k ≤ l.length ∧ i' = .int .i64 k ∧ Hid (Below w.heap.size w wr) ∧ Hid (∀ j q, j < k → l[j]? = some q → t q = false)) (fun _ i' _ => l.length - (intOf i').toNat)
  case atStart => exact ⟨0, by omega, rfl, Below.refl _ _, fun j q hj => absurd hj (Nat.not_lt_zero _)⟩
  case round =>
    obtain ⟨k, hk, rfl, HB, HA⟩ := hrel
    by_cases hlt : k < l.length
    · obtain ⟨x, hx⟩ : ∃ x, l[k]? = some x := ⟨_, List.getElem?_eq_getElem hlt⟩
      obtain ⟨b, o, rfl, h4, h5, h6⟩ := h3 (by omega)
      have K := (h6 k x hx).below HB.out h5
      have HC := HP.out wr x (List.mem_of_getElem? hx) HB.out
      have HX := Lib.hid hx
      have q1 : (0 : Int) ≤ (k : Int) := by omega
      have q2 : (k : Int) < (l.length : Int) := by omega
      obtain ⟨k0, k1, k2, k3, k4⟩ := K
      clear hx h6 HP
      cases hq : t x with
      | true =>
        rw [hq] at HC
        have HQ := Lib.hid hq
        clear hq
        go_wp2_with (go_at_fn g; (with_reducible refine HC.mono ?_); rintro e w' ⟨rfl, hb'⟩)
        go_ret
        refine ⟨?_, hb'⟩
        rw [fnB_hit HX.out HQ.out HA.out]; rfl
      | false =>
        rw [hq] at HC
        have HQ := Lib.hid hq
        clear hq
        go_wp2_with (go_at_fn g; (with_reducible refine HC.mono ?_); rintro e w' ⟨rfl, hb'⟩)
        go_roundw
        case rel =>
          refine ⟨k + 1, by omega, by go_num, hb', fun j q hj hq => ?_⟩
          rcases Nat.lt_or_ge j k with e | e
          · exact HA.out j q e hq
          · have : j = k := by omega
            subst this
            rw [HX.out] at hq; injection hq with hq; subst hq; exact HQ.out
        case measure => simp [intOf]; omega
    · obtain rfl : k = l.length := by omega
      go_wp2_with fail
      go_ret
      exact ⟨by rw [fnB_miss HA.out]; rfl, HB.out⟩

set_option maxRecDepth 100000 in
set_option maxHeartbeats 4000000 in
theorem findB_clo (p : Ba) (en : Nt) (B : Nat) (w : World) (c0 : w.cell? ⟨B, 0, none⟩ = some (.bool en.ad.v6)) (c1 : w.cell? ⟨B, 1, none⟩ = some (.int .u64 en.ad.hi)) (c2 : w.cell? ⟨B, 2, none⟩ = some (.int .u64 en.ad.lo)) (c3 : w.cell? ⟨B, 3, none⟩ = some (.int .i64 en.bits)) (hB : B < w.heap.size) :
    Calls Tryz.prog 76 #[.agg #[.bool p.nt.ad.v6, .int .u64 p.nt.ad.hi, .int .u64 p.nt.ad.lo, .int .i64 p.nt.bits, .int .i64 p.till], .pointer (some ⟨B, 0, none⟩)] w fun e w' => e = .returned (.bool (decide (p.nt = en))) ∧ Below w.heap.size w w' := by
  have hE := eqlNt p.nt en
  have hne : B ≠ w.heap.size := by omega
  go_enter Tryz.func76, Tryz.ntmps76
  go_wp2_with fail
  go_ret
  exact ⟨rfl, by (repeat (first | with_reducible assumption | with_reducible exact Below.refl _ _ | with_reducible refine Below.setCell ?_ (by first | omega | (simp; done) | (simp; omega)) _ | with_reducible refine Below.alloc ?_ (by first | omega | (simp; done) | (simp; omega)) _ | with_reducible refine Below.drew ?_ | (with_reducible refine Below.trans ?_ (Below.mono (by with_reducible assumption) (by first | omega | (simp; done) | (simp; omega)))) | (refine Below.trans ?_ (Below.mono (by assumption) (by first | omega | (simp; done) | (simp; omega))))))⟩
set_option maxRecDepth 100000 in
set_option maxHeartbeats 4000000 in
theorem findB_any (v : Value) (l : List Ba) (en : Nt) (w : World) (h : ReadsL baV 5 w v l) :
    Calls Tryz.prog 47 #[v, .agg #[.bool en.ad.v6, .int .u64 en.ad.hi, .int .u64 en.ad.lo, .int .i64 en.bits]] w fun e w' => e = .returned (.int .i64 (fdB l en)) ∧ Below w.heap.size w w' := by
  obtain ⟨W, hW⟩ : ∃ W, W = w.alloc (.cells #[.bool en.ad.v6, .int .u64 en.ad.hi, .int .u64 en.ad.lo, .int .i64 en.bits] 36) := ⟨_, rfl⟩
  have bW : Below w.heap.size w W := by subst hW; (repeat (first | with_reducible assumption | with_reducible exact Below.refl _ _ | with_reducible refine Below.setCell ?_ (by first | omega | (simp; done) | (simp; omega)) _ | with_reducible refine Below.alloc ?_ (by first | omega | (simp; done) | (simp; omega)) _ | with_reducible refine Below.drew ?_ | (with_reducible refine Below.trans ?_ (Below.mono (by with_reducible assumption) (by first | omega | (simp; done) | (simp; omega)))) | (refine Below.trans ?_ (Below.mono (by assumption) (by first | omega | (simp; done) | (simp; omega))))))
  have sW : W.heap.size = w.heap.size + 1 := by subst hW; simp
  have c0 : W.cell? ⟨w.heap.size, 0, none⟩ = some (.bool en.ad.v6) := by subst hW; simp [go_sem]
  have c1 : W.cell? ⟨w.heap.size, 1, none⟩ = some (.int .u64 en.ad.hi) := by subst hW; simp [go_sem]
  have c2 : W.cell? ⟨w.heap.size, 2, none⟩ = some (.int .u64 en.ad.lo) := by subst hW; simp [go_sem]
  have c3 : W.cell? ⟨w.heap.size, 3, none⟩ = some (.int .i64 en.bits) := by subst hW; simp [go_sem]
  have hcon := baIndexFunc 76 #[.pointer (some ⟨w.heap.size, 0, none⟩)] (fun p => decide (p.nt = en)) v l W (ReadsL.below h bW) (fun W' x _ hb => by
    have k := fun o => hb.cell (p := ⟨w.heap.size, o, none⟩) (by show w.heap.size < _; omega)
    refine (findB_clo x en w.heap.size W' ((k 0).trans c0) ((k 1).trans c1) ((k 2).trans c2) ((k 3).trans c3) (Nat.lt_of_lt_of_le (by omega) hb.size)).mono ?_
    rintro e w' ⟨rfl, hb'⟩
    exact ⟨rfl, below2 hb hb'⟩) (enters_of Tryz.func76 (by kernel_rfl) rfl)
  have HC : Hid (Calls Tryz.prog 49 #[v, .func (.func 76) #[] #[.pointer (some ⟨w.heap.size, 0, none⟩)]] (w.alloc (.cells #[.bool en.ad.v6, .int .u64 en.ad.hi, .int .u64 en.ad.lo, .int .i64 en.bits] 36)) fun e w' => e = .returned (.int .i64 (fdB l en)) ∧ Below w.heap.size w w') := by
    show Calls _ _ _ _ _
    rw [← hW]
    refine hcon.mono ?_
    rintro e w' ⟨rfl, hb'⟩
    exact ⟨rfl, below2 bW hb'⟩
  clear hcon c0 c1 c2 c3 sW bW hW W h
  go_enter Tryz.func47, Tryz.ntmps47
  go_wp2_with (go_at_call 49; (with_reducible refine HC.out.mono ?_); rintro e w1 ⟨rfl, b1⟩)
  go_ret
  exact ⟨rfl, b1⟩
end Go.Proofs.YtdmobgdgeiiicaaGreat
