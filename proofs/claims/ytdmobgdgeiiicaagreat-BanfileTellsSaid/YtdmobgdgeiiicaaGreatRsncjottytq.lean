/- Texts put together: BfB. No condition. -/
import Derived.Test.YtdmobgdgeiiicaaGreatRxdejsxwjtj
import Derived.Test.YtdmobgdgeiiicaaGreatRwrebdeaseo
import Derived.Test.YtdmobgdgeiiicaaGreatRenrwkkjxyd
import Derived.Test.YtdmobgdgeiiicaaGreatRomgclnbxzt
namespace Go.Proofs.YtdmobgdgeiiicaaGreat
open Go.RowKit

theorem ba_box {w : World} {B : Nat} {b : Ba} {T : TypeId} (h : BlockIs w B (baV b) T) : BaIn w B 0 b := ⟨h.cell (i := 0) rfl, h.cell (i := 1) rfl, h.cell (i := 2) rfl, h.cell (i := 3) rfl, h.cell (i := 4) rfl⟩
set_option maxRecDepth 100000 in
set_option maxHeartbeats 4000000 in
theorem there_any (v : Value) (l : List Ba) (n : Nt) (w : World) (h : ReadsL baV 5 w v l) :
    Calls Tryz.prog 26 #[v, .agg #[.bool n.ad.v6, .int .u64 n.ad.hi, .int .u64 n.ad.lo, .int .i64 n.bits]] w fun e w' => e = .returned (.bool (bfHas l n)) ∧ Below w.heap.size w w' := by
  obtain ⟨hm, p, c, rfl, h3⟩ := bas_open h
  clear h
  have HBk : Hid (BlockIs (w.alloc (.cells #[.bool n.ad.v6, .int .u64 n.ad.hi, .int .u64 n.ad.lo, .int .i64 n.bits] 36)) w.heap.size [.bool n.ad.v6, .int .u64 n.ad.hi, .int .u64 n.ad.lo, .int .i64 n.bits] 36) := BlockIs.new w [.bool n.ad.v6, .int .u64 n.ad.hi, .int .u64 n.ad.lo, .int .i64 n.bits] _
  have HB0 : Hid (Below w.heap.size w (w.alloc (.cells #[.bool n.ad.v6, .int .u64 n.ad.hi, .int .u64 n.ad.lo, .int .i64 n.bits] 36))) := (Below.refl _ _).alloc (Nat.le_refl _) _
  go_enter Tryz.func26, Tryz.ntmps26
  go_wp2_with fail
  go_loopw [9] (fun i' wr => ∃ k : Nat, k ≤ l.length ∧ i' = .int .i64 k ∧ Hid (BlockIs wr w.heap.size [.bool n.ad.v6, .int .u64 n.ad.hi, .int .u64 n.ad.lo, .int .i64 n.bits] 36) ∧ Hid (Below w.heap.size w wr) ∧ Hid (∀ j q, j < k → l[j]? = some q → decide (q.nt = n) = false)) (fun i' _ => l.length - (intOf i').toNat)
  case atStart => exact ⟨0, by omega, rfl, HBk.out, HB0.out, fun j q hj => absurd hj (Nat.not_lt_zero _)⟩
  case round =>
    clear HBk HB0
    obtain ⟨k, hk, rfl, HP, HB, HA⟩ := hrel
    by_cases hlt : k < l.length
    · obtain ⟨x, hx⟩ : ∃ x, l[k]? = some x := ⟨_, List.getElem?_eq_getElem hlt⟩
      obtain ⟨b, o, rfl, h4, h5, h6⟩ := h3 (by omega)
      obtain ⟨k0, k1, k2, k3, k4⟩ := (h6 k x hx).below HB.out h5
      have n0 := HP.out.cell (i := 0) rfl; have n1 := HP.out.cell (i := 1) rfl; have n2 := HP.out.cell (i := 2) rfl; have n3 := HP.out.cell (i := 3) rfl
      have nlt := HP.out.lt
      have nne : w.heap.size ≠ wr.heap.size := by omega
      have hE := eqlNt x.nt n
      have HX := Lib.hid hx
      have q1 : (0 : Int) ≤ (k : Int) := by omega
      have q2 : (k : Int) < (l.length : Int) := by omega
      clear hx h6 h3
      cases hq : decide (x.nt = n) with
      | true =>
        rw [hq] at hE
        have HQ := Lib.hid hq
        clear hq
        go_wp2_with fail
        go_ret
        refine ⟨?_, HB.out.trans (Below.mono (by (repeat (first | with_reducible assumption | with_reducible exact Below.refl _ _ | with_reducible refine Below.setCell ?_ (by first | omega | (simp; done) | (simp; omega)) _ | with_reducible refine Below.alloc ?_ (by first | omega | (simp; done) | (simp; omega)) _ | with_reducible refine Below.drew ?_ | (with_reducible refine Below.trans ?_ (Below.mono (by with_reducible assumption) (by first | omega | (simp; done) | (simp; omega)))) | (refine Below.trans ?_ (Below.mono (by assumption) (by first | omega | (simp; done) | (simp; omega))))))) HB.out.size)⟩
        rw [bfHas_hit HX.out (of_decide_eq_true HQ.out)]; rfl
      | false =>
        rw [hq] at hE
        have HQ := Lib.hid hq
        clear hq
        go_wp2_with fail
        go_roundw
        case rel =>
          refine ⟨k + 1, by omega, by go_num, HP.out.alloc' _, HB.out.alloc HB.out.size _, fun j q hj hq => ?_⟩
          rcases Nat.lt_or_ge j k with e | e
          · exact HA.out j q e hq
          · have : j = k := by omega
            subst this
            rw [HX.out] at hq; injection hq with hq; subst hq; exact HQ.out
        case measure => simp [intOf]; omega
    · obtain rfl : k = l.length := by omega
      go_wp2_with fail
      go_ret
      exact ⟨by rw [bfHas_miss HA.out]; rfl, HB.out⟩
set_option maxRecDepth 100000 in
set_option maxHeartbeats 4000000 in
theorem addB_clo (x b : Ba) (B : Nat) (w : World) (hB : BlockIs w B (baV b) 38) :
    Calls Tryz.prog 50 #[.agg #[.bool x.nt.ad.v6, .int .u64 x.nt.ad.hi, .int .u64 x.nt.ad.lo, .int .i64 x.nt.bits, .int .i64 x.till], .pointer (some ⟨B, 0, none⟩)] w fun e w' => e = .returned (.bool (decide (0 < ntCmp x.nt b.nt))) ∧ Below w.heap.size w w' := by
  obtain ⟨c0, c1, c2, c3, c4⟩ := ba_box hB
  simp only [Nat.zero_add] at c0 c1 c2 c3 c4
  have hlt := hB.lt
  have hne : B ≠ w.heap.size := by omega
  have HC := Lib.hid (fun W => ntCmp_any x.nt b.nt W)
  generalize ntCmp x.nt b.nt = z at *
  go_enter Tryz.func50, Tryz.ntmps50
  go_wp2_with (go_at_call 51; (with_reducible refine (HC.out _).mono ?_); rintro e w1 ⟨rfl, b1⟩)
  go_ret
  exact ⟨rfl, by (repeat (first | with_reducible assumption | with_reducible exact Below.refl _ _ | with_reducible refine Below.setCell ?_ (by first | omega | (simp; done) | (simp; omega)) _ | with_reducible refine Below.alloc ?_ (by first | omega | (simp; done) | (simp; omega)) _ | with_reducible refine Below.drew ?_ | (with_reducible refine Below.trans ?_ (Below.mono (by with_reducible assumption) (by first | omega | (simp; done) | (simp; omega)))) | (refine Below.trans ?_ (Below.mono (by assumption) (by first | omega | (simp; done) | (simp; omega))))))⟩
theorem bfPut_ins (b : Ba) (l : List Ba) : (fnB l (fun x => decide (0 < ntCmp x.nt b.nt)) = -1 ∧ bfPut b l = insB l l.length b) ∨ ∃ k, k < l.length ∧ fnB l (fun x => decide (0 < ntCmp x.nt b.nt)) = (k : Int) ∧ bfPut b l = insB l k b := by
  induction l with
  | nil => exact Or.inl ⟨rfl, rfl⟩
  | cons x l ih =>
    unfold fnB at ih ⊢
    rw [List.findIdx?_cons, bfPut]
    by_cases h : 0 < ntCmp x.nt b.nt
    · right
      rw [if_pos h, if_pos (by simpa using h)]
      exact ⟨0, by simp, rfl, rfl⟩
    · rw [if_neg h, if_neg (by simpa using h)]
      cases hf : l.findIdx? fun x => decide (0 < ntCmp x.nt b.nt) with
      | none =>
        rw [hf] at ih
        rcases ih with ⟨_, e⟩ | ⟨k, _, e, _⟩
        · left
          refine ⟨rfl, ?_⟩
          rw [e]; rfl
        · simp only at e; omega
      | some k =>
        rw [hf] at ih
        rcases ih with ⟨e, _⟩ | ⟨j, hj, e, e2⟩
        · simp only at e; omega
        · right
          have : k = j := by simp only at e; omega
          subst this
          refine ⟨k + 1, by simp; omega, by simp, ?_⟩
          rw [e2]; rfl
theorem insB_len (l : List Ba) (i : Nat) (b : Ba) (h : i ≤ l.length) : (insB l i b).length = l.length + 1 := by unfold insB; simp; omega
theorem fdB_no {l : List Ba} {n : Nt} (h : bfHas l n = false) : fdB l n = -1 := by
  refine fnB_miss fun j q _ hq => ?_
  unfold bfHas at h
  rw [List.any_eq_false] at h
  simpa using h q (List.mem_of_getElem? hq)
def bfAdd (l : List Ba) (b : Ba) (most : Int) : List Ba × Int := if most ≤ l.length then ([], 5) else (bfPut b l, 0)
theorem baNone (w : World) (v : Value) (h : v = .slice none 0 0) : ReadsL baV 5 w v [] := by subst h; exact ReadsL.nil _ _ _ _ _
set_option maxRecDepth 100000 in
set_option maxHeartbeats 8000000 in
theorem addB_any (v : Value) (l : List Ba) (b : Ba) (most : Int) (hf : b.nt.ad.fits) (w : World) (h : ReadsL baV 5 w v l) (hl : l.length ≤ 100000) (hr : baRight b = true) (hno : bfHas l b.nt = false) :
    Calls Tryz.prog 27 #[v, .agg #[.bool b.nt.ad.v6, .int .u64 b.nt.ad.hi, .int .u64 b.nt.ad.lo, .int .i64 b.nt.bits, .int .i64 b.till], .int .i64 most] w fun e w' => ∃ r, e = .returned (.tuple #[r, .int .i64 (bfAdd l b most).2]) ∧ ReadsL baV 5 w' r (bfAdd l b most).1 ∧ Below w.heap.size w w' := by
  have HRt := Lib.hid (fun W => baRight_any b hf W)
  rw [hr] at HRt
  have HFd := Lib.hid (fun (W : World) (hb : Below w.heap.size w W) => findB_any v l b.nt W (ReadsL.below h hb))
  rw [fdB_no hno] at HFd
  have HCl := Lib.hid (fun (W : World) (hb : Below w.heap.size w W) => cloneBa v l W (ReadsL.below h hb) (by omega))
  have B0 : Below w.heap.size w (w.alloc (.cells #[.bool b.nt.ad.v6, .int .u64 b.nt.ad.hi, .int .u64 b.nt.ad.lo, .int .i64 b.nt.bits, .int .i64 b.till] 38)) := by (repeat (first | with_reducible assumption | with_reducible exact Below.refl _ _ | with_reducible refine Below.setCell ?_ (by first | omega | (simp; done) | (simp; omega)) _ | with_reducible refine Below.alloc ?_ (by first | omega | (simp; done) | (simp; omega)) _ | with_reducible refine Below.drew ?_ | (with_reducible refine Below.trans ?_ (Below.mono (by with_reducible assumption) (by first | omega | (simp; done) | (simp; omega)))) | (refine Below.trans ?_ (Below.mono (by assumption) (by first | omega | (simp; done) | (simp; omega))))))
  have hBk : BlockIs (w.alloc (.cells #[.bool b.nt.ad.v6, .int .u64 b.nt.ad.hi, .int .u64 b.nt.ad.lo, .int .i64 b.nt.bits, .int .i64 b.till] 38)) w.heap.size (baV b) 38 := BlockIs.new w (baV b) _
  have HIx := Lib.hid (fun (W : World) (hb : Below w.heap.size w W) (hk : BlockIs W w.heap.size (baV b) 38) => baIndexFunc 50 #[.pointer (some ⟨w.heap.size, 0, none⟩)] (fun x => decide (0 < ntCmp x.nt b.nt)) v l W (ReadsL.below h hb) (fun W' x _ hb' => (addB_clo x b w.heap.size W' (hk.below hb')).mono fun e w' ⟨h1, h2⟩ => ⟨h1, below2 hb' h2⟩) (enters_of Tryz.func50 (by kernel_rfl) rfl))
  have hcase := bfPut_ins b l
  obtain ⟨hm, p, c, rfl, _⟩ := bas_open h
  have HB0 := Lib.hid B0; have HBk := Lib.hid hBk
  clear B0 h hBk hno hr
  by_cases hmo : most ≤ (l.length : Int)
  · have hd : bfAdd l b most = ([], 5) := if_pos hmo
    rw [hd]
    clear hd HIx hcase
    go_enter Tryz.func27, Tryz.ntmps27
    go_wp2_with (first
      | (go_at_call 16; (with_reducible refine (HRt.out _).mono ?_); rintro e w1 ⟨rfl, b1⟩; obtain ⟨x0, x1, x2, x3, x4⟩ := ba_box (HBk.out.below b1); simp only [Nat.zero_add] at x0 x1 x2 x3 x4; have b2 := below2 HB0.out b1; have k1 := HBk.out.below b1)
      | (go_at_call 46; (with_reducible refine (HCl.out _ b2).mono ?_); rintro e w3 ⟨r3, rfl, own3, b3, _⟩; have b4 := below2 b2 b3; have k3 := k1.below b3; obtain ⟨y0, y1, y2, y3, y4⟩ := ba_box k3; simp only [Nat.zero_add] at y0 y1 y2 y3 y4)
      | (go_at_call 47; (with_reducible refine (HFd.out _ b4).mono ?_); rintro e w5 ⟨rfl, b5⟩; have b6 := below2 b4 b5; have k5 := k3.below b5; have own5 := owns_below own3 b5))
    go_ret2
    exact ⟨_, rfl, baNone _ _ rfl, b6⟩
  · have hd : bfAdd l b most = (bfPut b l, 0) := if_neg hmo
    rw [hd]
    clear hd
    have hmd : (l.length : Int) < most := by omega
    rcases hcase with ⟨hz, he⟩ | ⟨k, hk, hz, he⟩
    · rw [hz] at HIx
      have HE := Lib.hid he
      clear hz he
      go_enter Tryz.func27, Tryz.ntmps27
      go_wp2_with (first
        | (go_at_call 16; (with_reducible refine (HRt.out _).mono ?_); rintro e w1 ⟨rfl, b1⟩; obtain ⟨x0, x1, x2, x3, x4⟩ := ba_box (HBk.out.below b1); simp only [Nat.zero_add] at x0 x1 x2 x3 x4; have b2 := below2 HB0.out b1; have k1 := HBk.out.below b1)
        | (go_at_call 46; (with_reducible refine (HCl.out _ b2).mono ?_); rintro e w3 ⟨r3, rfl, own3, b3, _⟩; have b4 := below2 b2 b3; have k3 := k1.below b3; obtain ⟨y0, y1, y2, y3, y4⟩ := ba_box k3; simp only [Nat.zero_add] at y0 y1 y2 y3 y4)
        | (go_at_call 47; (with_reducible refine (HFd.out _ b4).mono ?_); rintro e w5 ⟨rfl, b5⟩; have b6 := below2 b4 b5; have k5 := k3.below b5; have own5 := owns_below own3 b5)
        | (go_at_call 49; (with_reducible refine (HIx.out _ b6 k5).mono ?_); rintro e w7 ⟨rfl, b7⟩; have b8 := below2 b6 b7; have k7 := k5.below b7; have own7 := owns_below own5 b7; obtain ⟨z0, z1, z2, z3, z4⟩ := ba_box k7; simp only [Nat.zero_add] at z0 z1 z2 z3 z4)
        | (go_at_call 52; refine (insBa l l.length (Nat.le_refl _) (by omega) b _ w.heap.size w7.heap.size 38 _ (owns_base (owns_below own7 (w' := w7.alloc (.cells #[.bool b.nt.ad.v6, .int .u64 b.nt.ad.hi, .int .u64 b.nt.ad.lo, .int .i64 b.nt.bits, .int .i64 b.till] 38)) (by (repeat (first | with_reducible assumption | with_reducible exact Below.refl _ _ | with_reducible refine Below.setCell ?_ (by first | omega | (simp; done) | (simp; omega)) _ | with_reducible refine Below.alloc ?_ (by first | omega | (simp; done) | (simp; omega)) _ | with_reducible refine Below.drew ?_ | (with_reducible refine Below.trans ?_ (Below.mono (by with_reducible assumption) (by first | omega | (simp; done) | (simp; omega)))) | (refine Below.trans ?_ (Below.mono (by assumption) (by first | omega | (simp; done) | (simp; omega)))))))) b2.size) (BlockIs.new w7 (baV b) _) (Nat.le_trans b8.size (by simp)) (fun g cc hv => ?_)).mono ?_; rotate_left; rintro e w9 ⟨r9, rfl, own9, b9⟩))
      · go_ret2
        refine ⟨_, rfl, ?_, (b8.alloc b8.size _).trans b9⟩
        rw [HE.out]
        exact owns_readsL (by rw [insB_len _ _ _ (Nat.le_refl _)]; exact own9)
      · obtain ⟨_, e⟩ := own7.lt g (by rw [hv]; rfl)
        omega
    · rw [hz] at HIx
      have HE := Lib.hid he
      have q1 : ¬ ((k : Int) < 0) := by omega
      clear hz he
      go_enter Tryz.func27, Tryz.ntmps27
      go_wp2_with (first
        | (go_at_call 16; (with_reducible refine (HRt.out _).mono ?_); rintro e w1 ⟨rfl, b1⟩; obtain ⟨x0, x1, x2, x3, x4⟩ := ba_box (HBk.out.below b1); simp only [Nat.zero_add] at x0 x1 x2 x3 x4; have b2 := below2 HB0.out b1; have k1 := HBk.out.below b1)
        | (go_at_call 46; (with_reducible refine (HCl.out _ b2).mono ?_); rintro e w3 ⟨r3, rfl, own3, b3, _⟩; have b4 := below2 b2 b3; have k3 := k1.below b3; obtain ⟨y0, y1, y2, y3, y4⟩ := ba_box k3; simp only [Nat.zero_add] at y0 y1 y2 y3 y4)
        | (go_at_call 47; (with_reducible refine (HFd.out _ b4).mono ?_); rintro e w5 ⟨rfl, b5⟩; have b6 := below2 b4 b5; have k5 := k3.below b5; have own5 := owns_below own3 b5)
        | (go_at_call 49; (with_reducible refine (HIx.out _ b6 k5).mono ?_); rintro e w7 ⟨rfl, b7⟩; have b8 := below2 b6 b7; have k7 := k5.below b7; have own7 := owns_below own5 b7; obtain ⟨z0, z1, z2, z3, z4⟩ := ba_box k7; simp only [Nat.zero_add] at z0 z1 z2 z3 z4)
        | (go_at_call 52; refine (insBa l k (by omega) (by omega) b _ w.heap.size w7.heap.size 38 _ (owns_base (owns_below own7 (w' := w7.alloc (.cells #[.bool b.nt.ad.v6, .int .u64 b.nt.ad.hi, .int .u64 b.nt.ad.lo, .int .i64 b.nt.bits, .int .i64 b.till] 38)) (by (repeat (first | with_reducible assumption | with_reducible exact Below.refl _ _ | with_reducible refine Below.setCell ?_ (by first | omega | (simp; done) | (simp; omega)) _ | with_reducible refine Below.alloc ?_ (by first | omega | (simp; done) | (simp; omega)) _ | with_reducible refine Below.drew ?_ | (with_reducible refine Below.trans ?_ (Below.mono (by with_reducible assumption) (by first | omega | (simp; done) | (simp; omega)))) | (refine Below.trans ?_ (Below.mono (by assumption) (by first | omega | (simp; done) | (simp; omega)))))))) b2.size) (BlockIs.new w7 (baV b) _) (Nat.le_trans b8.size (by simp)) (fun g cc hv => ?_)).mono ?_; rotate_left; rintro e w9 ⟨r9, rfl, own9, b9⟩))
      · go_ret2
        refine ⟨_, rfl, ?_, (b8.alloc b8.size _).trans b9⟩
        rw [HE.out]
        exact owns_readsL (by rw [insB_len _ _ _ (by omega)]; exact own9)
      · obtain ⟨_, e⟩ := own7.lt g (by rw [hv]; rfl)
        omega
end Go.Proofs.YtdmobgdgeiiicaaGreat
