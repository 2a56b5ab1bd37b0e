/- Texts put together: LawConfB. No condition. -/
import Derived.Test.YtnohkfbapibmdaaRaslhyarjdw
namespace Go.Proofs.Ytnohkfbapibmdaa
open Go.RowKit

section
variable {P : Program} {ops : Array Oper} {rest : List Oper} {o : Oper} {a : Act} {w : World} {Q : Exit → Act → World → Prop}
/-- an operation of two values whose answer is known -/
theorem list_bin_w (hw : Region.wanted o (yielded ops a.tmps) = true) (b : BinOp) (ty ry : TypeId) (x y : Operand) (ho : o.op = .binOp b ty x y ry) (u v r : Value) (hx : a.eval x = u) (hy : a.eval y = v) (hg : (eqGuard b ty x y u v).run P w = .ok () w) (hv : (binOp b ty u v).run P w = .ok r w) (h : wpList P ops Q rest (a.put o.dst r) w) : wpList P ops Q (o :: rest) a w :=
  wpList_step fun K hK => by
    rw [if_pos hw]
    unfold Oper.wp execOp
    simp only [ho, hx, hy, Sem.run_bind, Sem.run_pure, Result.andThen_ok, hg, hv]
    exact hK _ _ h
/-- an operation that is not wanted -/
theorem list_skip (hw : Region.wanted o (yielded ops a.tmps) = false) (h : wpList P ops Q rest (a.put o.dst undef) w) : wpList P ops Q (o :: rest) a w :=
  wpList_step fun K hK => by rw [if_neg (by rw [hw]; decide)]; exact hK _ _ h
/-- a whole struct out of a block: its value by a name -/
theorem list_load_V (hw : Region.wanted o (yielded ops a.tmps) = true) (ty : TypeId) (x : Operand) (ho : o.op = .load ty x) (g : Nat) (cells : List Value) (t : TypeId) (hB : BlockIs w g cells t)
    (hx : a.eval x = .pointer (some ⟨g, 0, none⟩)) {fs : Array Field} (hu : P.underlying ty = some (.struct fs)) (hi : (P.info? ty).map (·.size) = some cells.length) (V : Value) (hV : Hid (V = .agg cells.toArray))
    (h : wpList P ops Q rest (a.put o.dst V) w) : wpList P ops Q (o :: rest) a w := by
  refine list_load_blk_w hw ty x ho g cells t hB hx hu hi ?_
  rw [← hV.out]; exact h
/-- a whole struct into a block -/
theorem list_store_V (hgd : o.guard = none) (ty : TypeId) (x y : Operand) (ho : o.op = .store ty x y) (g : Nat) (old cells : List Value) (t : TypeId) (hB : BlockIs w g old t)
    (hx : a.eval x = .pointer (some ⟨g, 0, none⟩)) (V : Value) (hV : Hid (V = .agg cells.toArray)) (hy : a.eval y = V) (hi : (P.info? ty).map (·.size) = some cells.length) (hl : old.length = cells.length) (h1 : cells.all (·.oneCell') = true)
    (B : Nat) (w0 : World) (hbel : Below B w0 w) (hBg : B ≤ g)
    (h : ∀ w', BlockIs w' g cells t → (∀ k arr u, k ≠ g → BlockIs w k arr u → BlockIs w' k arr u) → w'.heap.size = w.heap.size → Below B w0 w' → wpList P ops Q rest (a.put o.dst undef) w') : wpList P ops Q (o :: rest) a w :=
  list_store_blk hgd ty x y ho g old cells t hB hx (hy.trans hV.out) hi hl h1 B w0 hbel hBg h
end
theorem guard_V {P : Program} {W : World} (b : BinOp) (T : TypeId) (x y : Operand) {U V : Value} {l m : List Value} (hU : Hid (U = .agg l.toArray)) (hV : Hid (V = .agg m.toArray)) (hm : P.eqGuardType P.depth T = false) : (eqGuard b T x y U V).run P W = .ok () W := by
  rw [hU.out, hV.out]; exact run_eqGuard_agg W b T x y _ _ hm
theorem cfText_len (c : Cf) : (bs (cfText c)).size ≤ 4000000000 := by
  rw [show (bs (cfText c)).size = (cfText c).length by simp [bs, ByteArray.size]]
  unfold cfText
  by_cases h : cfRight c = true
  · rw [if_pos h]
    have hl := cfLines_ok h
    rw [fed_join _ (by simp [cfLines, cfWords, cfNums])]
    have := joinL_len 10 (cfLines c) 16 40 (fun x hx => (hl x hx).2) (by simp [cfLines, cfWords, cfNums])
    simp; omega
  · rw [if_neg h]; simp
set_option maxRecDepth 100000 in
set_option maxHeartbeats 16000000 in
theorem confBack_any (c : Cf) (s : ByteArray) (w : World) : Calls Try.prog 10 #[.agg #[.int .i64 c.mi, .int .i64 c.mo, .int .i64 c.sh, .int .i64 c.mb, .int .i64 c.mbk, .int .u64 c.secret, .int .i64 c.qg, .int .i64 c.qp, .int .i64 c.qw, .int .i64 c.qt, .int .i64 c.half, .int .i64 c.limit, .int .i64 c.banfor, .int .i64 c.base, .int .i64 c.cap, .int .i64 c.jitter], .string s] w fun e w' => e = .returned (.bool true) ∧ Below w.heap.size w w' := by
  have HA := Lib.hid (fun w => awake29_any w)
  have h3 := fun w => cfRight_any c w
  have h5 := fun w => cfText_any c w
  have h9 := fun w => cfParse_any (bs (cfText c)) w (cfText_len c)
  rw [bs_list] at h9
  cases hr : cfRight c with
  | true =>
    rw [cfParse_text _ hr] at h9
    rw [hr] at h3
    unfold GivesCf at h9
    simp only at h9
    have q := fun W => neqCf_self c W
    generalize cfText c = tx at *
    go_enter Try.func10, Try.ntmps10
    go_upto_region 1 with fail
    go_name_world WW0 hWW0
    have hA : BlockIs WW0 w.heap.size [.int .i64 c.mi, .int .i64 c.mo, .int .i64 c.sh, .int .i64 c.mb, .int .i64 c.mbk, .int .u64 c.secret, .int .i64 c.qg, .int .i64 c.qp, .int .i64 c.qw, .int .i64 c.qt, .int .i64 c.half, .int .i64 c.limit, .int .i64 c.banfor, .int .i64 c.base, .int .i64 c.cap, .int .i64 c.jitter] 70 := by subst hWW0; exact BlockIs.new w [.int .i64 c.mi, .int .i64 c.mo, .int .i64 c.sh, .int .i64 c.mb, .int .i64 c.mbk, .int .u64 c.secret, .int .i64 c.qg, .int .i64 c.qp, .int .i64 c.qw, .int .i64 c.qt, .int .i64 c.half, .int .i64 c.limit, .int .i64 c.banfor, .int .i64 c.base, .int .i64 c.cap, .int .i64 c.jitter] _
    have x0 : Below w.heap.size w WW0 := by subst hWW0; (repeat (first | with_reducible assumption | with_reducible exact Below.refl _ _ | with_reducible refine Below.setCell ?_ (by first | omega | (simp; done) | (simp; omega)) _ | with_reducible refine Below.alloc ?_ (by first | omega | (simp; done) | (simp; omega)) _ | with_reducible refine Below.drew ?_ | (with_reducible refine Below.trans ?_ (Below.mono (by with_reducible assumption) (by first | omega | (simp; done) | (simp; omega)))) | (refine Below.trans ?_ (Below.mono (by assumption) (by first | omega | (simp; done) | (simp; omega))))))
    clear hWW0
    obtain ⟨V, hV'⟩ : ∃ V, V = Value.agg #[.int .i64 c.mi, .int .i64 c.mo, .int .i64 c.sh, .int .i64 c.mb, .int .i64 c.mbk, .int .u64 c.secret, .int .i64 c.qg, .int .i64 c.qp, .int .i64 c.qw, .int .i64 c.qt, .int .i64 c.half, .int .i64 c.limit, .int .i64 c.banfor, .int .i64 c.base, .int .i64 c.cap, .int .i64 c.jitter] := ⟨_, rfl⟩
    rw [← hV'] at h3 h5 h9 q
    rw [← hV']
    have hV : Hid (V = .agg [.int .i64 c.mi, .int .i64 c.mo, .int .i64 c.sh, .int .i64 c.mb, .int .i64 c.mbk, .int .u64 c.secret, .int .i64 c.qg, .int .i64 c.qp, .int .i64 c.qw, .int .i64 c.qt, .int .i64 c.half, .int .i64 c.limit, .int .i64 c.banfor, .int .i64 c.base, .int .i64 c.cap, .int .i64 c.jitter].toArray) := hV'
    clear hV'
    have g := fun W b x y => guard_V (P := Try.prog) (W := W) b 70 x y hV hV (by kernel_rfl)
    have H3 := Lib.hid h3; have H5 := Lib.hid h5; have H9 := Lib.hid h9; have Q := Lib.hid q; have G := Lib.hid g
    clear h3 h5 h9 hr q g
    go_upto_region 2 with (first | (refine list_load_V (by rfl) _ _ rfl _ _ _ hA rfl Try.underlying70 (by kernel_rfl) V hV ?_) | (go_at_call 53; (with_reducible refine (H5.out WW0).mono ?_); rintro e wa ⟨rfl, bwa⟩; have hA1 := hA.below bwa; have xwa := x0.trans (bwa.mono x0.size); clear bwa) | (go_at_call 47; (with_reducible refine (H9.out wa).mono ?_); rintro e wb ⟨rfl, bwb⟩; have hA2 := hA1.below bwb; have zA2 := hA2.lt; have xwb := xwa.trans (bwb.mono xwa.size); clear bwb) | (refine list_store_V rfl 70 _ _ rfl (wb.heap.size) _ _ 70 (BlockIs.newAt' _ _ _ (by simp)) rfl V hV rfl (by kernel_rfl) rfl (by simp [Value.oneCell']) w.heap.size w (by (repeat (first | with_reducible assumption | with_reducible exact Below.refl _ _ | with_reducible refine Below.setCell ?_ (by first | omega | (simp; done) | (simp; omega)) _ | with_reducible refine Below.alloc ?_ (by first | omega | (simp; done) | (simp; omega)) _ | with_reducible refine Below.drew ?_ | (with_reducible refine Below.trans ?_ (Below.mono (by with_reducible assumption) (by first | omega | (simp; done) | (simp; omega)))) | (refine Below.trans ?_ (Below.mono (by assumption) (by first | omega | (simp; done) | (simp; omega))))))) (by have := xwb.size; omega) ?_; intro WW1 hOWW1 hoth hsz xWW1; have hA3 := hoth w.heap.size _ _ (by omega) (hA2.alloc' _); clear hoth hsz))
    go_upto_region 4 with (first | (refine list_load_V (by rfl) _ _ rfl _ _ _ hA3 rfl Try.underlying70 (by kernel_rfl) V hV ?_) | (refine list_load_V (by rfl) _ _ rfl _ _ _ hA4 rfl Try.underlying70 (by kernel_rfl) V hV ?_) | (refine list_load_V (by rfl) _ _ rfl _ _ _ hO4 rfl Try.underlying70 (by kernel_rfl) V hV ?_) | (go_at_call 49; (with_reducible refine (H3.out WW1).mono ?_); rintro e wc ⟨rfl, bwc⟩; have hA4 := hA3.below bwc; have hO4 := hOWW1.below bwc; have xwc := xWW1.trans (bwc.mono xWW1.size); clear bwc) | (refine list_bin_w (by rfl) .neq _ _ _ _ rfl _ _ (.bool false) rfl rfl (G.out _ _ _ _) (Q.out _) ?_) | (go_at_call 49; (with_reducible refine (H3.out wc).mono ?_); rintro e wd ⟨rfl, bwd⟩; have xwd := xwc.trans (bwd.mono xwc.size); clear bwd))
    go_name_world WWr hWWr
    have xr : Below w.heap.size w WWr := by subst hWWr; exact xwd
    clear hWWr
    rcases Int.lt_or_le 4000 (s.size : Int) with hl | hl
    · go_wp2_with (first | (go_at_call 46; (with_reducible refine (HA.out WWr).mono ?_); rintro e wz ⟨rfl, bwz⟩; have xwz := xr.trans (bwz.mono xr.size); clear bwz))
      go_ret
      exact ⟨rfl, xwz⟩
    · have h7 := fun w => cfParse_any s w (by omega)
      have k1 := @cfParse_ok s.data.toList
      have k2 := @cfParse_no s.data.toList
      generalize cfParse s.data.toList = rr at *
      obtain ⟨r, ra, rb⟩ := rr
      unfold GivesCf at h7
      simp only at h7 k1 k2
      by_cases hc : rb = 0
      · subst hc
        obtain ⟨k3, k4⟩ := k1 rfl
        have i3 := fun w => cfRight_any r w
        have i5 := fun w => cfText_any r w
        rw [k3] at i3
        rw [k4, show bs s.data.toList = s from rfl] at i5
        obtain ⟨U, hU'⟩ : ∃ V, V = Value.agg #[.int .i64 r.mi, .int .i64 r.mo, .int .i64 r.sh, .int .i64 r.mb, .int .i64 r.mbk, .int .u64 r.secret, .int .i64 r.qg, .int .i64 r.qp, .int .i64 r.qw, .int .i64 r.qt, .int .i64 r.half, .int .i64 r.limit, .int .i64 r.banfor, .int .i64 r.base, .int .i64 r.cap, .int .i64 r.jitter] := ⟨_, rfl⟩
        rw [← hU'] at h7 i3 i5
        have hU : Hid (U = .agg [.int .i64 r.mi, .int .i64 r.mo, .int .i64 r.sh, .int .i64 r.mb, .int .i64 r.mbk, .int .u64 r.secret, .int .i64 r.qg, .int .i64 r.qp, .int .i64 r.qw, .int .i64 r.qt, .int .i64 r.half, .int .i64 r.limit, .int .i64 r.banfor, .int .i64 r.base, .int .i64 r.cap, .int .i64 r.jitter].toArray) := hU'
        clear hU'
        have H7 := Lib.hid h7; have I3 := Lib.hid i3; have I5 := Lib.hid i5
        have e3 : (s.toList == s.toList) = true := by simp
        clear h7 i3 i5 k1 k2 k3 k4
        go_wp2_with (first | (refine list_load_V (by rfl) _ _ rfl _ _ _ hOWW2 rfl Try.underlying70 (by kernel_rfl) U hU ?_) | (refine list_load_V (by rfl) _ _ rfl _ _ _ hO5 rfl Try.underlying70 (by kernel_rfl) U hU ?_) | (go_at_call 47; (with_reducible refine (H7.out WWr).mono ?_); rintro e wf ⟨rfl, bwf⟩; have xwf := xr.trans (bwf.mono xr.size); clear bwf; have zwf := xwf.size) | (refine list_store_V rfl 70 _ _ rfl (wf.heap.size) _ _ 70 (BlockIs.newAt' _ _ _ (by simp)) rfl U hU rfl (by kernel_rfl) rfl (by simp [Value.oneCell']) w.heap.size w (by (repeat (first | with_reducible assumption | with_reducible exact Below.refl _ _ | with_reducible refine Below.setCell ?_ (by first | omega | (simp; done) | (simp; omega)) _ | with_reducible refine Below.alloc ?_ (by first | omega | (simp; done) | (simp; omega)) _ | with_reducible refine Below.drew ?_ | (with_reducible refine Below.trans ?_ (Below.mono (by with_reducible assumption) (by first | omega | (simp; done) | (simp; omega)))) | (refine Below.trans ?_ (Below.mono (by assumption) (by first | omega | (simp; done) | (simp; omega))))))) (by have := xwf.size; omega) ?_; intro WW2 hOWW2 hoth hsz xWW2; clear hoth hsz) | (go_at_call 49; (with_reducible refine (I3.out WW2).mono ?_); rintro e wg ⟨rfl, bwg⟩; have hO5 := hOWW2.below bwg; have xwg := xWW2.trans (bwg.mono xWW2.size); clear bwg) | (go_at_call 53; (with_reducible refine (I5.out wg).mono ?_); rintro e wh ⟨rfl, bwh⟩; have xwh := xwg.trans (bwh.mono xwg.size); clear bwh) | (go_at_call 46; (with_reducible refine (HA.out wh).mono ?_); rintro e wz ⟨rfl, bwz⟩; have xwz := xwh.trans (bwz.mono xwh.size); clear bwz))
        go_ret
        exact ⟨rfl, xwz⟩
      · have k5 := k2 hc
        subst k5
        have q3 := fun W => eqlCf_self zeroCf W
        unfold zeroCf at h7 q3
        simp only [show ((0 : Nat) : Int) = 0 from rfl] at h7 q3
        obtain ⟨U, hU'⟩ : ∃ V, V = Value.agg #[.int .i64 0, .int .i64 0, .int .i64 0, .int .i64 0, .int .i64 0, .int .u64 0, .int .i64 0, .int .i64 0, .int .i64 0, .int .i64 0, .int .i64 0, .int .i64 0, .int .i64 0, .int .i64 0, .int .i64 0, .int .i64 0] := ⟨_, rfl⟩
        have q4 : ∀ W, (binOp .eql 70 U (Value.agg #[.int .i64 0, .int .i64 0, .int .i64 0, .int .i64 0, .int .i64 0, .int .u64 0, .int .i64 0, .int .i64 0, .int .i64 0, .int .i64 0, .int .i64 0, .int .i64 0, .int .i64 0, .int .i64 0, .int .i64 0, .int .i64 0])).run Try.prog W = .ok (.bool true) W := by intro W; rw [hU']; exact q3 W
        rw [← hU'] at h7
        have hU : Hid (U = .agg [.int .i64 0, .int .i64 0, .int .i64 0, .int .i64 0, .int .i64 0, .int .u64 0, .int .i64 0, .int .i64 0, .int .i64 0, .int .i64 0, .int .i64 0, .int .i64 0, .int .i64 0, .int .i64 0, .int .i64 0, .int .i64 0].toArray) := hU'
        have g4 := fun W b x y => guard_V (P := Try.prog) (W := W) b 70 x y hU (show Hid (Value.agg #[.int .i64 0, .int .i64 0, .int .i64 0, .int .i64 0, .int .i64 0, .int .u64 0, .int .i64 0, .int .i64 0, .int .i64 0, .int .i64 0, .int .i64 0, .int .i64 0, .int .i64 0, .int .i64 0, .int .i64 0, .int .i64 0] = .agg [.int .i64 0, .int .i64 0, .int .i64 0, .int .i64 0, .int .i64 0, .int .u64 0, .int .i64 0, .int .i64 0, .int .i64 0, .int .i64 0, .int .i64 0, .int .i64 0, .int .i64 0, .int .i64 0, .int .i64 0, .int .i64 0].toArray) from rfl) (by kernel_rfl)
        have H7 := Lib.hid h7; have Q4 := Lib.hid q4; have G4 := Lib.hid g4
        have d1 : decide (rb = 0) = false := decide_eq_false hc
        clear h7 k1 k2 q3 q4 g4 hU'
        go_wp2_with (first | (refine list_load_V (by rfl) _ _ rfl _ _ _ hOWW2 rfl Try.underlying70 (by kernel_rfl) U hU ?_) | (refine list_bin_w (by rfl) .eql _ _ _ _ rfl _ _ (.bool true) rfl rfl (G4.out _ _ _ _) (Q4.out _) ?_) | (go_at_call 47; (with_reducible refine (H7.out WWr).mono ?_); rintro e wf ⟨rfl, bwf⟩; have xwf := xr.trans (bwf.mono xr.size); clear bwf; have zwf := xwf.size) | (refine list_store_V rfl 70 _ _ rfl (wf.heap.size) _ _ 70 (BlockIs.newAt' _ _ _ (by simp)) rfl U hU rfl (by kernel_rfl) rfl (by simp [Value.oneCell']) w.heap.size w (by (repeat (first | with_reducible assumption | with_reducible exact Below.refl _ _ | with_reducible refine Below.setCell ?_ (by first | omega | (simp; done) | (simp; omega)) _ | with_reducible refine Below.alloc ?_ (by first | omega | (simp; done) | (simp; omega)) _ | with_reducible refine Below.drew ?_ | (with_reducible refine Below.trans ?_ (Below.mono (by with_reducible assumption) (by first | omega | (simp; done) | (simp; omega)))) | (refine Below.trans ?_ (Below.mono (by assumption) (by first | omega | (simp; done) | (simp; omega))))))) (by have := xwf.size; omega) ?_; intro WW2 hOWW2 hoth hsz xWW2; clear hoth hsz) | (go_at_call 46; (with_reducible refine (HA.out WW2).mono ?_); rintro e wz ⟨rfl, bwz⟩; have xwz := xWW2.trans (bwz.mono xWW2.size); clear bwz))
        go_ret
        exact ⟨rfl, xwz⟩
  | false =>
    have ht : cfText c = [] := by unfold cfText; rw [if_neg (by rw [hr]; decide)]
    rw [hr] at h3
    rw [ht] at h5 h9
    rw [show cfParse [] = (zeroCf, 1, 2) by decide +kernel] at h9
    unfold GivesCf zeroCf at h9
    simp only [show ((0 : Nat) : Int) = 0 from rfl, show ((1 : Nat) : Int) = 1 from rfl] at h9
    have e0 : bs [] = ByteArray.mk #[] := rfl
    rw [e0] at h5 h9
    go_enter Try.func10, Try.ntmps10
    go_upto_region 1 with fail
    go_name_world WW0 hWW0
    have hA : BlockIs WW0 w.heap.size [.int .i64 c.mi, .int .i64 c.mo, .int .i64 c.sh, .int .i64 c.mb, .int .i64 c.mbk, .int .u64 c.secret, .int .i64 c.qg, .int .i64 c.qp, .int .i64 c.qw, .int .i64 c.qt, .int .i64 c.half, .int .i64 c.limit, .int .i64 c.banfor, .int .i64 c.base, .int .i64 c.cap, .int .i64 c.jitter] 70 := by subst hWW0; exact BlockIs.new w [.int .i64 c.mi, .int .i64 c.mo, .int .i64 c.sh, .int .i64 c.mb, .int .i64 c.mbk, .int .u64 c.secret, .int .i64 c.qg, .int .i64 c.qp, .int .i64 c.qw, .int .i64 c.qt, .int .i64 c.half, .int .i64 c.limit, .int .i64 c.banfor, .int .i64 c.base, .int .i64 c.cap, .int .i64 c.jitter] _
    have x0 : Below w.heap.size w WW0 := by subst hWW0; (repeat (first | with_reducible assumption | with_reducible exact Below.refl _ _ | with_reducible refine Below.setCell ?_ (by first | omega | (simp; done) | (simp; omega)) _ | with_reducible refine Below.alloc ?_ (by first | omega | (simp; done) | (simp; omega)) _ | with_reducible refine Below.drew ?_ | (with_reducible refine Below.trans ?_ (Below.mono (by with_reducible assumption) (by first | omega | (simp; done) | (simp; omega)))) | (refine Below.trans ?_ (Below.mono (by assumption) (by first | omega | (simp; done) | (simp; omega))))))
    clear hWW0
    obtain ⟨V, hV'⟩ : ∃ V, V = Value.agg #[.int .i64 c.mi, .int .i64 c.mo, .int .i64 c.sh, .int .i64 c.mb, .int .i64 c.mbk, .int .u64 c.secret, .int .i64 c.qg, .int .i64 c.qp, .int .i64 c.qw, .int .i64 c.qt, .int .i64 c.half, .int .i64 c.limit, .int .i64 c.banfor, .int .i64 c.base, .int .i64 c.cap, .int .i64 c.jitter] := ⟨_, rfl⟩
    rw [← hV'] at h3 h5
    rw [← hV']
    have hV : Hid (V = .agg [.int .i64 c.mi, .int .i64 c.mo, .int .i64 c.sh, .int .i64 c.mb, .int .i64 c.mbk, .int .u64 c.secret, .int .i64 c.qg, .int .i64 c.qp, .int .i64 c.qw, .int .i64 c.qt, .int .i64 c.half, .int .i64 c.limit, .int .i64 c.banfor, .int .i64 c.base, .int .i64 c.cap, .int .i64 c.jitter].toArray) := hV'
    clear hV'
    obtain ⟨V2, hV2'⟩ : ∃ V, V = Value.agg #[.int .i64 0, .int .i64 0, .int .i64 0, .int .i64 0, .int .i64 0, .int .u64 0, .int .i64 0, .int .i64 0, .int .i64 0, .int .i64 0, .int .i64 0, .int .i64 0, .int .i64 0, .int .i64 0, .int .i64 0, .int .i64 0] := ⟨_, rfl⟩
    rw [← hV2'] at h9
    have hV2 : Hid (V2 = .agg [.int .i64 0, .int .i64 0, .int .i64 0, .int .i64 0, .int .i64 0, .int .u64 0, .int .i64 0, .int .i64 0, .int .i64 0, .int .i64 0, .int .i64 0, .int .i64 0, .int .i64 0, .int .i64 0, .int .i64 0, .int .i64 0].toArray) := hV2'
    clear hV2'
    have H3 := Lib.hid h3; have H5 := Lib.hid h5; have H9 := Lib.hid h9
    clear h3 h5 h9 hr ht e0
    go_upto_region 2 with (first | (refine list_load_V (by rfl) _ _ rfl _ _ _ hA rfl Try.underlying70 (by kernel_rfl) V hV ?_) | (go_at_call 53; (with_reducible refine (H5.out WW0).mono ?_); rintro e wa ⟨rfl, bwa⟩; have hA1 := hA.below bwa; have xwa := x0.trans (bwa.mono x0.size); clear bwa) | (go_at_call 47; (with_reducible refine (H9.out wa).mono ?_); rintro e wb ⟨rfl, bwb⟩; have hA2 := hA1.below bwb; have zA2 := hA2.lt; have xwb := xwa.trans (bwb.mono xwa.size); clear bwb) | (refine list_store_V rfl 70 _ _ rfl (wb.heap.size) _ _ 70 (BlockIs.newAt' _ _ _ (by simp)) rfl V2 hV2 rfl (by kernel_rfl) rfl (by simp [Value.oneCell']) w.heap.size w (by (repeat (first | with_reducible assumption | with_reducible exact Below.refl _ _ | with_reducible refine Below.setCell ?_ (by first | omega | (simp; done) | (simp; omega)) _ | with_reducible refine Below.alloc ?_ (by first | omega | (simp; done) | (simp; omega)) _ | with_reducible refine Below.drew ?_ | (with_reducible refine Below.trans ?_ (Below.mono (by with_reducible assumption) (by first | omega | (simp; done) | (simp; omega)))) | (refine Below.trans ?_ (Below.mono (by assumption) (by first | omega | (simp; done) | (simp; omega))))))) (by have := xwb.size; omega) ?_; intro WW1 hOWW1 hoth hsz xWW1; have hA3 := hoth w.heap.size _ _ (by omega) (hA2.alloc' _); clear hoth hsz))
    go_upto_region 4 with (first | (refine list_load_V (by rfl) _ _ rfl _ _ _ hA3 rfl Try.underlying70 (by kernel_rfl) V hV ?_) | (go_at_call 49; (with_reducible refine (H3.out WW1).mono ?_); rintro e wc ⟨rfl, bwc⟩; have hA4 := hA3.below bwc; have xwc := xWW1.trans (bwc.mono xWW1.size); clear bwc; rename_i K aK; dsimp only; refine aK _ _ ?_; (refine wpList_step fun K2 hK2 => ?_); go_simp; refine hK2 _ _ ?_; (iterate 11 ((with_reducible refine list_skip ?_ ?_); kernel_rfl)); simp only [Act.put, List.setIfInBounds_toArray, List.set_cons_zero, List.set_cons_succ]) | (refine list_load_V (by rfl) _ _ rfl _ _ _ hA4 rfl Try.underlying70 (by kernel_rfl) V hV ?_) | (refine list_load_V (by rfl) _ _ rfl _ _ _ hA5 rfl Try.underlying70 (by kernel_rfl) V hV ?_) | (go_at_call 49; (with_reducible refine (H3.out wc).mono ?_); rintro e wd ⟨rfl, bwd⟩; have hA5 := hA4.below bwd; have xwd := xwc.trans (bwd.mono xwc.size); clear bwd) | (go_at_call 53; (with_reducible refine (H5.out wd).mono ?_); rintro e we ⟨rfl, bwe⟩; have xwe := xwd.trans (bwe.mono xwd.size); clear bwe))
    go_name_world WWr hWWr
    have xr : Below w.heap.size w WWr := by subst hWWr; exact xwe
    clear hWWr
    rcases Int.lt_or_le 4000 (s.size : Int) with hl | hl
    · go_wp2_with (first | (go_at_call 46; (with_reducible refine (HA.out WWr).mono ?_); rintro e wz ⟨rfl, bwz⟩; have xwz := xr.trans (bwz.mono xr.size); clear bwz))
      go_ret
      exact ⟨rfl, xwz⟩
    · have h7 := fun w => cfParse_any s w (by omega)
      have k1 := @cfParse_ok s.data.toList
      have k2 := @cfParse_no s.data.toList
      generalize cfParse s.data.toList = rr at *
      obtain ⟨r, ra, rb⟩ := rr
      unfold GivesCf at h7
      simp only at h7 k1 k2
      by_cases hc : rb = 0
      · subst hc
        obtain ⟨k3, k4⟩ := k1 rfl
        have i3 := fun w => cfRight_any r w
        have i5 := fun w => cfText_any r w
        rw [k3] at i3
        rw [k4, show bs s.data.toList = s from rfl] at i5
        obtain ⟨U, hU'⟩ : ∃ V, V = Value.agg #[.int .i64 r.mi, .int .i64 r.mo, .int .i64 r.sh, .int .i64 r.mb, .int .i64 r.mbk, .int .u64 r.secret, .int .i64 r.qg, .int .i64 r.qp, .int .i64 r.qw, .int .i64 r.qt, .int .i64 r.half, .int .i64 r.limit, .int .i64 r.banfor, .int .i64 r.base, .int .i64 r.cap, .int .i64 r.jitter] := ⟨_, rfl⟩
        rw [← hU'] at h7 i3 i5
        have hU : Hid (U = .agg [.int .i64 r.mi, .int .i64 r.mo, .int .i64 r.sh, .int .i64 r.mb, .int .i64 r.mbk, .int .u64 r.secret, .int .i64 r.qg, .int .i64 r.qp, .int .i64 r.qw, .int .i64 r.qt, .int .i64 r.half, .int .i64 r.limit, .int .i64 r.banfor, .int .i64 r.base, .int .i64 r.cap, .int .i64 r.jitter].toArray) := hU'
        clear hU'
        have H7 := Lib.hid h7; have I3 := Lib.hid i3; have I5 := Lib.hid i5
        have e3 : (s.toList == s.toList) = true := by simp
        clear h7 i3 i5 k1 k2 k3 k4
        go_wp2_with (first | (refine list_load_V (by rfl) _ _ rfl _ _ _ hOWW2 rfl Try.underlying70 (by kernel_rfl) U hU ?_) | (refine list_load_V (by rfl) _ _ rfl _ _ _ hO5 rfl Try.underlying70 (by kernel_rfl) U hU ?_) | (go_at_call 47; (with_reducible refine (H7.out WWr).mono ?_); rintro e wf ⟨rfl, bwf⟩; have xwf := xr.trans (bwf.mono xr.size); clear bwf; have zwf := xwf.size) | (refine list_store_V rfl 70 _ _ rfl (wf.heap.size) _ _ 70 (BlockIs.newAt' _ _ _ (by simp)) rfl U hU rfl (by kernel_rfl) rfl (by simp [Value.oneCell']) w.heap.size w (by (repeat (first | with_reducible assumption | with_reducible exact Below.refl _ _ | with_reducible refine Below.setCell ?_ (by first | omega | (simp; done) | (simp; omega)) _ | with_reducible refine Below.alloc ?_ (by first | omega | (simp; done) | (simp; omega)) _ | with_reducible refine Below.drew ?_ | (with_reducible refine Below.trans ?_ (Below.mono (by with_reducible assumption) (by first | omega | (simp; done) | (simp; omega)))) | (refine Below.trans ?_ (Below.mono (by assumption) (by first | omega | (simp; done) | (simp; omega))))))) (by have := xwf.size; omega) ?_; intro WW2 hOWW2 hoth hsz xWW2; clear hoth hsz) | (go_at_call 49; (with_reducible refine (I3.out WW2).mono ?_); rintro e wg ⟨rfl, bwg⟩; have hO5 := hOWW2.below bwg; have xwg := xWW2.trans (bwg.mono xWW2.size); clear bwg) | (go_at_call 53; (with_reducible refine (I5.out wg).mono ?_); rintro e wh ⟨rfl, bwh⟩; have xwh := xwg.trans (bwh.mono xwg.size); clear bwh) | (go_at_call 46; (with_reducible refine (HA.out wh).mono ?_); rintro e wz ⟨rfl, bwz⟩; have xwz := xwh.trans (bwz.mono xwh.size); clear bwz))
        go_ret
        exact ⟨rfl, xwz⟩
      · have k5 := k2 hc
        subst k5
        have q3 := fun W => eqlCf_self zeroCf W
        unfold zeroCf at h7 q3
        simp only [show ((0 : Nat) : Int) = 0 from rfl] at h7 q3
        obtain ⟨U, hU'⟩ : ∃ V, V = Value.agg #[.int .i64 0, .int .i64 0, .int .i64 0, .int .i64 0, .int .i64 0, .int .u64 0, .int .i64 0, .int .i64 0, .int .i64 0, .int .i64 0, .int .i64 0, .int .i64 0, .int .i64 0, .int .i64 0, .int .i64 0, .int .i64 0] := ⟨_, rfl⟩
        have q4 : ∀ W, (binOp .eql 70 U (Value.agg #[.int .i64 0, .int .i64 0, .int .i64 0, .int .i64 0, .int .i64 0, .int .u64 0, .int .i64 0, .int .i64 0, .int .i64 0, .int .i64 0, .int .i64 0, .int .i64 0, .int .i64 0, .int .i64 0, .int .i64 0, .int .i64 0])).run Try.prog W = .ok (.bool true) W := by intro W; rw [hU']; exact q3 W
        rw [← hU'] at h7
        have hU : Hid (U = .agg [.int .i64 0, .int .i64 0, .int .i64 0, .int .i64 0, .int .i64 0, .int .u64 0, .int .i64 0, .int .i64 0, .int .i64 0, .int .i64 0, .int .i64 0, .int .i64 0, .int .i64 0, .int .i64 0, .int .i64 0, .int .i64 0].toArray) := hU'
        have g4 := fun W b x y => guard_V (P := Try.prog) (W := W) b 70 x y hU (show Hid (Value.agg #[.int .i64 0, .int .i64 0, .int .i64 0, .int .i64 0, .int .i64 0, .int .u64 0, .int .i64 0, .int .i64 0, .int .i64 0, .int .i64 0, .int .i64 0, .int .i64 0, .int .i64 0, .int .i64 0, .int .i64 0, .int .i64 0] = .agg [.int .i64 0, .int .i64 0, .int .i64 0, .int .i64 0, .int .i64 0, .int .u64 0, .int .i64 0, .int .i64 0, .int .i64 0, .int .i64 0, .int .i64 0, .int .i64 0, .int .i64 0, .int .i64 0, .int .i64 0, .int .i64 0].toArray) from rfl) (by kernel_rfl)
        have H7 := Lib.hid h7; have Q4 := Lib.hid q4; have G4 := Lib.hid g4
        have d1 : decide (rb = 0) = false := decide_eq_false hc
        clear h7 k1 k2 q3 q4 g4 hU'
        go_wp2_with (first | (refine list_load_V (by rfl) _ _ rfl _ _ _ hOWW2 rfl Try.underlying70 (by kernel_rfl) U hU ?_) | (refine list_bin_w (by rfl) .eql _ _ _ _ rfl _ _ (.bool true) rfl rfl (G4.out _ _ _ _) (Q4.out _) ?_) | (go_at_call 47; (with_reducible refine (H7.out WWr).mono ?_); rintro e wf ⟨rfl, bwf⟩; have xwf := xr.trans (bwf.mono xr.size); clear bwf; have zwf := xwf.size) | (refine list_store_V rfl 70 _ _ rfl (wf.heap.size) _ _ 70 (BlockIs.newAt' _ _ _ (by simp)) rfl U hU rfl (by kernel_rfl) rfl (by simp [Value.oneCell']) w.heap.size w (by (repeat (first | with_reducible assumption | with_reducible exact Below.refl _ _ | with_reducible refine Below.setCell ?_ (by first | omega | (simp; done) | (simp; omega)) _ | with_reducible refine Below.alloc ?_ (by first | omega | (simp; done) | (simp; omega)) _ | with_reducible refine Below.drew ?_ | (with_reducible refine Below.trans ?_ (Below.mono (by with_reducible assumption) (by first | omega | (simp; done) | (simp; omega)))) | (refine Below.trans ?_ (Below.mono (by assumption) (by first | omega | (simp; done) | (simp; omega))))))) (by have := xwf.size; omega) ?_; intro WW2 hOWW2 hoth hsz xWW2; clear hoth hsz) | (go_at_call 46; (with_reducible refine (HA.out WW2).mono ?_); rintro e wz ⟨rfl, bwz⟩; have xwz := xWW2.trans (bwz.mono xWW2.size); clear bwz))
        go_ret
        exact ⟨rfl, xwz⟩
end Go.Proofs.Ytnohkfbapibmdaa
