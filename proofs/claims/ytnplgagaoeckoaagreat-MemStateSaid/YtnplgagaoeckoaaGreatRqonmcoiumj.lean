/- Texts put together: StC, LawMemB, LawMsA, ShM, PlMs, LawMsB, CfS, StV2, LawMsL. No condition. -/
import Derived.Test.YtnplgagaoeckoaaGreatRchphfgrzko
import Derived.Test.YtnplgagaoeckoaaGreatReaswffcjoe
import Derived.Test.YtnplgagaoeckoaaGreatRzqhmawytif
import Derived.Test.YtnplgagaoeckoaaGreatRmveoeatswh
import Derived.Test.YtnplgagaoeckoaaGreatRlqgwiumxhl
import Derived.Test.YtnplgagaoeckoaaGreatRjirlhtqqcq
import Derived.Test.YtnplgagaoeckoaaGreatRyixibntrkb
import Derived.Test.YtnplgagaoeckoaaGreatRnpousohjol
import Derived.Test.YtnplgagaoeckoaaGreatRslantadajh
import Derived.Test.YtnplgagaoeckoaaGreatRwziyrduvnt
import Derived.Deep.RegionWith
import Derived.Test.YtnplgagaoeckoaaGreatRngqlbtqdzu
namespace Go.Proofs.YtnplgagaoeckoaaGreat
open Go.RowKit Go.Lib

def camE (pl : List Pe) (k : Int) : Bool := ((pl[k.toNat]?).map fun p => p.came).getD false
def bkOk (pl : List Pe) (x : Ey) : Bool := (x.state == 3) == (decide (0 ≤ fdI pl x.en) && !camE pl (fdI pl x.en))
def pkOk (kl : List Ey) (p : Pe) : Bool := p.came || decide (0 ≤ fdE kl p.en)
def StRight (c : Cf) (bl : List Ba) (kl : List Ey) (pl : List Pe) : Prop := cfRight c = true ∧ bfRight bl ∧ bkRight kl = true ∧ rgtT pl = true ∧ (bl.length : Int) ≤ c.mb ∧ (kl.length : Int) ≤ c.mbk ∧ (cntL true pl : Int) ≤ c.mi ∧ (cntL false pl : Int) + (cntE 2 kl : Int) ≤ c.mo ∧
  (∀ (i : Nat) (x : Ey), kl[i]? = some x → bkOk pl x = true) ∧ ∀ (i : Nat) (p : Pe), pl[i]? = some p → pkOk kl p = true
set_option maxRecDepth 100000 in
set_option maxHeartbeats 16000000 in
theorem stRight_any (c : Cf) (vb vk vp : Value) (bl : List Ba) (kl : List Ey) (pl : List Pe) (b : Bool) (hbb : b = true ↔ StRight c bl kl pl) (w : World) (hb : ReadsL baV 5 w vb bl) (hk : ReadsL eyV 7 w vk kl) (hp : ReadsL peV 10 w vp pl)
    (hfb : ∀ x ∈ bl, x.nt.ad.fits) (hfk : ∀ x ∈ kl, x.en.ad.fits) (hfp : ∀ p ∈ pl, p.en.ad.fits) (hkn : kl.length ≤ 1000000) (hpn : pl.length ≤ 1000000) :
    Calls Tryz.prog 23 #[.agg #[.int .i64 c.mi, .int .i64 c.mo, .int .i64 c.sh, .int .i64 c.mb, .int .i64 c.mbk, .int .u64 c.secret, .int .i64 c.qg, .int .i64 c.qp, .int .i64 c.qw, .int .i64 c.qt, .int .i64 c.half, .int .i64 c.limit, .int .i64 c.banfor, .int .i64 c.base, .int .i64 c.cap, .int .i64 c.jitter], .agg #[vb, vk, vp]] w fun e w' => e = .returned (.bool b) ∧ Below w.heap.size w w' := by
  have H29 := Lib.hid (fun (W : World) => refCfRight_any c W)
  have H13y := Lib.hid (fun (hr : bfRight bl) (W : World) (hB : Below w.heap.size w W) => refBfRight_yes vb bl W (ReadsL.below hb hB) hfb hr)
  have H13n := Lib.hid (fun (hr : ¬ bfRight bl) (W : World) (hB : Below w.heap.size w W) => refBfRight_no vb bl W (ReadsL.below hb hB) hfb hr)
  have H26 := Lib.hid (fun (W : World) (hB : Below w.heap.size w W) => refBkRight_any vk kl W (ReadsL.below hk hB) hfk)
  have H30 := Lib.hid (fun (W : World) (hB : Below w.heap.size w W) => refTright_any vp pl W (ReadsL.below hp hB) hfp)
  have HCT := Lib.hid (fun (W : World) (hB : Below w.heap.size w W) => refTcount_any vp pl true W (ReadsL.below hp hB))
  have HDI := Lib.hid (fun (W : World) (hB : Below w.heap.size w W) => dialled_any vb vk vp bl kl pl W (ReadsL.below hb hB) (ReadsL.below hk hB) (ReadsL.below hp hB) hkn hpn)
  have HIX := Lib.hid (fun (e : En) (W : World) (hB : Below w.heap.size w W) => refIndex_any vp pl e W (ReadsL.below hp hB))
  have HFD := Lib.hid (fun (e : En) (W : World) (hB : Below w.heap.size w W) => refBookFind_any vk kl e W (ReadsL.below hk hB))
  obtain ⟨_, a1, c1, rfl, _⟩ := ba_open hb
  obtain ⟨hmk, a2, c2, rfl, hk3⟩ := ey_open hk
  obtain ⟨hmp, a3, c3, rfl, hp3⟩ := pes_open hp
  have hno : ¬ StRight c bl kl pl → b = false := fun h => by cases b with | false => rfl | true => exact absurd (hbb.1 rfl) h
  have HBB := Lib.hid hbb; have HNO := Lib.hid hno
  clear hb hk hp hfb hfk hfp hbb hno
  cases hc0 : cfRight c with
  | false =>
    have hbf := HNO.out (fun h => by have := h.1; rw [hc0] at this; cases this)
    rw [hc0] at H29
    clear hc0 H13y H13n hk3 hp3
    go_enter Tryz.func23, Tryz.ntmps23
    go_upto_region 1 with fail
    obtain ⟨W3, hW3⟩ : ∃ W3, W3 = (w.alloc (.cells #[.int .i64 c.mi, .int .i64 c.mo, .int .i64 c.sh, .int .i64 c.mb, .int .i64 c.mbk, .int .u64 c.secret, .int .i64 c.qg, .int .i64 c.qp, .int .i64 c.qw, .int .i64 c.qt, .int .i64 c.half, .int .i64 c.limit, .int .i64 c.banfor, .int .i64 c.base, .int .i64 c.cap, .int .i64 c.jitter] 26)).alloc (.cells #[.slice a1 bl.length c1, .slice a2 kl.length c2, .slice a3 pl.length c3] 31) := ⟨_, rfl⟩
    rw [← hW3]
    have B3 : Below w.heap.size w W3 := by subst hW3; exact bel
    have hBc : BlockIs W3 w.heap.size [.int .i64 c.mi, .int .i64 c.mo, .int .i64 c.sh, .int .i64 c.mb, .int .i64 c.mbk, .int .u64 c.secret, .int .i64 c.qg, .int .i64 c.qp, .int .i64 c.qw, .int .i64 c.qt, .int .i64 c.half, .int .i64 c.limit, .int .i64 c.banfor, .int .i64 c.base, .int .i64 c.cap, .int .i64 c.jitter] 26 := by subst hW3; exact (BlockIs.new w [.int .i64 c.mi, .int .i64 c.mo, .int .i64 c.sh, .int .i64 c.mb, .int .i64 c.mbk, .int .u64 c.secret, .int .i64 c.qg, .int .i64 c.qp, .int .i64 c.qw, .int .i64 c.qt, .int .i64 c.half, .int .i64 c.limit, .int .i64 c.banfor, .int .i64 c.base, .int .i64 c.cap, .int .i64 c.jitter] _).alloc' _
    have hBs : BlockIs W3 (w.heap.size + 1) [.slice a1 bl.length c1, .slice a2 kl.length c2, .slice a3 pl.length c3] 31 := by subst hW3; exact BlockIs.newAt' _ [.slice a1 bl.length c1, .slice a2 kl.length c2, .slice a3 pl.length c3] _ (by simp)
    clear hW3
    go_wp2_with (first
      | (refine list_load_blk rfl 26 _ rfl w.heap.size [.int .i64 c.mi, .int .i64 c.mo, .int .i64 c.sh, .int .i64 c.mb, .int .i64 c.mbk, .int .u64 c.secret, .int .i64 c.qg, .int .i64 c.qp, .int .i64 c.qw, .int .i64 c.qt, .int .i64 c.half, .int .i64 c.limit, .int .i64 c.banfor, .int .i64 c.base, .int .i64 c.cap, .int .i64 c.jitter] 26 hBc rfl Tryz.underlying26 (by kernel_rfl) ?_)
      | (go_at_call 7; (with_reducible refine (H29.out _).mono ?_); rintro e w4 ⟨rfl, b4⟩; have B4 := below2 B3 b4; have hBc4 := hBc.below b4; have hBs4 := hBs.below b4; have t4 := hBs4.cell (i := 0) rfl))
    go_ret
    exact ⟨by rw [hbf]; rfl, B4⟩
  | true =>
    rw [hc0] at H29
    by_cases hc1 : bfRight bl
    · have H13 := Lib.hid (H13y.out hc1)
      clear H13y H13n
      cases hc2 : bkRight kl with
      | false =>
        have hbf := HNO.out (fun h => by have := h.2.2.1; rw [hc2] at this; cases this)
        rw [hc2] at H26
        clear hc0 hc1 hc2 hk3 hp3
        go_enter Tryz.func23, Tryz.ntmps23
        go_upto_region 1 with fail
        obtain ⟨W3, hW3⟩ : ∃ W3, W3 = (w.alloc (.cells #[.int .i64 c.mi, .int .i64 c.mo, .int .i64 c.sh, .int .i64 c.mb, .int .i64 c.mbk, .int .u64 c.secret, .int .i64 c.qg, .int .i64 c.qp, .int .i64 c.qw, .int .i64 c.qt, .int .i64 c.half, .int .i64 c.limit, .int .i64 c.banfor, .int .i64 c.base, .int .i64 c.cap, .int .i64 c.jitter] 26)).alloc (.cells #[.slice a1 bl.length c1, .slice a2 kl.length c2, .slice a3 pl.length c3] 31) := ⟨_, rfl⟩
        rw [← hW3]
        have B3 : Below w.heap.size w W3 := by subst hW3; exact bel
        have hBc : BlockIs W3 w.heap.size [.int .i64 c.mi, .int .i64 c.mo, .int .i64 c.sh, .int .i64 c.mb, .int .i64 c.mbk, .int .u64 c.secret, .int .i64 c.qg, .int .i64 c.qp, .int .i64 c.qw, .int .i64 c.qt, .int .i64 c.half, .int .i64 c.limit, .int .i64 c.banfor, .int .i64 c.base, .int .i64 c.cap, .int .i64 c.jitter] 26 := by subst hW3; exact (BlockIs.new w [.int .i64 c.mi, .int .i64 c.mo, .int .i64 c.sh, .int .i64 c.mb, .int .i64 c.mbk, .int .u64 c.secret, .int .i64 c.qg, .int .i64 c.qp, .int .i64 c.qw, .int .i64 c.qt, .int .i64 c.half, .int .i64 c.limit, .int .i64 c.banfor, .int .i64 c.base, .int .i64 c.cap, .int .i64 c.jitter] _).alloc' _
        have hBs : BlockIs W3 (w.heap.size + 1) [.slice a1 bl.length c1, .slice a2 kl.length c2, .slice a3 pl.length c3] 31 := by subst hW3; exact BlockIs.newAt' _ [.slice a1 bl.length c1, .slice a2 kl.length c2, .slice a3 pl.length c3] _ (by simp)
        clear hW3
        go_wp2_with (first
          | (refine list_load_blk rfl 26 _ rfl w.heap.size [.int .i64 c.mi, .int .i64 c.mo, .int .i64 c.sh, .int .i64 c.mb, .int .i64 c.mbk, .int .u64 c.secret, .int .i64 c.qg, .int .i64 c.qp, .int .i64 c.qw, .int .i64 c.qt, .int .i64 c.half, .int .i64 c.limit, .int .i64 c.banfor, .int .i64 c.base, .int .i64 c.cap, .int .i64 c.jitter] 26 hBc rfl Tryz.underlying26 (by kernel_rfl) ?_)
          | (go_at_call 7; (with_reducible refine (H29.out _).mono ?_); rintro e w4 ⟨rfl, b4⟩; have B4 := below2 B3 b4; have hBc4 := hBc.below b4; have hBs4 := hBs.below b4; have t4 := hBs4.cell (i := 0) rfl)
          | (go_at_call 59; (with_reducible refine (H13.out _ B4).mono ?_); rintro e w5 ⟨rfl, b5⟩; have B5 := below2 B4 b5; have hBc5 := hBc4.below b5; have hBs5 := hBs4.below b5; have t5 := hBs5.cell (i := 1) rfl)
          | (go_at_call 60; (with_reducible refine (H26.out _ B5).mono ?_); rintro e w6 ⟨rfl, b6⟩; have B6 := below2 B5 b6; have hBc6 := hBc5.below b6; have hBs6 := hBs5.below b6; have t6 := hBs6.cell (i := 2) rfl))
        go_ret
        exact ⟨by rw [hbf]; rfl, B6⟩
      | true =>
        rw [hc2] at H26
        cases hc3 : rgtT pl with
        | false =>
          have hbf := HNO.out (fun h => by have := h.2.2.2.1; rw [hc3] at this; cases this)
          rw [hc3] at H30
          clear hc0 hc1 hc2 hc3 hk3 hp3
          go_enter Tryz.func23, Tryz.ntmps23
          go_upto_region 1 with fail
          obtain ⟨W3, hW3⟩ : ∃ W3, W3 = (w.alloc (.cells #[.int .i64 c.mi, .int .i64 c.mo, .int .i64 c.sh, .int .i64 c.mb, .int .i64 c.mbk, .int .u64 c.secret, .int .i64 c.qg, .int .i64 c.qp, .int .i64 c.qw, .int .i64 c.qt, .int .i64 c.half, .int .i64 c.limit, .int .i64 c.banfor, .int .i64 c.base, .int .i64 c.cap, .int .i64 c.jitter] 26)).alloc (.cells #[.slice a1 bl.length c1, .slice a2 kl.length c2, .slice a3 pl.length c3] 31) := ⟨_, rfl⟩
          rw [← hW3]
          have B3 : Below w.heap.size w W3 := by subst hW3; exact bel
          have hBc : BlockIs W3 w.heap.size [.int .i64 c.mi, .int .i64 c.mo, .int .i64 c.sh, .int .i64 c.mb, .int .i64 c.mbk, .int .u64 c.secret, .int .i64 c.qg, .int .i64 c.qp, .int .i64 c.qw, .int .i64 c.qt, .int .i64 c.half, .int .i64 c.limit, .int .i64 c.banfor, .int .i64 c.base, .int .i64 c.cap, .int .i64 c.jitter] 26 := by subst hW3; exact (BlockIs.new w [.int .i64 c.mi, .int .i64 c.mo, .int .i64 c.sh, .int .i64 c.mb, .int .i64 c.mbk, .int .u64 c.secret, .int .i64 c.qg, .int .i64 c.qp, .int .i64 c.qw, .int .i64 c.qt, .int .i64 c.half, .int .i64 c.limit, .int .i64 c.banfor, .int .i64 c.base, .int .i64 c.cap, .int .i64 c.jitter] _).alloc' _
          have hBs : BlockIs W3 (w.heap.size + 1) [.slice a1 bl.length c1, .slice a2 kl.length c2, .slice a3 pl.length c3] 31 := by subst hW3; exact BlockIs.newAt' _ [.slice a1 bl.length c1, .slice a2 kl.length c2, .slice a3 pl.length c3] _ (by simp)
          clear hW3
          go_wp2_with (first
            | (refine list_load_blk rfl 26 _ rfl w.heap.size [.int .i64 c.mi, .int .i64 c.mo, .int .i64 c.sh, .int .i64 c.mb, .int .i64 c.mbk, .int .u64 c.secret, .int .i64 c.qg, .int .i64 c.qp, .int .i64 c.qw, .int .i64 c.qt, .int .i64 c.half, .int .i64 c.limit, .int .i64 c.banfor, .int .i64 c.base, .int .i64 c.cap, .int .i64 c.jitter] 26 hBc rfl Tryz.underlying26 (by kernel_rfl) ?_)
            | (go_at_call 7; (with_reducible refine (H29.out _).mono ?_); rintro e w4 ⟨rfl, b4⟩; have B4 := below2 B3 b4; have hBc4 := hBc.below b4; have hBs4 := hBs.below b4; have t4 := hBs4.cell (i := 0) rfl)
            | (go_at_call 59; (with_reducible refine (H13.out _ B4).mono ?_); rintro e w5 ⟨rfl, b5⟩; have B5 := below2 B4 b5; have hBc5 := hBc4.below b5; have hBs5 := hBs4.below b5; have t5 := hBs5.cell (i := 1) rfl)
            | (go_at_call 60; (with_reducible refine (H26.out _ B5).mono ?_); rintro e w6 ⟨rfl, b6⟩; have B6 := below2 B5 b6; have hBc6 := hBc5.below b6; have hBs6 := hBs5.below b6; have t6 := hBs6.cell (i := 2) rfl)
            | (go_at_call 61; (with_reducible refine (H30.out _ B6).mono ?_); rintro e w7 ⟨rfl, b7⟩; have B7 := below2 B6 b7; have hBc7 := hBc6.below b7; have hBs7 := hBs6.below b7))
          go_ret
          exact ⟨by rw [hbf]; rfl, B7⟩
        | true =>
          rw [hc3] at H30
          have HC := Lib.hid (And.intro hc0 (And.intro hc1 (And.intro hc2 hc3)))
          clear hc0 hc1 hc2 hc3
          go_enter Tryz.func23, Tryz.ntmps23
          go_upto_region 1 with fail
          obtain ⟨W3, hW3⟩ : ∃ W3, W3 = (w.alloc (.cells #[.int .i64 c.mi, .int .i64 c.mo, .int .i64 c.sh, .int .i64 c.mb, .int .i64 c.mbk, .int .u64 c.secret, .int .i64 c.qg, .int .i64 c.qp, .int .i64 c.qw, .int .i64 c.qt, .int .i64 c.half, .int .i64 c.limit, .int .i64 c.banfor, .int .i64 c.base, .int .i64 c.cap, .int .i64 c.jitter] 26)).alloc (.cells #[.slice a1 bl.length c1, .slice a2 kl.length c2, .slice a3 pl.length c3] 31) := ⟨_, rfl⟩
          rw [← hW3]
          have B3 : Below w.heap.size w W3 := by subst hW3; exact bel
          have hBc : BlockIs W3 w.heap.size [.int .i64 c.mi, .int .i64 c.mo, .int .i64 c.sh, .int .i64 c.mb, .int .i64 c.mbk, .int .u64 c.secret, .int .i64 c.qg, .int .i64 c.qp, .int .i64 c.qw, .int .i64 c.qt, .int .i64 c.half, .int .i64 c.limit, .int .i64 c.banfor, .int .i64 c.base, .int .i64 c.cap, .int .i64 c.jitter] 26 := by subst hW3; exact (BlockIs.new w [.int .i64 c.mi, .int .i64 c.mo, .int .i64 c.sh, .int .i64 c.mb, .int .i64 c.mbk, .int .u64 c.secret, .int .i64 c.qg, .int .i64 c.qp, .int .i64 c.qw, .int .i64 c.qt, .int .i64 c.half, .int .i64 c.limit, .int .i64 c.banfor, .int .i64 c.base, .int .i64 c.cap, .int .i64 c.jitter] _).alloc' _
          have hBs : BlockIs W3 (w.heap.size + 1) [.slice a1 bl.length c1, .slice a2 kl.length c2, .slice a3 pl.length c3] 31 := by subst hW3; exact BlockIs.newAt' _ [.slice a1 bl.length c1, .slice a2 kl.length c2, .slice a3 pl.length c3] _ (by simp)
          clear hW3
          go_upto_region 3 with (first
            | (refine list_load_blk rfl 26 _ rfl w.heap.size [.int .i64 c.mi, .int .i64 c.mo, .int .i64 c.sh, .int .i64 c.mb, .int .i64 c.mbk, .int .u64 c.secret, .int .i64 c.qg, .int .i64 c.qp, .int .i64 c.qw, .int .i64 c.qt, .int .i64 c.half, .int .i64 c.limit, .int .i64 c.banfor, .int .i64 c.base, .int .i64 c.cap, .int .i64 c.jitter] 26 hBc rfl Tryz.underlying26 (by kernel_rfl) ?_)
            | (go_at_call 7; (with_reducible refine (H29.out _).mono ?_); rintro e w4 ⟨rfl, b4⟩; have B4 := below2 B3 b4; have hBc4 := hBc.below b4; have hBs4 := hBs.below b4; have t4 := hBs4.cell (i := 0) rfl)
            | (go_at_call 59; (with_reducible refine (H13.out _ B4).mono ?_); rintro e w5 ⟨rfl, b5⟩; have B5 := below2 B4 b5; have hBc5 := hBc4.below b5; have hBs5 := hBs4.below b5; have t5 := hBs5.cell (i := 1) rfl)
            | (go_at_call 60; (with_reducible refine (H26.out _ B5).mono ?_); rintro e w6 ⟨rfl, b6⟩; have B6 := below2 B5 b6; have hBc6 := hBc5.below b6; have hBs6 := hBs5.below b6; have t6 := hBs6.cell (i := 2) rfl)
            | (go_at_call 61; (with_reducible refine (H30.out _ B6).mono ?_); rintro e w7 ⟨rfl, b7⟩; have B7 := below2 B6 b7; have hBc7 := hBc6.below b7; have hBs7 := hBs6.below b7))
          have HX := Lib.hid (fun y => below2 B7 (ext_below w7 y))
          have q0 := fun y => (hBc7.below (ext_below w7 y)).cell (i := 0) rfl; have q1 := fun y => (hBc7.below (ext_below w7 y)).cell (i := 1) rfl; have q3 := fun y => (hBc7.below (ext_below w7 y)).cell (i := 3) rfl; have q4 := fun y => (hBc7.below (ext_below w7 y)).cell (i := 4) rfl; have s0 := fun y => (hBs7.below (ext_below w7 y)).cell (i := 0) rfl; have s1 := fun y => (hBs7.below (ext_below w7 y)).cell (i := 1) rfl; have s2 := fun y => (hBs7.below (ext_below w7 y)).cell (i := 2) rfl
          clear t4 t5 t6
          by_cases d0 : (bl.length : Int) ≤ c.mb
          · have f0 : decide (c.mb < (bl.length : Int)) = false := decide_eq_false (by omega)
            by_cases d1 : (kl.length : Int) ≤ c.mbk
            · have f1 : decide (c.mbk < (kl.length : Int)) = false := decide_eq_false (by omega)
              by_cases d2 : (cntL true pl : Int) ≤ c.mi
              · have f2 : decide (c.mi < (cntL true pl : Int)) = false := decide_eq_false (by omega)
                by_cases d3 : (cntL false pl : Int) + (cntE 2 kl : Int) ≤ c.mo
                · have f3 : decide (c.mo < ((cntL false pl : Int) + (cntE 2 kl : Int))) = false := decide_eq_false (by omega)
                  have HD := Lib.hid (And.intro d0 (And.intro d1 (And.intro d2 d3)))
                  clear d0 d1 d2 d3
                  refine wp_region_ext (by kernel_rfl) (by kernel_rfl) ?_
                  repeat (go_big_quiet_step ((first | (go_at_call 34; with_reducible exact qe (HCT.out _ (HX.out _))) | (go_at_call 24; with_reducible exact qe (HDI.out _ (HX.out _))))))
                  refine wpQuiet_nil ?_
                  intro _ hw'
                  obtain ⟨gx, hw''⟩ := hw'
                  subst hw''
                  clear q0 q1 q3 q4 s0 s1 s2 f0 f1 f2 f3
                  obtain ⟨w8, hw8⟩ : ∃ w8, w8 = Go.Proofs.YtnplgagaoeckoaaGreat.ext w7 gx := ⟨_, rfl⟩
                  rw [← hw8]
                  have B8 : Below w.heap.size w w8 := by subst hw8; exact HX.out gx
                  have hBs8 : BlockIs w8 (w.heap.size + 1) [.slice a1 bl.length c1, .slice a2 kl.length c2, .slice a3 pl.length c3] 31 := by subst hw8; exact hBs7.below (ext_below w7 gx)
                  clear hw8 HX
                  have HBS8 := Lib.hid hBs8; have HB8 := Lib.hid B8
                  clear hBs8 B8 hBc hBs hBc4 hBs4 hBc5 hBs5 hBc6 hBs6 hBc7 hBs7 B3 B4 B5 B6 B7 b4 b5 b6 b7
                  go_wp2_with fail
                  go_loopw [5] (fun i' wr => ∃ i : Nat, i ≤ kl.length ∧ i' = .int .i64 i ∧ Hid (∀ (j : Nat) (y : Ey), j < i → kl[j]? = some y → bkOk pl y = true) ∧ Hid (Below w8.heap.size w8 wr)) (fun i' _ => kl.length - (intOf i').toNat)
                  case atStart => exact ⟨0, by omega, rfl, fun j y hj => absurd hj (Nat.not_lt_zero _), Below.refl _ _⟩
                  case round =>
                    obtain ⟨i, hi, rfl, HP, HB⟩ := hrel
                    have hS := HBS8.out.below HB.out
                    have t1 := hS.cell (i := 1) rfl
                    by_cases hlt : i < kl.length
                    · obtain ⟨x, hx⟩ : ∃ x, kl[i]? = some x := ⟨_, List.getElem?_eq_getElem hlt⟩
                      obtain ⟨b2, o2, rfl, _, h52, h62⟩ := hk3 (by omega)
                      obtain ⟨g0, g1, g2, g3, g4, _, _⟩ := h62 i x hx
                      have HBW := Lib.hid (below2 HB8.out HB.out)
                      have HBX := Lib.hid (fun y => HBW.out.trans ((ext_below wr y).mono HBW.out.size))
                      have e0 := fun y => keep (HBX.out y) h52 g0; have e1 := fun y => keep (HBX.out y) h52 g1; have e2 := fun y => keep (HBX.out y) h52 g2; have e3 := fun y => keep (HBX.out y) h52 g3
                      have s1 := fun y => (hS.below (ext_below wr y)).cell (i := 1) rfl
                      have s2 := fun y => (hS.below (ext_below wr y)).cell (i := 2) rfl
                      have q1 : (0 : Int) ≤ (i : Int) := by omega
                      have q2 : (i : Int) < (kl.length : Int) := by omega
                      have HXE := Lib.hid hx
                      have HIE := Lib.hid (HIX.out x.en)
                      have HG4 := Lib.hid g4
                      obtain ⟨z, hz⟩ : ∃ z, z = fdI pl x.en := ⟨_, rfl⟩
                      rw [← hz] at HIE
                      have HZ := Lib.hid hz.symm
                      have HZC := Lib.hid (fnI_cases pl fun p => decide (p.en = x.en))
                      clear hx h62 g0 g1 g2 g3 g4 hz
                      go_wp2_with fail
                      refine wp_region_ext (by kernel_rfl) (by kernel_rfl) ?_
                      repeat (go_big_quiet_step ((first | (go_at_call 62; with_reducible exact qe (HIE.out _ (HBX.out _))))))
                      refine wpQuiet_nil ?_
                      intro _ hw'
                      obtain ⟨gy, hw''⟩ := hw'
                      subst hw''
                      clear e0 e1 e2 e3 s1 s2 t1
                      have hb9 := HBX.out gy
                      obtain ⟨w9, hw9⟩ : ∃ w9, w9 = Go.Proofs.YtnplgagaoeckoaaGreat.ext wr gy := ⟨_, rfl⟩
                      rw [← hw9] at hb9 ⊢
                      have hS9 := hS.below (ext_below wr gy)
                      rw [← hw9] at hS9
                      have HB9 : Hid (Below w8.heap.size w8 w9) := by subst hw9; exact HB.out.trans ((ext_below wr gy).mono HB.out.size)
                      clear hw9 HBX hS
                      have HBX := Lib.hid (fun y => hb9.trans ((ext_below w9 y).mono hb9.size))
                      have HBZ := Lib.hid (fun y => HB9.out.trans ((ext_below w9 y).mono HB9.out.size))
                      have s1 := fun y => (hS9.below (ext_below w9 y)).cell (i := 1) rfl
                      have s2 := fun y => (hS9.below (ext_below w9 y)).cell (i := 2) rfl
                      have e4 := fun y => keep (HBX.out y) h52 HG4.out
                      clear hb9 hS9
                      go_upto_region 9 with fail
                      rcases HZC.out with hz1 | ⟨k, hz1, hkl⟩
                      · obtain rfl : z = -1 := HZ.out.symm.trans hz1
                        clear hz1
                        by_cases hs : x.state = 3
                        · have fs : (x.state == 3) = true := by simpa using hs
                          clear hs
                          have hbf := HNO.out (fun h => by have := h.2.2.2.2.2.2.2.2.1 i x HXE.out; unfold bkOk at this; rw [HZ.out, fs] at this; cases this)
                          refine wp_region_ext (by kernel_rfl) (by kernel_rfl) ?_
                          repeat (go_big_quiet_step ((first | fail)))
                          refine wpQuiet_nil ?_
                          intro _ hw'
                          obtain ⟨gz, hw''⟩ := hw'
                          subst hw''
                          clear s1 s2 e4
                          go_wp2_with fail
                          go_ret
                          exact ⟨by rw [hbf]; rfl, HBX.out gz⟩
                        · have fs : (x.state == 3) = false := by simpa using hs
                          clear hs
                          have hok : bkOk pl x = true := by unfold bkOk; rw [HZ.out, fs]; rfl
                          refine wp_region_ext (by kernel_rfl) (by kernel_rfl) ?_
                          repeat (go_big_quiet_step ((first | fail)))
                          refine wpQuiet_nil ?_
                          intro _ hw'
                          obtain ⟨gz, hw''⟩ := hw'
                          subst hw''
                          clear s1 s2 e4
                          go_wp2_with fail
                          go_roundw
                          case rel =>
                            refine ⟨i + 1, by omega, by go_num, fun j y hj hy => ?_, HBZ.out gz⟩
                            rcases Nat.lt_or_ge j i with e | e
                            · exact HP.out j y e hy
                            · rw [show j = i by omega, HXE.out] at hy
                              injection hy with hy
                              subst hy; exact hok
                          case measure => simp [intOf]; omega
                      · obtain rfl : z = (k : Int) := HZ.out.symm.trans hz1
                        clear hz1
                        obtain ⟨p, hpk⟩ : ∃ p, pl[k]? = some p := ⟨_, List.getElem?_eq_getElem hkl⟩
                        obtain ⟨b3, o3, rfl, _, h53, h63⟩ := hp3 (by omega)
                        have g4 := (h63 k p hpk).2.2.2.2.1
                        have r4 := fun y => keep (HBX.out y) h53 g4
                        have p1 : (0 : Int) ≤ (k : Int) := by omega
                        have p2 : (k : Int) < (pl.length : Int) := by omega
                        have p3 : decide ((0 : Int) ≤ (k : Int)) = true := decide_eq_true p1
                        have HCE : Hid (camE pl (k : Int) = p.came) := by show _ = _; unfold camE; rw [Int.toNat_natCast, hpk]; rfl
                        clear hpk h63 g4
                        cases hcm : p.came with
                        | true =>
                          rw [hcm] at r4 HCE
                          clear hcm
                          by_cases hs : x.state = 3
                          · have fs : (x.state == 3) = true := by simpa using hs
                            clear hs
                            have hbf := HNO.out (fun h => by have := h.2.2.2.2.2.2.2.2.1 i x HXE.out; unfold bkOk at this; rw [HZ.out, HCE.out, p3, fs] at this; cases this)
                            refine wp_region_ext (by kernel_rfl) (by kernel_rfl) ?_
                            repeat (go_big_quiet_step ((first | fail)))
                            refine wpQuiet_nil ?_
                            intro _ hw'
                            obtain ⟨gz, hw''⟩ := hw'
                            subst hw''
                            clear s1 s2 e4 r4
                            go_wp2_with fail
                            go_ret
                            exact ⟨by rw [hbf]; rfl, HBX.out gz⟩
                          · have fs : (x.state == 3) = false := by simpa using hs
                            clear hs
                            have hok : bkOk pl x = true := by unfold bkOk; rw [HZ.out, HCE.out, p3, fs]; rfl
                            refine wp_region_ext (by kernel_rfl) (by kernel_rfl) ?_
                            repeat (go_big_quiet_step ((first | fail)))
                            refine wpQuiet_nil ?_
                            intro _ hw'
                            obtain ⟨gz, hw''⟩ := hw'
                            subst hw''
                            clear s1 s2 e4 r4
                            go_wp2_with fail
                            go_roundw
                            case rel =>
                              refine ⟨i + 1, by omega, by go_num, fun j y hj hy => ?_, HBZ.out gz⟩
                              rcases Nat.lt_or_ge j i with e | e
                              · exact HP.out j y e hy
                              · rw [show j = i by omega, HXE.out] at hy
                                injection hy with hy
                                subst hy; exact hok
                            case measure => simp [intOf]; omega
                        | false =>
                          rw [hcm] at r4 HCE
                          clear hcm
                          by_cases hs : x.state = 3
                          · have fs : (x.state == 3) = true := by simpa using hs
                            clear hs
                            have hok : bkOk pl x = true := by unfold bkOk; rw [HZ.out, HCE.out, p3, fs]; rfl
                            refine wp_region_ext (by kernel_rfl) (by kernel_rfl) ?_
                            repeat (go_big_quiet_step ((first | fail)))
                            refine wpQuiet_nil ?_
                            intro _ hw'
                            obtain ⟨gz, hw''⟩ := hw'
                            subst hw''
                            clear s1 s2 e4 r4
                            go_wp2_with fail
                            go_roundw
                            case rel =>
                              refine ⟨i + 1, by omega, by go_num, fun j y hj hy => ?_, HBZ.out gz⟩
                              rcases Nat.lt_or_ge j i with e | e
                              · exact HP.out j y e hy
                              · rw [show j = i by omega, HXE.out] at hy
                                injection hy with hy
                                subst hy; exact hok
                            case measure => simp [intOf]; omega
                          · have fs : (x.state == 3) = false := by simpa using hs
                            clear hs
                            have hbf := HNO.out (fun h => by have := h.2.2.2.2.2.2.2.2.1 i x HXE.out; unfold bkOk at this; rw [HZ.out, HCE.out, p3, fs] at this; cases this)
                            refine wp_region_ext (by kernel_rfl) (by kernel_rfl) ?_
                            repeat (go_big_quiet_step ((first | fail)))
                            refine wpQuiet_nil ?_
                            intro _ hw'
                            obtain ⟨gz, hw''⟩ := hw'
                            subst hw''
                            clear s1 s2 e4 r4
                            go_wp2_with fail
                            go_ret
                            exact ⟨by rw [hbf]; rfl, HBX.out gz⟩
                    · obtain rfl : i = kl.length := by omega
                      have HPK : Hid (∀ (j : Nat) (y : Ey), kl[j]? = some y → bkOk pl y = true) := fun j y hy => HP.out j y (List.getElem?_eq_some_iff.1 hy).1 hy
                      have hB10 := HB.out
                      have HB10 := Lib.hid (below2 HB8.out HB.out)
                      have HS10 := Lib.hid hS
                      obtain ⟨wo, rfl⟩ : ∃ wo : World, wo = wr := ⟨_, rfl⟩
                      clear HB HP hS hB10 hlt
                      go_wp2_with fail
                      go_loopw [7] (fun i' wr => ∃ i : Nat, i ≤ pl.length ∧ i' = .int .i64 i ∧ Hid (∀ (j : Nat) (y : Pe), j < i → pl[j]? = some y → pkOk kl y = true) ∧ Hid (Below wo.heap.size wo wr)) (fun i' _ => pl.length - (intOf i').toNat)
                      case atStart => exact ⟨0, by omega, rfl, fun j y hj => absurd hj (Nat.not_lt_zero _), Below.refl _ _⟩
                      case round =>
                        obtain ⟨i, hi, rfl, HP, HB⟩ := hrel
                        have hS := HS10.out.below HB.out
                        have t2 := hS.cell (i := 2) rfl
                        have HBW := Lib.hid (below2 HB10.out HB.out)
                        by_cases hlt : i < pl.length
                        · obtain ⟨x, hx⟩ : ∃ x, pl[i]? = some x := ⟨_, List.getElem?_eq_getElem hlt⟩
                          obtain ⟨b3, o3, rfl, _, h53, h63⟩ := hp3 (by omega)
                          obtain ⟨g0, g1, g2, g3, g4, _⟩ := h63 i x hx
                          have HBX := Lib.hid (fun y => HBW.out.trans ((ext_below wr y).mono HBW.out.size))
                          have HBZ := Lib.hid (fun y => HB.out.trans ((ext_below wr y).mono HB.out.size))
                          have e0 := fun y => keep (HBX.out y) h53 g0; have e1 := fun y => keep (HBX.out y) h53 g1; have e2 := fun y => keep (HBX.out y) h53 g2; have e3 := fun y => keep (HBX.out y) h53 g3; have e4 := fun y => keep (HBX.out y) h53 g4
                          have s1 := fun y => (hS.below (ext_below wr y)).cell (i := 1) rfl
                          have s2 := fun y => (hS.below (ext_below wr y)).cell (i := 2) rfl
                          have q1 : (0 : Int) ≤ (i : Int) := by omega
                          have q2 : (i : Int) < (pl.length : Int) := by omega
                          have HXE := Lib.hid hx
                          have HFE := Lib.hid (HFD.out x.en)
                          obtain ⟨z, hz⟩ : ∃ z, z = fdE kl x.en := ⟨_, rfl⟩
                          rw [← hz] at HFE
                          have HZ := Lib.hid hz.symm
                          clear hx h63 g0 g1 g2 g3 g4 hz hS
                          cases hcm : x.came with
                          | true =>
                            have hok : pkOk kl x = true := by unfold pkOk; rw [hcm, Bool.true_or]
                            rw [hcm] at e4
                            clear hcm
                            go_wp2_with fail
                            refine wp_region_ext (by kernel_rfl) (by kernel_rfl) ?_
                            repeat (go_big_quiet_step ((first | (go_at_call 63; with_reducible exact qe (HFE.out _ (HBX.out _))))))
                            refine wpQuiet_nil ?_
                            intro _ hw'
                            obtain ⟨gz, hw''⟩ := hw'
                            subst hw''
                            clear e0 e1 e2 e3 e4 s1 s2 t2
                            go_wp2_with fail
                            go_roundw
                            case rel =>
                              refine ⟨i + 1, by omega, by go_num, fun j y hj hy => ?_, HBZ.out gz⟩
                              rcases Nat.lt_or_ge j i with e | e
                              · exact HP.out j y e hy
                              · rw [show j = i by omega, HXE.out] at hy
                                injection hy with hy
                                subst hy; exact hok
                            case measure => simp [intOf]; omega
                          | false =>
                            rw [hcm] at e4
                            by_cases hz0 : z < 0
                            · have f0 : decide (z < 0) = true := decide_eq_true hz0
                              have hbf := HNO.out (fun h => by have := h.2.2.2.2.2.2.2.2.2 i x HXE.out; unfold pkOk at this; rw [HZ.out, hcm, decide_eq_false (by omega)] at this; cases this)
                              clear hcm hz0
                              go_wp2_with fail
                              refine wp_region_ext (by kernel_rfl) (by kernel_rfl) ?_
                              repeat (go_big_quiet_step ((first | (go_at_call 63; with_reducible exact qe (HFE.out _ (HBX.out _))))))
                              refine wpQuiet_nil ?_
                              intro _ hw'
                              obtain ⟨gz, hw''⟩ := hw'
                              subst hw''
                              clear e0 e1 e2 e3 e4 s1 s2 t2
                              go_wp2_with fail
                              go_ret
                              exact ⟨by rw [hbf]; rfl, HBX.out gz⟩
                            · have f0 : decide (z < 0) = false := decide_eq_false hz0
                              have hok : pkOk kl x = true := by unfold pkOk; rw [HZ.out, hcm, decide_eq_true (by omega), Bool.or_true]
                              clear hcm hz0
                              go_wp2_with fail
                              refine wp_region_ext (by kernel_rfl) (by kernel_rfl) ?_
                              repeat (go_big_quiet_step ((first | (go_at_call 63; with_reducible exact qe (HFE.out _ (HBX.out _))))))
                              refine wpQuiet_nil ?_
                              intro _ hw'
                              obtain ⟨gz, hw''⟩ := hw'
                              subst hw''
                              clear e0 e1 e2 e3 e4 s1 s2 t2
                              go_wp2_with fail
                              go_roundw
                              case rel =>
                                refine ⟨i + 1, by omega, by go_num, fun j y hj hy => ?_, HBZ.out gz⟩
                                rcases Nat.lt_or_ge j i with e | e
                                · exact HP.out j y e hy
                                · rw [show j = i by omega, HXE.out] at hy
                                  injection hy with hy
                                  subst hy; exact hok
                              case measure => simp [intOf]; omega
                        · obtain rfl : i = pl.length := by omega
                          have hbt : b = true := HBB.out.2 ⟨HC.out.1, HC.out.2.1, HC.out.2.2.1, HC.out.2.2.2, HD.out.1, HD.out.2.1, HD.out.2.2.1, HD.out.2.2.2, HPK.out, fun j y hy => HP.out j y (List.getElem?_eq_some_iff.1 hy).1 hy⟩
                          clear hS
                          go_wp2_with fail
                          go_ret
                          exact ⟨by rw [hbt]; rfl, HBW.out⟩
                · have f3 : decide (c.mo < ((cntL false pl : Int) + (cntE 2 kl : Int))) = true := decide_eq_true (by omega)
                  have hbf := HNO.out (fun h => d3 h.2.2.2.2.2.2.2.1)
                  clear d0 d1 d2 d3 hk3 hp3
                  refine wp_region_ext (by kernel_rfl) (by kernel_rfl) ?_
                  repeat (go_big_quiet_step ((first | (go_at_call 34; with_reducible exact qe (HCT.out _ (HX.out _))) | (go_at_call 24; with_reducible exact qe (HDI.out _ (HX.out _))))))
                  refine wpQuiet_nil ?_
                  intro _ hw'
                  obtain ⟨gx, hw''⟩ := hw'
                  subst hw''
                  clear q0 q1 q3 q4 s0 s1 s2
                  go_wp2_with fail
                  go_ret
                  exact ⟨by rw [hbf]; rfl, HX.out gx⟩
              · have f2 : decide (c.mi < (cntL true pl : Int)) = true := decide_eq_true (by omega)
                have hbf := HNO.out (fun h => d2 h.2.2.2.2.2.2.1)
                clear d0 d1 d2 hk3 hp3
                refine wp_region_ext (by kernel_rfl) (by kernel_rfl) ?_
                repeat (go_big_quiet_step ((first | (go_at_call 34; with_reducible exact qe (HCT.out _ (HX.out _))) | (go_at_call 24; with_reducible exact qe (HDI.out _ (HX.out _))))))
                refine wpQuiet_nil ?_
                intro _ hw'
                obtain ⟨gx, hw''⟩ := hw'
                subst hw''
                clear q0 q1 q3 q4 s0 s1 s2
                go_wp2_with fail
                go_ret
                exact ⟨by rw [hbf]; rfl, HX.out gx⟩
            · have f1 : decide (c.mbk < (kl.length : Int)) = true := decide_eq_true (by omega)
              have hbf := HNO.out (fun h => d1 h.2.2.2.2.2.1)
              clear d0 d1 hk3 hp3
              refine wp_region_ext (by kernel_rfl) (by kernel_rfl) ?_
              repeat (go_big_quiet_step ((first | (go_at_call 34; with_reducible exact qe (HCT.out _ (HX.out _))) | (go_at_call 24; with_reducible exact qe (HDI.out _ (HX.out _))))))
              refine wpQuiet_nil ?_
              intro _ hw'
              obtain ⟨gx, hw''⟩ := hw'
              subst hw''
              clear q0 q1 q3 q4 s0 s1 s2
              go_wp2_with fail
              go_ret
              exact ⟨by rw [hbf]; rfl, HX.out gx⟩
          · have f0 : decide (c.mb < (bl.length : Int)) = true := decide_eq_true (by omega)
            have hbf := HNO.out (fun h => d0 h.2.2.2.2.1)
            clear d0 hk3 hp3
            refine wp_region_ext (by kernel_rfl) (by kernel_rfl) ?_
            repeat (go_big_quiet_step ((first | (go_at_call 34; with_reducible exact qe (HCT.out _ (HX.out _))) | (go_at_call 24; with_reducible exact qe (HDI.out _ (HX.out _))))))
            refine wpQuiet_nil ?_
            intro _ hw'
            obtain ⟨gx, hw''⟩ := hw'
            subst hw''
            clear q0 q1 q3 q4 s0 s1 s2
            go_wp2_with fail
            go_ret
            exact ⟨by rw [hbf]; rfl, HX.out gx⟩
    · have hbf := HNO.out (fun h => hc1 h.2.1)
      have H13 := Lib.hid (H13n.out hc1)
      clear hc0 hc1 H13y H13n hk3 hp3
      go_enter Tryz.func23, Tryz.ntmps23
      go_upto_region 1 with fail
      obtain ⟨W3, hW3⟩ : ∃ W3, W3 = (w.alloc (.cells #[.int .i64 c.mi, .int .i64 c.mo, .int .i64 c.sh, .int .i64 c.mb, .int .i64 c.mbk, .int .u64 c.secret, .int .i64 c.qg, .int .i64 c.qp, .int .i64 c.qw, .int .i64 c.qt, .int .i64 c.half, .int .i64 c.limit, .int .i64 c.banfor, .int .i64 c.base, .int .i64 c.cap, .int .i64 c.jitter] 26)).alloc (.cells #[.slice a1 bl.length c1, .slice a2 kl.length c2, .slice a3 pl.length c3] 31) := ⟨_, rfl⟩
      rw [← hW3]
      have B3 : Below w.heap.size w W3 := by subst hW3; exact bel
      have hBc : BlockIs W3 w.heap.size [.int .i64 c.mi, .int .i64 c.mo, .int .i64 c.sh, .int .i64 c.mb, .int .i64 c.mbk, .int .u64 c.secret, .int .i64 c.qg, .int .i64 c.qp, .int .i64 c.qw, .int .i64 c.qt, .int .i64 c.half, .int .i64 c.limit, .int .i64 c.banfor, .int .i64 c.base, .int .i64 c.cap, .int .i64 c.jitter] 26 := by subst hW3; exact (BlockIs.new w [.int .i64 c.mi, .int .i64 c.mo, .int .i64 c.sh, .int .i64 c.mb, .int .i64 c.mbk, .int .u64 c.secret, .int .i64 c.qg, .int .i64 c.qp, .int .i64 c.qw, .int .i64 c.qt, .int .i64 c.half, .int .i64 c.limit, .int .i64 c.banfor, .int .i64 c.base, .int .i64 c.cap, .int .i64 c.jitter] _).alloc' _
      have hBs : BlockIs W3 (w.heap.size + 1) [.slice a1 bl.length c1, .slice a2 kl.length c2, .slice a3 pl.length c3] 31 := by subst hW3; exact BlockIs.newAt' _ [.slice a1 bl.length c1, .slice a2 kl.length c2, .slice a3 pl.length c3] _ (by simp)
      clear hW3
      go_wp2_with (first
        | (refine list_load_blk rfl 26 _ rfl w.heap.size [.int .i64 c.mi, .int .i64 c.mo, .int .i64 c.sh, .int .i64 c.mb, .int .i64 c.mbk, .int .u64 c.secret, .int .i64 c.qg, .int .i64 c.qp, .int .i64 c.qw, .int .i64 c.qt, .int .i64 c.half, .int .i64 c.limit, .int .i64 c.banfor, .int .i64 c.base, .int .i64 c.cap, .int .i64 c.jitter] 26 hBc rfl Tryz.underlying26 (by kernel_rfl) ?_)
        | (go_at_call 7; (with_reducible refine (H29.out _).mono ?_); rintro e w4 ⟨rfl, b4⟩; have B4 := below2 B3 b4; have hBc4 := hBc.below b4; have hBs4 := hBs.below b4; have t4 := hBs4.cell (i := 0) rfl)
        | (go_at_call 59; (with_reducible refine (H13.out _ B4).mono ?_); rintro e w5 ⟨rfl, b5⟩; have B5 := below2 B4 b5; have hBc5 := hBc4.below b5; have hBs5 := hBs4.below b5; have t5 := hBs5.cell (i := 1) rfl))
      go_ret
      exact ⟨by rw [hbf]; rfl, B5⟩
end Go.Proofs.YtnplgagaoeckoaaGreat
namespace Go.Proofs.YtnplgagaoeckoaaGreat
open Go.RowKit Go.Lib

section
variable {P : Program} {ops : Array Oper} {rest : List Oper} {o : Oper} {a : Act} {w : World} {Q : Exit → Act → World → Prop}
/-- a load that its guard passes over -/
theorem list_skip_ld (ty : TypeId) (x : Operand) (ho : o.op = .load ty x) (hw : Region.wanted o (yielded ops a.tmps) = false) (h : wpList P ops Q rest (a.put o.dst undef) w) : wpList P ops Q (o :: rest) a w :=
  wpList_step fun K hK => by rw [if_neg (by rw [hw]; decide)]; exact hK _ _ h
end
end Go.Proofs.YtnplgagaoeckoaaGreat
namespace Go.Proofs.YtnplgagaoeckoaaGreat
open Go.RowKit Go.Lib

theorem stb (c : Cf) (bl : List Ba) (kl : List Ey) (pl : List Pe) : ∃ b : Bool, (b = true ↔ StRight c bl kl pl) := by classical exact ⟨decide (StRight c bl kl pl), decide_eq_true_iff⟩
set_option maxRecDepth 100000 in
set_option maxHeartbeats 16000000 in
theorem memState_no (c : Cf) (hsec : c.secret < 18446744073709551616) (vb vk vp : Value) (bl : List Ba) (kl : List Ey) (pl : List Pe) (v : Vm) (w : World) (hb : ReadsL baV 5 w vb bl) (hk : ReadsL eyV 7 w vk kl) (hp : ReadsL peV 10 w vp pl) (hv : VmAt w v)
    (hfb : ∀ x ∈ bl, x.nt.ad.fits) (hfk : ∀ x ∈ kl, x.en.ad.fits) (hfp : ∀ p ∈ pl, p.en.ad.fits) (hno : ¬ (bl.length ≤ 20 ∧ kl.length ≤ 20 ∧ pl.length ≤ 20 ∧ StRight c bl kl pl ∧ v.bans.2.length ≤ 20 ∧ v.book.2.length ≤ 20)) :
    Calls Tryz.prog 4 #[.agg #[.int .i64 c.mi, .int .i64 c.mo, .int .i64 c.sh, .int .i64 c.mb, .int .i64 c.mbk, .int .u64 c.secret, .int .i64 c.qg, .int .i64 c.qp, .int .i64 c.qw, .int .i64 c.qt, .int .i64 c.half, .int .i64 c.limit, .int .i64 c.banfor, .int .i64 c.base, .int .i64 c.cap, .int .i64 c.jitter], .agg #[vb, vk, vp], .agg #[.int .i64 v.n, .bool v.pe.en.ad.v6, .int .u64 v.pe.en.ad.hi, .int .u64 v.pe.en.ad.lo, .int .i64 v.pe.en.port, .bool v.pe.came, .int .i64 v.pe.since, .int .i64 v.pe.pts, .int .i64 v.pe.at_, .int .i64 v.pe.ping, .int .i64 v.pe.work, v.bans.1, v.book.1]] w fun e w' => e = .returned (.bool true) ∧ Below w.heap.size w w' := by
  have HSM := Lib.hid (fun (W : World) (hB : Below w.heap.size w W) => small37_any vb vk vp bl kl pl W (ReadsL.below hb hB) (ReadsL.below hk hB) (ReadsL.below hp hB))
  by_cases hsm : bl.length ≤ 20 ∧ kl.length ≤ 20 ∧ pl.length ≤ 20
  · obtain ⟨b, hbb⟩ := stb c bl kl pl
    have HRT := Lib.hid (fun (W : World) (hB : Below w.heap.size w W) => stRight_any c vb vk vp bl kl pl b hbb W (ReadsL.below hb hB) (ReadsL.below hk hB) (ReadsL.below hp hB) hfb hfk hfp (by omega) (by omega))
    rw [decide_eq_true hsm.1, decide_eq_true hsm.2.1, decide_eq_true hsm.2.2] at HSM
    simp only [Bool.and_self] at HSM
    cases hbv : b with
    | false =>
      rw [hbv] at HRT
      clear hbv hbb hno hsm
      obtain ⟨_, a1, c1, rfl, _⟩ := ba_open hb
      obtain ⟨_, a2, c2, rfl, _⟩ := ey_open hk
      obtain ⟨_, a3, c3, rfl, _⟩ := pes_open hp
      obtain ⟨_, a4, c4, ev1, _⟩ := ba_open hv.1
      obtain ⟨_, a5, c5, ev2, _⟩ := ey_open hv.2
      rw [ev1, ev2]
      clear hb hk hp hv hfb hfk hfp ev1 ev2 hsec
      go_enter Tryz.func4, Tryz.ntmps4
      go_upto_region 1 with fail
      obtain ⟨W3, hW3⟩ : ∃ W3, W3 = ((w.alloc (.cells #[.int .i64 c.mi, .int .i64 c.mo, .int .i64 c.sh, .int .i64 c.mb, .int .i64 c.mbk, .int .u64 c.secret, .int .i64 c.qg, .int .i64 c.qp, .int .i64 c.qw, .int .i64 c.qt, .int .i64 c.half, .int .i64 c.limit, .int .i64 c.banfor, .int .i64 c.base, .int .i64 c.cap, .int .i64 c.jitter] 26)).alloc (.cells #[.slice a1 bl.length c1, .slice a2 kl.length c2, .slice a3 pl.length c3] 31)).alloc (.cells #[.int .i64 v.n, .bool v.pe.en.ad.v6, .int .u64 v.pe.en.ad.hi, .int .u64 v.pe.en.ad.lo, .int .i64 v.pe.en.port, .bool v.pe.came, .int .i64 v.pe.since, .int .i64 v.pe.pts, .int .i64 v.pe.at_, .int .i64 v.pe.ping, .int .i64 v.pe.work, .slice a4 v.bans.2.length c4, .slice a5 v.book.2.length c5] 54) := ⟨_, rfl⟩
      rw [← hW3]
      have B3 : Below w.heap.size w W3 := by subst hW3; exact bel
      have hBc : BlockIs W3 w.heap.size [.int .i64 c.mi, .int .i64 c.mo, .int .i64 c.sh, .int .i64 c.mb, .int .i64 c.mbk, .int .u64 c.secret, .int .i64 c.qg, .int .i64 c.qp, .int .i64 c.qw, .int .i64 c.qt, .int .i64 c.half, .int .i64 c.limit, .int .i64 c.banfor, .int .i64 c.base, .int .i64 c.cap, .int .i64 c.jitter] 26 := by subst hW3; exact ((BlockIs.new w [.int .i64 c.mi, .int .i64 c.mo, .int .i64 c.sh, .int .i64 c.mb, .int .i64 c.mbk, .int .u64 c.secret, .int .i64 c.qg, .int .i64 c.qp, .int .i64 c.qw, .int .i64 c.qt, .int .i64 c.half, .int .i64 c.limit, .int .i64 c.banfor, .int .i64 c.base, .int .i64 c.cap, .int .i64 c.jitter] _).alloc' _).alloc' _
      have hBs : BlockIs W3 (w.heap.size + 1) [.slice a1 bl.length c1, .slice a2 kl.length c2, .slice a3 pl.length c3] 31 := by subst hW3; exact (BlockIs.newAt' _ [.slice a1 bl.length c1, .slice a2 kl.length c2, .slice a3 pl.length c3] _ (by simp)).alloc' _
      have hBv : BlockIs W3 (w.heap.size + 1 + 1) [.int .i64 v.n, .bool v.pe.en.ad.v6, .int .u64 v.pe.en.ad.hi, .int .u64 v.pe.en.ad.lo, .int .i64 v.pe.en.port, .bool v.pe.came, .int .i64 v.pe.since, .int .i64 v.pe.pts, .int .i64 v.pe.at_, .int .i64 v.pe.ping, .int .i64 v.pe.work, .slice a4 v.bans.2.length c4, .slice a5 v.book.2.length c5] 54 := by subst hW3; exact BlockIs.newAt' _ [.int .i64 v.n, .bool v.pe.en.ad.v6, .int .u64 v.pe.en.ad.hi, .int .u64 v.pe.en.ad.lo, .int .i64 v.pe.en.port, .bool v.pe.came, .int .i64 v.pe.since, .int .i64 v.pe.pts, .int .i64 v.pe.at_, .int .i64 v.pe.ping, .int .i64 v.pe.work, .slice a4 v.bans.2.length c4, .slice a5 v.book.2.length c5] _ (by simp)
      clear hW3
      have s0 := hBs.cell (i := 0) rfl; have s1 := hBs.cell (i := 1) rfl; have s2 := hBs.cell (i := 2) rfl
      go_wp2_with (first
        | (go_at_call 6; (with_reducible refine (HSM.out _ B3).mono ?_); rintro e w4 ⟨rfl, b4⟩; have B4 := below2 B3 b4; have hBc4 := hBc.below b4; have hBs4 := hBs.below b4; have hBv4 := hBv.below b4; clear s0 s1 s2; have s0 := hBs4.cell (i := 0) rfl; have s1 := hBs4.cell (i := 1) rfl; have s2 := hBs4.cell (i := 2) rfl)
        | (refine list_load_blk_w (by rfl) 26 _ rfl w.heap.size [.int .i64 c.mi, .int .i64 c.mo, .int .i64 c.sh, .int .i64 c.mb, .int .i64 c.mbk, .int .u64 c.secret, .int .i64 c.qg, .int .i64 c.qp, .int .i64 c.qw, .int .i64 c.qt, .int .i64 c.half, .int .i64 c.limit, .int .i64 c.banfor, .int .i64 c.base, .int .i64 c.cap, .int .i64 c.jitter] 26 hBc4 rfl Tryz.underlying26 (by kernel_rfl) ?_)
        | (go_at_call 23; (with_reducible refine (HRT.out _ B4).mono ?_); rintro e w5 ⟨rfl, b5⟩; have B5 := below2 B4 b5; have hBc5 := hBc4.below b5; have hBs5 := hBs4.below b5; have hBv5 := hBv4.below b5; clear s0 s1 s2; have s0 := hBs5.cell (i := 0) rfl; have s1 := hBs5.cell (i := 1) rfl; have s2 := hBs5.cell (i := 2) rfl; have v11 := hBv5.cell (i := 11) rfl; have v12 := hBv5.cell (i := 12) rfl)
        | (go_at_call 8; (with_reducible refine (awake37_any _).mono ?_); rintro e w9 ⟨rfl, b9⟩; have B9 := below2 B5 b9))
      go_ret
      exact ⟨rfl, B9⟩
    | true =>
      have hrt := hbb.1 hbv
      rw [hbv] at HRT
      have hno2 : ¬ (v.bans.2.length ≤ 20 ∧ v.book.2.length ≤ 20) := fun h => hno ⟨hsm.1, hsm.2.1, hsm.2.2, hrt, h.1, h.2⟩
      clear hbv hbb hno hsm hrt
      obtain ⟨_, a1, c1, rfl, _⟩ := ba_open hb
      obtain ⟨_, a2, c2, rfl, _⟩ := ey_open hk
      obtain ⟨_, a3, c3, rfl, _⟩ := pes_open hp
      obtain ⟨_, a4, c4, ev1, _⟩ := ba_open hv.1
      obtain ⟨_, a5, c5, ev2, _⟩ := ey_open hv.2
      rw [ev1, ev2]
      generalize v.bans.2.length = m1 at *; generalize v.book.2.length = m2 at *
      clear hb hk hp hv hfb hfk hfp ev1 ev2 hsec
      rcases Nat.lt_or_ge 20 m1 with h1 | h1
      · have f1 : decide ((20 : Int) < (m1 : Int)) = true := decide_eq_true (by omega)
        have f1' : decide (20 < m1) = true := decide_eq_true h1
        clear hno2
        go_enter Tryz.func4, Tryz.ntmps4
        go_upto_region 1 with fail
        obtain ⟨W3, hW3⟩ : ∃ W3, W3 = ((w.alloc (.cells #[.int .i64 c.mi, .int .i64 c.mo, .int .i64 c.sh, .int .i64 c.mb, .int .i64 c.mbk, .int .u64 c.secret, .int .i64 c.qg, .int .i64 c.qp, .int .i64 c.qw, .int .i64 c.qt, .int .i64 c.half, .int .i64 c.limit, .int .i64 c.banfor, .int .i64 c.base, .int .i64 c.cap, .int .i64 c.jitter] 26)).alloc (.cells #[.slice a1 bl.length c1, .slice a2 kl.length c2, .slice a3 pl.length c3] 31)).alloc (.cells #[.int .i64 v.n, .bool v.pe.en.ad.v6, .int .u64 v.pe.en.ad.hi, .int .u64 v.pe.en.ad.lo, .int .i64 v.pe.en.port, .bool v.pe.came, .int .i64 v.pe.since, .int .i64 v.pe.pts, .int .i64 v.pe.at_, .int .i64 v.pe.ping, .int .i64 v.pe.work, .slice a4 m1 c4, .slice a5 m2 c5] 54) := ⟨_, rfl⟩
        rw [← hW3]
        have B3 : Below w.heap.size w W3 := by subst hW3; exact bel
        have hBc : BlockIs W3 w.heap.size [.int .i64 c.mi, .int .i64 c.mo, .int .i64 c.sh, .int .i64 c.mb, .int .i64 c.mbk, .int .u64 c.secret, .int .i64 c.qg, .int .i64 c.qp, .int .i64 c.qw, .int .i64 c.qt, .int .i64 c.half, .int .i64 c.limit, .int .i64 c.banfor, .int .i64 c.base, .int .i64 c.cap, .int .i64 c.jitter] 26 := by subst hW3; exact ((BlockIs.new w [.int .i64 c.mi, .int .i64 c.mo, .int .i64 c.sh, .int .i64 c.mb, .int .i64 c.mbk, .int .u64 c.secret, .int .i64 c.qg, .int .i64 c.qp, .int .i64 c.qw, .int .i64 c.qt, .int .i64 c.half, .int .i64 c.limit, .int .i64 c.banfor, .int .i64 c.base, .int .i64 c.cap, .int .i64 c.jitter] _).alloc' _).alloc' _
        have hBs : BlockIs W3 (w.heap.size + 1) [.slice a1 bl.length c1, .slice a2 kl.length c2, .slice a3 pl.length c3] 31 := by subst hW3; exact (BlockIs.newAt' _ [.slice a1 bl.length c1, .slice a2 kl.length c2, .slice a3 pl.length c3] _ (by simp)).alloc' _
        have hBv : BlockIs W3 (w.heap.size + 1 + 1) [.int .i64 v.n, .bool v.pe.en.ad.v6, .int .u64 v.pe.en.ad.hi, .int .u64 v.pe.en.ad.lo, .int .i64 v.pe.en.port, .bool v.pe.came, .int .i64 v.pe.since, .int .i64 v.pe.pts, .int .i64 v.pe.at_, .int .i64 v.pe.ping, .int .i64 v.pe.work, .slice a4 m1 c4, .slice a5 m2 c5] 54 := by subst hW3; exact BlockIs.newAt' _ [.int .i64 v.n, .bool v.pe.en.ad.v6, .int .u64 v.pe.en.ad.hi, .int .u64 v.pe.en.ad.lo, .int .i64 v.pe.en.port, .bool v.pe.came, .int .i64 v.pe.since, .int .i64 v.pe.pts, .int .i64 v.pe.at_, .int .i64 v.pe.ping, .int .i64 v.pe.work, .slice a4 m1 c4, .slice a5 m2 c5] _ (by simp)
        clear hW3
        have s0 := hBs.cell (i := 0) rfl; have s1 := hBs.cell (i := 1) rfl; have s2 := hBs.cell (i := 2) rfl
        go_wp2_with (first
          | (go_at_call 6; (with_reducible refine (HSM.out _ B3).mono ?_); rintro e w4 ⟨rfl, b4⟩; have B4 := below2 B3 b4; have hBc4 := hBc.below b4; have hBs4 := hBs.below b4; have hBv4 := hBv.below b4; clear s0 s1 s2; have s0 := hBs4.cell (i := 0) rfl; have s1 := hBs4.cell (i := 1) rfl; have s2 := hBs4.cell (i := 2) rfl)
          | (refine list_load_blk_w (by rfl) 26 _ rfl w.heap.size [.int .i64 c.mi, .int .i64 c.mo, .int .i64 c.sh, .int .i64 c.mb, .int .i64 c.mbk, .int .u64 c.secret, .int .i64 c.qg, .int .i64 c.qp, .int .i64 c.qw, .int .i64 c.qt, .int .i64 c.half, .int .i64 c.limit, .int .i64 c.banfor, .int .i64 c.base, .int .i64 c.cap, .int .i64 c.jitter] 26 hBc4 rfl Tryz.underlying26 (by kernel_rfl) ?_)
          | (go_at_call 23; (with_reducible refine (HRT.out _ B4).mono ?_); rintro e w5 ⟨rfl, b5⟩; have B5 := below2 B4 b5; have hBc5 := hBc4.below b5; have hBs5 := hBs4.below b5; have hBv5 := hBv4.below b5; clear s0 s1 s2; have s0 := hBs5.cell (i := 0) rfl; have s1 := hBs5.cell (i := 1) rfl; have s2 := hBs5.cell (i := 2) rfl; have v11 := hBv5.cell (i := 11) rfl; have v12 := hBv5.cell (i := 12) rfl)
          | (go_at_call 8; (with_reducible refine (awake37_any _).mono ?_); rintro e w9 ⟨rfl, b9⟩; have B9 := below2 B5 b9))
        go_ret
        exact ⟨rfl, B9⟩
      · have f1 : decide ((20 : Int) < (m1 : Int)) = false := decide_eq_false (by omega)
        have f1' : decide (20 < m1) = false := decide_eq_false (by omega)
        have h2 : 20 < m2 := by omega
        have f2 : decide ((20 : Int) < (m2 : Int)) = true := decide_eq_true (by omega)
        have f2' : decide (20 < m2) = true := decide_eq_true h2
        clear hno2
        go_enter Tryz.func4, Tryz.ntmps4
        go_upto_region 1 with fail
        obtain ⟨W3, hW3⟩ : ∃ W3, W3 = ((w.alloc (.cells #[.int .i64 c.mi, .int .i64 c.mo, .int .i64 c.sh, .int .i64 c.mb, .int .i64 c.mbk, .int .u64 c.secret, .int .i64 c.qg, .int .i64 c.qp, .int .i64 c.qw, .int .i64 c.qt, .int .i64 c.half, .int .i64 c.limit, .int .i64 c.banfor, .int .i64 c.base, .int .i64 c.cap, .int .i64 c.jitter] 26)).alloc (.cells #[.slice a1 bl.length c1, .slice a2 kl.length c2, .slice a3 pl.length c3] 31)).alloc (.cells #[.int .i64 v.n, .bool v.pe.en.ad.v6, .int .u64 v.pe.en.ad.hi, .int .u64 v.pe.en.ad.lo, .int .i64 v.pe.en.port, .bool v.pe.came, .int .i64 v.pe.since, .int .i64 v.pe.pts, .int .i64 v.pe.at_, .int .i64 v.pe.ping, .int .i64 v.pe.work, .slice a4 m1 c4, .slice a5 m2 c5] 54) := ⟨_, rfl⟩
        rw [← hW3]
        have B3 : Below w.heap.size w W3 := by subst hW3; exact bel
        have hBc : BlockIs W3 w.heap.size [.int .i64 c.mi, .int .i64 c.mo, .int .i64 c.sh, .int .i64 c.mb, .int .i64 c.mbk, .int .u64 c.secret, .int .i64 c.qg, .int .i64 c.qp, .int .i64 c.qw, .int .i64 c.qt, .int .i64 c.half, .int .i64 c.limit, .int .i64 c.banfor, .int .i64 c.base, .int .i64 c.cap, .int .i64 c.jitter] 26 := by subst hW3; exact ((BlockIs.new w [.int .i64 c.mi, .int .i64 c.mo, .int .i64 c.sh, .int .i64 c.mb, .int .i64 c.mbk, .int .u64 c.secret, .int .i64 c.qg, .int .i64 c.qp, .int .i64 c.qw, .int .i64 c.qt, .int .i64 c.half, .int .i64 c.limit, .int .i64 c.banfor, .int .i64 c.base, .int .i64 c.cap, .int .i64 c.jitter] _).alloc' _).alloc' _
        have hBs : BlockIs W3 (w.heap.size + 1) [.slice a1 bl.length c1, .slice a2 kl.length c2, .slice a3 pl.length c3] 31 := by subst hW3; exact (BlockIs.newAt' _ [.slice a1 bl.length c1, .slice a2 kl.length c2, .slice a3 pl.length c3] _ (by simp)).alloc' _
        have hBv : BlockIs W3 (w.heap.size + 1 + 1) [.int .i64 v.n, .bool v.pe.en.ad.v6, .int .u64 v.pe.en.ad.hi, .int .u64 v.pe.en.ad.lo, .int .i64 v.pe.en.port, .bool v.pe.came, .int .i64 v.pe.since, .int .i64 v.pe.pts, .int .i64 v.pe.at_, .int .i64 v.pe.ping, .int .i64 v.pe.work, .slice a4 m1 c4, .slice a5 m2 c5] 54 := by subst hW3; exact BlockIs.newAt' _ [.int .i64 v.n, .bool v.pe.en.ad.v6, .int .u64 v.pe.en.ad.hi, .int .u64 v.pe.en.ad.lo, .int .i64 v.pe.en.port, .bool v.pe.came, .int .i64 v.pe.since, .int .i64 v.pe.pts, .int .i64 v.pe.at_, .int .i64 v.pe.ping, .int .i64 v.pe.work, .slice a4 m1 c4, .slice a5 m2 c5] _ (by simp)
        clear hW3
        have s0 := hBs.cell (i := 0) rfl; have s1 := hBs.cell (i := 1) rfl; have s2 := hBs.cell (i := 2) rfl
        go_wp2_with (first
          | (go_at_call 6; (with_reducible refine (HSM.out _ B3).mono ?_); rintro e w4 ⟨rfl, b4⟩; have B4 := below2 B3 b4; have hBc4 := hBc.below b4; have hBs4 := hBs.below b4; have hBv4 := hBv.below b4; clear s0 s1 s2; have s0 := hBs4.cell (i := 0) rfl; have s1 := hBs4.cell (i := 1) rfl; have s2 := hBs4.cell (i := 2) rfl)
          | (refine list_load_blk_w (by rfl) 26 _ rfl w.heap.size [.int .i64 c.mi, .int .i64 c.mo, .int .i64 c.sh, .int .i64 c.mb, .int .i64 c.mbk, .int .u64 c.secret, .int .i64 c.qg, .int .i64 c.qp, .int .i64 c.qw, .int .i64 c.qt, .int .i64 c.half, .int .i64 c.limit, .int .i64 c.banfor, .int .i64 c.base, .int .i64 c.cap, .int .i64 c.jitter] 26 hBc4 rfl Tryz.underlying26 (by kernel_rfl) ?_)
          | (go_at_call 23; (with_reducible refine (HRT.out _ B4).mono ?_); rintro e w5 ⟨rfl, b5⟩; have B5 := below2 B4 b5; have hBc5 := hBc4.below b5; have hBs5 := hBs4.below b5; have hBv5 := hBv4.below b5; clear s0 s1 s2; have s0 := hBs5.cell (i := 0) rfl; have s1 := hBs5.cell (i := 1) rfl; have s2 := hBs5.cell (i := 2) rfl; have v11 := hBv5.cell (i := 11) rfl; have v12 := hBv5.cell (i := 12) rfl)
          | (go_at_call 8; (with_reducible refine (awake37_any _).mono ?_); rintro e w9 ⟨rfl, b9⟩; have B9 := below2 B5 b9))
        go_ret
        exact ⟨rfl, B9⟩
  · have hsf : (decide (bl.length ≤ 20) && (decide (kl.length ≤ 20) && decide (pl.length ≤ 20))) = false := by
      rw [Bool.and_eq_false_iff, Bool.and_eq_false_iff]
      by_cases h1 : bl.length ≤ 20
      · by_cases h2 : kl.length ≤ 20
        · right; right; exact decide_eq_false fun h3 => hsm ⟨h1, h2, h3⟩
        · right; left; exact decide_eq_false h2
      · left; exact decide_eq_false h1
    rw [hsf] at HSM
    clear hsf hsm hno
    obtain ⟨_, a1, c1, rfl, _⟩ := ba_open hb
    obtain ⟨_, a2, c2, rfl, _⟩ := ey_open hk
    obtain ⟨_, a3, c3, rfl, _⟩ := pes_open hp
    obtain ⟨_, a4, c4, ev1, _⟩ := ba_open hv.1
    obtain ⟨_, a5, c5, ev2, _⟩ := ey_open hv.2
    rw [ev1, ev2]
    clear hb hk hp hv hfb hfk hfp ev1 ev2 hsec
    go_enter Tryz.func4, Tryz.ntmps4
    go_upto_region 1 with fail
    obtain ⟨W3, hW3⟩ : ∃ W3, W3 = ((w.alloc (.cells #[.int .i64 c.mi, .int .i64 c.mo, .int .i64 c.sh, .int .i64 c.mb, .int .i64 c.mbk, .int .u64 c.secret, .int .i64 c.qg, .int .i64 c.qp, .int .i64 c.qw, .int .i64 c.qt, .int .i64 c.half, .int .i64 c.limit, .int .i64 c.banfor, .int .i64 c.base, .int .i64 c.cap, .int .i64 c.jitter] 26)).alloc (.cells #[.slice a1 bl.length c1, .slice a2 kl.length c2, .slice a3 pl.length c3] 31)).alloc (.cells #[.int .i64 v.n, .bool v.pe.en.ad.v6, .int .u64 v.pe.en.ad.hi, .int .u64 v.pe.en.ad.lo, .int .i64 v.pe.en.port, .bool v.pe.came, .int .i64 v.pe.since, .int .i64 v.pe.pts, .int .i64 v.pe.at_, .int .i64 v.pe.ping, .int .i64 v.pe.work, .slice a4 v.bans.2.length c4, .slice a5 v.book.2.length c5] 54) := ⟨_, rfl⟩
    rw [← hW3]
    have B3 : Below w.heap.size w W3 := by subst hW3; exact bel
    have hBc : BlockIs W3 w.heap.size [.int .i64 c.mi, .int .i64 c.mo, .int .i64 c.sh, .int .i64 c.mb, .int .i64 c.mbk, .int .u64 c.secret, .int .i64 c.qg, .int .i64 c.qp, .int .i64 c.qw, .int .i64 c.qt, .int .i64 c.half, .int .i64 c.limit, .int .i64 c.banfor, .int .i64 c.base, .int .i64 c.cap, .int .i64 c.jitter] 26 := by subst hW3; exact ((BlockIs.new w [.int .i64 c.mi, .int .i64 c.mo, .int .i64 c.sh, .int .i64 c.mb, .int .i64 c.mbk, .int .u64 c.secret, .int .i64 c.qg, .int .i64 c.qp, .int .i64 c.qw, .int .i64 c.qt, .int .i64 c.half, .int .i64 c.limit, .int .i64 c.banfor, .int .i64 c.base, .int .i64 c.cap, .int .i64 c.jitter] _).alloc' _).alloc' _
    have hBs : BlockIs W3 (w.heap.size + 1) [.slice a1 bl.length c1, .slice a2 kl.length c2, .slice a3 pl.length c3] 31 := by subst hW3; exact (BlockIs.newAt' _ [.slice a1 bl.length c1, .slice a2 kl.length c2, .slice a3 pl.length c3] _ (by simp)).alloc' _
    have hBv : BlockIs W3 (w.heap.size + 1 + 1) [.int .i64 v.n, .bool v.pe.en.ad.v6, .int .u64 v.pe.en.ad.hi, .int .u64 v.pe.en.ad.lo, .int .i64 v.pe.en.port, .bool v.pe.came, .int .i64 v.pe.since, .int .i64 v.pe.pts, .int .i64 v.pe.at_, .int .i64 v.pe.ping, .int .i64 v.pe.work, .slice a4 v.bans.2.length c4, .slice a5 v.book.2.length c5] 54 := by subst hW3; exact BlockIs.newAt' _ [.int .i64 v.n, .bool v.pe.en.ad.v6, .int .u64 v.pe.en.ad.hi, .int .u64 v.pe.en.ad.lo, .int .i64 v.pe.en.port, .bool v.pe.came, .int .i64 v.pe.since, .int .i64 v.pe.pts, .int .i64 v.pe.at_, .int .i64 v.pe.ping, .int .i64 v.pe.work, .slice a4 v.bans.2.length c4, .slice a5 v.book.2.length c5] _ (by simp)
    clear hW3
    have s0 := hBs.cell (i := 0) rfl; have s1 := hBs.cell (i := 1) rfl; have s2 := hBs.cell (i := 2) rfl
    go_wp2_with (first
      | (go_at_call 6; (with_reducible refine (HSM.out _ B3).mono ?_); rintro e w4 ⟨rfl, b4⟩; have B4 := below2 B3 b4; have hBc4 := hBc.below b4; have hBs4 := hBs.below b4; have hBv4 := hBv.below b4; clear s0 s1 s2; have s0 := hBs4.cell (i := 0) rfl; have s1 := hBs4.cell (i := 1) rfl; have s2 := hBs4.cell (i := 2) rfl)
      | (refine list_skip_ld 26 _ rfl (by rfl) ?_)
      | (go_at_call 8; (with_reducible refine (awake37_any _).mono ?_); rintro e w9 ⟨rfl, b9⟩; have B9 := below2 B4 b9))
    go_ret
    exact ⟨rfl, B9⟩
end Go.Proofs.YtnplgagaoeckoaaGreat
namespace Go.Proofs.YtnplgagaoeckoaaGreat
open Go.RowKit Go.Lib

theorem pes_part {ss : List Sh} {l : List Pe} {s : Nat} {n : Int} (h : PartsOf ss l s n) {i : Nat} {x : Sh} (hx : ss[i]? = some x) : pesS x = partL l s n i := by
  obtain ⟨h1, h2⟩ := h.2 i x hx
  unfold pesS
  rw [h2, h1]
  exact List.take_of_length_le (by omega)
theorem parts_mem {ss : List Sh} {l : List Pe} {s : Nat} {n : Int} (h : PartsOf ss l s n) (z : Pe) : z ∈ ss.flatMap pesS ↔ z ∈ l := by
  rw [List.mem_flatMap]
  constructor
  · rintro ⟨x, hx, hz⟩
    obtain ⟨i, hi⟩ := List.mem_iff_getElem?.1 hx
    rw [pes_part h hi] at hz
    exact (List.mem_filter.1 hz).1
  · intro hz
    have hlt : ofN z.en.ad s n < ss.length := by rw [h.1]; exact ofN_lt _ _ _
    refine ⟨ss[ofN z.en.ad s n], List.getElem_mem _, ?_⟩
    rw [pes_part h (List.getElem?_eq_getElem hlt)]
    exact List.mem_filter.2 ⟨hz, by simp⟩
theorem parts_ones {ss : List Sh} {l : List Pe} {s : Nat} {n : Int} (h : PartsOf ss l s n) (hl : l.Pairwise fun x y => x.en ≠ y.en) : (ss.flatMap pesS).Pairwise fun x y => x.en ≠ y.en := by
  rw [List.pairwise_flatMap]
  refine ⟨fun x hx => ?_, ?_⟩
  · obtain ⟨i, hi⟩ := List.mem_iff_getElem?.1 hx
    rw [pes_part h hi]
    exact hl.filter _
  · rw [List.pairwise_iff_getElem]
    intro i j hi hj hij x hx y hy e
    rw [pes_part h (List.getElem?_eq_getElem hi)] at hx
    rw [pes_part h (List.getElem?_eq_getElem hj)] at hy
    have h1 := of_decide_eq_true (List.mem_filter.1 hx).2
    have h2 := of_decide_eq_true (List.mem_filter.1 hy).2
    rw [e] at h1
    omega
/-- PARTS JOINED ARE THE TABLE AGAIN -/
theorem partsJ_same {ss : List Sh} {l : List Pe} {s : Nat} {n : Int} (h : PartsOf ss l s n) (hg : GoodT l) : pstL (ss.flatMap pesS) = l := by
  have hl : Strict ltEn l := ((goodT_iff l).1 hg).2.imp fun e => decide_eq_true e
  have hd : l.Pairwise fun x y => x.en ≠ y.en := ((goodT_iff l).1 hg).2.imp fun {a b} e he => by rw [he] at e; have := cmp_en.self b.en; omega
  rw [pst_srt]
  exact strictT_eq wo_ltEn (strict_ssort wo_ltEn ((parts_ones h hd).imp fun e => ltEn_or e)) hl fun z => by rw [ssortT_mem, parts_mem h]
end Go.Proofs.YtnplgagaoeckoaaGreat
namespace Go.Proofs.YtnplgagaoeckoaaGreat
open Go.RowKit Go.Lib

theorem parts_of_pl {ss : List Sh} {pl : List Pe} {s : Nat} {n : Int} (h : ss.map (fun s => (s.size, s.l)) = (List.range (partsN n)).map (fun i => (((partL pl s n i).length : Int), partL pl s n i))) : PartsOf ss pl s n := by
  refine ⟨by have := congrArg List.length h; simpa using this, fun i x hx => ?_⟩
  have h1 := congrArg (fun l => l[i]?) h
  simp only [List.getElem?_map, hx, Option.map_some] at h1
  by_cases hi : i < partsN n
  · rw [List.getElem?_range hi, Option.map_some] at h1
    have := Option.some.inj h1
    exact ⟨congrArg Prod.fst this, congrArg Prod.snd this⟩
  · rw [List.getElem?_eq_none (by rw [List.length_range]; omega)] at h1; cases h1
def stO (k : Int) (v : Vm) : Oq := ⟨6, 0, k, 0, 0, 0, 0, v.n, v.pe, v.bans, v.book, false⟩
def ldO (k : Int) : Oq := ⟨5, 0, k, 0, 0, 0, 0, 0, zeroPe, (.slice none 0 0, []), (.slice none 0 0, []), false⟩
theorem may_st {m : Pm} {N : Nat} (h : SmallP m N) {k : Int} (hk : 3 ≤ k ∧ k ≤ 6) (v : Vm) : mayP m (stO k v) = true := by
  unfold mayP stO opRight plOk
  have h1 := h.2.2.1; have h2 := h.2.2.2.1
  simp; omega
theorem may_ld {m : Pm} {N : Nat} (h : SmallP m N) {k : Int} (hk : 3 ≤ k ∧ k ≤ 6) : mayP m (ldO k) = true := by
  unfold mayP ldO opRight plOk
  have h1 := h.2.2.1; have h2 := h.2.2.2.1
  simp; omega
theorem do_st {m : Pm} {N : Nat} (h : SmallP m N) {k : Int} (hk : 3 ≤ k ∧ k ≤ 6) (v : Vm) (who : Int) : (doP m (stO k v) who).1 = storeP m k 0 0 v.pl := by
  unfold doP; rw [if_neg (by rw [may_st h hk v]; simp)]; rfl
theorem do_ld {m : Pm} {N : Nat} (h : SmallP m N) {k : Int} (hk : 3 ≤ k ∧ k ≤ 6) (who : Int) : (doP m (ldO k) who).2 = loadP m k 0 0 := by
  unfold doP; rw [if_neg (by rw [may_ld h hk]; simp)]; rfl
theorem get_set {α : Type} {l : List α} (hl : 0 < l.length) (x d : α) : getAt (setAt l 0 x) 0 d = x := by
  cases l with
  | nil => simp at hl
  | cons a r => rfl
theorem slot_put (l : List Pe) (p : Pe) : slotP (putP l 0 p) 0 = p := by
  unfold putP
  rw [if_neg (by omega)]
  rfl
theorem joinK {ss : List Sh} (h : ∀ s ∈ ss, s.l.length ≤ 20) (h8 : ss.length ≤ 8) (k : Nat) : ((ss.take k).flatMap pesS).length ≤ 1000000 := by
  have hq : ∀ (l : List Sh), (∀ s ∈ l, s.l.length ≤ 20) → (l.flatMap pesS).length ≤ l.length * 20 := by
    intro l
    induction l with
    | nil => intro _; simp
    | cons a r ih =>
      intro hl
      have h1 := ih fun s hs => hl s (List.mem_cons_of_mem _ hs)
      have h2 : (pesS a).length ≤ 20 := by unfold pesS; rw [List.length_take]; have := hl a (List.mem_cons_self ..); omega
      rw [List.flatMap_cons, List.length_append, List.length_cons]; omega
  have := hq (ss.take k) fun s hs => h s (List.mem_of_mem_take hs)
  have h3 : (ss.take k).length ≤ 8 := Nat.le_trans (by rw [List.length_take]; omega) h8
  omega
/-- what is loaded is what was stored -/
theorem st_ld {m : Pm} {N : Nat} (h : SmallP m N) (v : Vm) : (loadP (storeP m 3 0 0 v.pl) 3 0 0).bans = v.bans.2 ∧ (loadP (storeP m 4 0 0 v.pl) 4 0 0).book = v.book.2 ∧ (loadP (storeP m 5 0 0 v.pl) 5 0 0).n = v.n ∧ (loadP (storeP m 6 0 0 v.pl) 6 0 0).pe = v.pe := by
  have h1 := h.2.2.1
  refine ⟨rfl, rfl, ?_, ?_⟩
  · show (partP (storeP m 5 0 0 v.pl) 0).1 = _
    show (getAt (setAt m.parts 0 (v.pl.n, (partP m 0).2)) 0 (0, [])).1 = _
    rw [get_set (by omega)]; rfl
  · show slotP (partP (storeP m 6 0 0 v.pl) 0).2 0 = _
    show slotP (getAt (setAt m.parts 0 ((partP m 0).1, putP (partP m 0).2 0 v.pl.pe)) 0 (0, [])).2 0 = _
    rw [get_set (by omega)]; exact slot_put _ _
end Go.Proofs.YtnplgagaoeckoaaGreat
namespace Go.Proofs.YtnplgagaoeckoaaGreat
open Go.RowKit Go.Lib

set_option maxRecDepth 100000 in
set_option maxHeartbeats 32000000 in
theorem memState_yes (c : Cf) (hsec : c.secret < 18446744073709551616) (vb vk vp : Value) (bl : List Ba) (kl : List Ey) (pl : List Pe) (v : Vm) (w : World) (hb : ReadsL baV 5 w vb bl) (hk : ReadsL eyV 7 w vk kl) (hp : ReadsL peV 10 w vp pl) (hv : VmAt w v)
    (hfb : ∀ x ∈ bl, x.nt.ad.fits) (hfk : ∀ x ∈ kl, x.en.ad.fits) (hfp : ∀ p ∈ pl, p.en.ad.fits) (h1 : bl.length ≤ 20) (h2 : kl.length ≤ 20) (h3 : pl.length ≤ 20) (hr : StRight c bl kl pl) (h4 : v.bans.2.length ≤ 20) (h5 : v.book.2.length ≤ 20) :
    Calls Tryz.prog 4 #[.agg #[.int .i64 c.mi, .int .i64 c.mo, .int .i64 c.sh, .int .i64 c.mb, .int .i64 c.mbk, .int .u64 c.secret, .int .i64 c.qg, .int .i64 c.qp, .int .i64 c.qw, .int .i64 c.qt, .int .i64 c.half, .int .i64 c.limit, .int .i64 c.banfor, .int .i64 c.base, .int .i64 c.cap, .int .i64 c.jitter], .agg #[vb, vk, vp], .agg #[.int .i64 v.n, .bool v.pe.en.ad.v6, .int .u64 v.pe.en.ad.hi, .int .u64 v.pe.en.ad.lo, .int .i64 v.pe.en.port, .bool v.pe.came, .int .i64 v.pe.since, .int .i64 v.pe.pts, .int .i64 v.pe.at_, .int .i64 v.pe.ping, .int .i64 v.pe.work, v.bans.1, v.book.1]] w fun e w' => e = .returned (.bool true) ∧ Below w.heap.size w w' := by
  have HSM := Lib.hid (fun (W : World) (hB : Below w.heap.size w W) => small37_any vb vk vp bl kl pl W (ReadsL.below hb hB) (ReadsL.below hk hB) (ReadsL.below hp hB))
  rw [decide_eq_true h1, decide_eq_true h2, decide_eq_true h3] at HSM
  simp only [Bool.and_self] at HSM
  have HRT := Lib.hid (fun (W : World) (hB : Below w.heap.size w W) => stRight_any c vb vk vp bl kl pl true ⟨fun _ => hr, fun _ => rfl⟩ W (ReadsL.below hb hB) (ReadsL.below hk hB) (ReadsL.below hp hB) hfb hfk hfp (by omega) (by omega))
  have HNEW := Lib.hid (fun (W : World) (hB : Below w.heap.size w W) => memNew_any c hsec vb vk vp bl kl pl W (ReadsL.below hb hB) (ReadsL.below hk hB) (ReadsL.below hp hB) hfp (by omega) (by omega) (by omega))
  have HDL := Lib.hid (fun (W : World) (hB : Below w.heap.size w W) => dialled_any vb vk vp bl kl pl W (ReadsL.below hb hB) (ReadsL.below hk hB) (ReadsL.below hp hB) (by omega) (by omega))
  have HRB := Lib.hid (fun (W : World) (hB : Below w.heap.size w W) => And.intro (ReadsL.below hb hB) (And.intro (ReadsL.below hk hB) (ReadsL.below hp hB)))
  have HVW := Lib.hid hv
  have HPT := Lib.hid (And.intro h1 (And.intro h2 (And.intro h3 ((rgtT_good pl).1 hr.2.2.2.1))))
  have HL45 : Hid (v.bans.2.length ≤ 1000 ∧ v.book.2.length ≤ 1000) := ⟨by omega, by omega⟩
  have HL20 : Hid (v.bans.2.length ≤ 20 ∧ v.book.2.length ≤ 20) := ⟨h4, h5⟩
  obtain ⟨_, a1, c1, rfl, _⟩ := ba_open hb
  obtain ⟨_, a2, c2, rfl, _⟩ := ey_open hk
  obtain ⟨_, a3, c3, rfl, _⟩ := pes_open hp
  obtain ⟨_, a4, c4, ev1, _⟩ := ba_open hv.1
  obtain ⟨_, a5, c5, ev2, _⟩ := ey_open hv.2
  rw [ev1, ev2]
  have EV1 := Lib.hid ev1; have EV2 := Lib.hid ev2
  have f1 : decide ((20 : Int) < (v.bans.2.length : Int)) = false := decide_eq_false (by omega)
  have f1' : decide (20 < v.bans.2.length) = false := decide_eq_false (by omega)
  have f2 : decide ((20 : Int) < (v.book.2.length : Int)) = false := decide_eq_false (by omega)
  have f2' : decide (20 < v.book.2.length) = false := decide_eq_false (by omega)
  clear hb hk hp hv hfb hfk hfp hsec hr h1 h2 h3 h4 h5 ev1 ev2
  go_enter Tryz.func4, Tryz.ntmps4
  go_upto_region 1 with fail
  obtain ⟨W3, hW3⟩ : ∃ W3, W3 = ((w.alloc (.cells #[.int .i64 c.mi, .int .i64 c.mo, .int .i64 c.sh, .int .i64 c.mb, .int .i64 c.mbk, .int .u64 c.secret, .int .i64 c.qg, .int .i64 c.qp, .int .i64 c.qw, .int .i64 c.qt, .int .i64 c.half, .int .i64 c.limit, .int .i64 c.banfor, .int .i64 c.base, .int .i64 c.cap, .int .i64 c.jitter] 26)).alloc (.cells #[.slice a1 bl.length c1, .slice a2 kl.length c2, .slice a3 pl.length c3] 31)).alloc (.cells #[.int .i64 v.n, .bool v.pe.en.ad.v6, .int .u64 v.pe.en.ad.hi, .int .u64 v.pe.en.ad.lo, .int .i64 v.pe.en.port, .bool v.pe.came, .int .i64 v.pe.since, .int .i64 v.pe.pts, .int .i64 v.pe.at_, .int .i64 v.pe.ping, .int .i64 v.pe.work, .slice a4 v.bans.2.length c4, .slice a5 v.book.2.length c5] 54) := ⟨_, rfl⟩
  rw [← hW3]
  have B3 : Below w.heap.size w W3 := by subst hW3; exact bel
  have hBc : BlockIs W3 w.heap.size [.int .i64 c.mi, .int .i64 c.mo, .int .i64 c.sh, .int .i64 c.mb, .int .i64 c.mbk, .int .u64 c.secret, .int .i64 c.qg, .int .i64 c.qp, .int .i64 c.qw, .int .i64 c.qt, .int .i64 c.half, .int .i64 c.limit, .int .i64 c.banfor, .int .i64 c.base, .int .i64 c.cap, .int .i64 c.jitter] 26 := by subst hW3; exact ((BlockIs.new w [.int .i64 c.mi, .int .i64 c.mo, .int .i64 c.sh, .int .i64 c.mb, .int .i64 c.mbk, .int .u64 c.secret, .int .i64 c.qg, .int .i64 c.qp, .int .i64 c.qw, .int .i64 c.qt, .int .i64 c.half, .int .i64 c.limit, .int .i64 c.banfor, .int .i64 c.base, .int .i64 c.cap, .int .i64 c.jitter] _).alloc' _).alloc' _
  have hBs : BlockIs W3 (w.heap.size + 1) [.slice a1 bl.length c1, .slice a2 kl.length c2, .slice a3 pl.length c3] 31 := by subst hW3; exact (BlockIs.newAt' _ [.slice a1 bl.length c1, .slice a2 kl.length c2, .slice a3 pl.length c3] _ (by simp)).alloc' _
  have hBv : BlockIs W3 (w.heap.size + 1 + 1) [.int .i64 v.n, .bool v.pe.en.ad.v6, .int .u64 v.pe.en.ad.hi, .int .u64 v.pe.en.ad.lo, .int .i64 v.pe.en.port, .bool v.pe.came, .int .i64 v.pe.since, .int .i64 v.pe.pts, .int .i64 v.pe.at_, .int .i64 v.pe.ping, .int .i64 v.pe.work, .slice a4 v.bans.2.length c4, .slice a5 v.book.2.length c5] 54 := by subst hW3; exact BlockIs.newAt' _ [.int .i64 v.n, .bool v.pe.en.ad.v6, .int .u64 v.pe.en.ad.hi, .int .u64 v.pe.en.ad.lo, .int .i64 v.pe.en.port, .bool v.pe.came, .int .i64 v.pe.since, .int .i64 v.pe.pts, .int .i64 v.pe.at_, .int .i64 v.pe.ping, .int .i64 v.pe.work, .slice a4 v.bans.2.length c4, .slice a5 v.book.2.length c5] _ (by simp)
  clear hW3
  have s0 := hBs.cell (i := 0) rfl; have s1 := hBs.cell (i := 1) rfl; have s2 := hBs.cell (i := 2) rfl
  go_upto_region 4 with (first
    | (go_at_call 6; (with_reducible refine (HSM.out _ B3).mono ?_); rintro e w4 ⟨rfl, b4⟩; have B4 := below2 B3 b4; have hBc4 := hBc.below b4; have hBs4 := hBs.below b4; have hBv4 := hBv.below b4; clear s0 s1 s2; have s0 := hBs4.cell (i := 0) rfl; have s1 := hBs4.cell (i := 1) rfl; have s2 := hBs4.cell (i := 2) rfl)
    | (refine list_load_blk_w (by rfl) 26 _ rfl w.heap.size [.int .i64 c.mi, .int .i64 c.mo, .int .i64 c.sh, .int .i64 c.mb, .int .i64 c.mbk, .int .u64 c.secret, .int .i64 c.qg, .int .i64 c.qp, .int .i64 c.qw, .int .i64 c.qt, .int .i64 c.half, .int .i64 c.limit, .int .i64 c.banfor, .int .i64 c.base, .int .i64 c.cap, .int .i64 c.jitter] 26 (by first | exact hBc5 | exact hBc4) rfl Tryz.underlying26 (by kernel_rfl) ?_)
    | (go_at_call 23; (with_reducible refine (HRT.out _ B4).mono ?_); rintro e w5 ⟨rfl, b5⟩; have B5 := below2 B4 b5; have hBc5 := hBc4.below b5; have hBs5 := hBs4.below b5; have hBv5 := hBv4.below b5; clear s0 s1 s2; have s0 := hBs5.cell (i := 0) rfl; have s1 := hBs5.cell (i := 1) rfl; have s2 := hBs5.cell (i := 2) rfl; have v11 := hBv5.cell (i := 11) rfl; have v12 := hBv5.cell (i := 12) rfl)
    | (go_at_call 9; (with_reducible refine (HNEW.out _ B5).mono ?_); rintro e w6 ⟨m, rfl, hN0, hp0, b6⟩; have hm0 := hN0 w6 (fun _ _ _ _ h => h); have B6 := below2 B5 b6; have hBc6 := hBc5.below b6; have hBs6 := hBs5.below b6; have hBv6 := hBv5.below b6; obtain ⟨y1, y2, y3, y4, yc1, yc2, yc3, yc4, u1, u2, u3, u4⟩ := mm_slices hm0; rw [u1, u2, u3, u4]))
  obtain ⟨wb, hwb⟩ : ∃ wb, wb = w6.alloc (.cells #[.int .i64 m.inn, .int .i64 m.out, .slice y1 m.bans.2.length yc1, .slice y2 m.book.2.length yc2, .slice y3 m.parts.2.length yc3, .slice y4 m.locks.2.length yc4] 40) := ⟨_, rfl⟩
  rw [← hwb]
  obtain ⟨X, hX⟩ : ∃ X, X = w6.heap.size := ⟨_, rfl⟩
  have hXb : BlockIs wb X [.int .i64 m.inn, .int .i64 m.out, .slice y1 m.bans.2.length yc1, .slice y2 m.book.2.length yc2, .slice y3 m.parts.2.length yc3, .slice y4 m.locks.2.length yc4] 40 := by subst hwb hX; exact BlockIs.new w6 _ _
  have hOb : HoldOff (fun _ => False) wb (fun W => MmAt W m) := (HoldOff.new hN0 (fun b hb => hb.elim)).step (by subst hwb; exact keep_alloc w6 _)
  have Bb : Below w.heap.size w wb := by subst hwb; exact B6.alloc B6.size _
  have hBsb : BlockIs wb (w.heap.size + 1) [.slice a1 bl.length c1, .slice a2 kl.length c2, .slice a3 pl.length c3] 31 := by subst hwb; exact hBs6.alloc' _
  have hBvb : BlockIs wb (w.heap.size + 1 + 1) [.int .i64 v.n, .bool v.pe.en.ad.v6, .int .u64 v.pe.en.ad.hi, .int .u64 v.pe.en.ad.lo, .int .i64 v.pe.en.port, .bool v.pe.came, .int .i64 v.pe.since, .int .i64 v.pe.pts, .int .i64 v.pe.at_, .int .i64 v.pe.ping, .int .i64 v.pe.work, .slice a4 v.bans.2.length c4, .slice a5 v.book.2.length c5] 54 := by subst hwb; exact hBv6.alloc' _
  rw [← hX]
  have hS0 : SmallP m.pl 20 := by rw [hp0]; exact newP_small _ _ _ _ _ HPT.out.1 HPT.out.2.1 HPT.out.2.2.1
  have hL0 : LocksOk m.pl := by rw [hp0]; exact newP_locks _ _ _ _ _
  have HSM0 := Lib.hid hS0; have HLK0 := Lib.hid hL0; have HDK := Lib.hid (doOk_of hS0 (by decide) hL0)
  have E1 := Lib.hid u1; have E2 := Lib.hid u2; have E3 := Lib.hid u3; have E4 := Lib.hid u4
  have HBB := Lib.hid Bb; have HOB := Lib.hid hOb
  have HVB : Hid (VmAt wb v) := HVW.out.below Bb
  have hbl : m.bans.2 = bl := congrArg Pm.bans hp0
  have hkl : m.book.2 = kl := congrArg Pm.book hp0
  have hpt : PartsOf m.parts.2 pl c.secret c.sh := parts_of_pl (congrArg Pm.parts hp0)
  have hjn : pstL (m.parts.2.flatMap pesS) = pl := partsJ_same hpt HPT.out.2.2.2
  have hout : m.out = (cntL false pl : Int) + (cntE 2 kl : Int) := congrArg Pm.out hp0
  have hpl20 : ∀ s ∈ m.parts.2, s.l.length ≤ 20 := fun s hs => hS0.2.2.2.2.1 (s.size, s.l) (List.mem_map.2 ⟨s, hs, rfl⟩)
  have hp8 : m.parts.2.length ≤ 8 := by have := hS0.2.2.2.1; unfold Mm.pl at this; simpa using this
  have HMS := Lib.hid (fun (W : World) (hB : Below wb.heap.size wb W) => memState_any m W (HOB.out.now.below hB) (by rw [hbl]; have := HPT.out.1; omega) (by rw [hkl]; have := HPT.out.2.1; omega) (fun s hs => by have := hpl20 s hs; omega) (joinK hpl20 hp8))
  rw [hjn, hbl, hkl] at HMS
  simp only [u1, u2, u3, u4] at HMS
  have HSS := Lib.hid (fun (a b d : Option Addr) (k1 k2 k3 : Nat) (W0 : World) (hA : Below wb.heap.size wb W0) (g1 : ReadsL baV 5 W0 (.slice a bl.length k1) bl) (g2 : ReadsL eyV 7 W0 (.slice b kl.length k2) kl) (g3 : ReadsL peV 10 W0 (.slice d pl.length k3) pl) => sameState_any _ _ _ _ _ _ bl kl pl W0 g1 g2 g3 (HRB.out W0 (below2 HBB.out hA)).1 (HRB.out W0 (below2 HBB.out hA)).2.1 (HRB.out W0 (below2 HBB.out hA)).2.2)
  have HDD := Lib.hid (fun (W : World) (hA : Below wb.heap.size wb W) => HDL.out W (below2 HBB.out hA))
  have hXw : w.heap.size + 1 + 1 + 1 ≤ X := by have := hBv6.lt; omega
  rw [← hout] at HDD
  clear hwb hX hN0 hm0 u1 u2 u3 u4 hOb Bb hS0 hL0 hp0 hbl hkl hpt hjn hout hpl20 hp8 HSM HRT HNEW HDL HPT s0 s1 s2 B3 B4 B5 B6 b4 b5 b6 hBc hBs hBv hBc4 hBs4 hBv4 hBc5 hBs5 hBv5 hBc6 hBs6 hBv6 v11 v12 f1 f1' f2 f2'
  have k0 := hXb.cell (i := 0) rfl; have k1 := hXb.cell (i := 1) rfl; have k2 := hXb.cell (i := 2) rfl; have k3 := hXb.cell (i := 3) rfl; have k4 := hXb.cell (i := 4) rfl; have k5 := hXb.cell (i := 5) rfl; have s0 := hBsb.cell (i := 0) rfl; have s1 := hBsb.cell (i := 1) rfl; have s2 := hBsb.cell (i := 2) rfl
  refine wp_region_noPanic ?_
  have hS0 : (fun wq => wq.cell? ⟨X, 0, none⟩ = some (.int .i64 m.inn) ∧ wq.cell? ⟨X, 1, none⟩ = some (.int .i64 m.out) ∧ wq.cell? ⟨X, 2, none⟩ = some (.slice y1 m.bans.2.length yc1) ∧ wq.cell? ⟨X, 3, none⟩ = some (.slice y2 m.book.2.length yc2) ∧ wq.cell? ⟨X, 4, none⟩ = some (.slice y3 m.parts.2.length yc3) ∧ wq.cell? ⟨X, 5, none⟩ = some (.slice y4 m.locks.2.length yc4) ∧ wq.cell? ⟨w.heap.size + 1, 0, none⟩ = some (.slice a1 bl.length c1) ∧ wq.cell? ⟨w.heap.size + 1, 1, none⟩ = some (.slice a2 kl.length c2) ∧ wq.cell? ⟨w.heap.size + 1, 2, none⟩ = some (.slice a3 pl.length c3)) wb.drew := ⟨k0, k1, k2, k3, k4, k5, s0, s1, s2⟩
  refine wp_region_headH (fun wq => wq.cell? ⟨X, 0, none⟩ = some (.int .i64 m.inn) ∧ wq.cell? ⟨X, 1, none⟩ = some (.int .i64 m.out) ∧ wq.cell? ⟨X, 2, none⟩ = some (.slice y1 m.bans.2.length yc1) ∧ wq.cell? ⟨X, 3, none⟩ = some (.slice y2 m.book.2.length yc2) ∧ wq.cell? ⟨X, 4, none⟩ = some (.slice y3 m.parts.2.length yc3) ∧ wq.cell? ⟨X, 5, none⟩ = some (.slice y4 m.locks.2.length yc4) ∧ wq.cell? ⟨w.heap.size + 1, 0, none⟩ = some (.slice a1 bl.length c1) ∧ wq.cell? ⟨w.heap.size + 1, 1, none⟩ = some (.slice a2 kl.length c2) ∧ wq.cell? ⟨w.heap.size + 1, 2, none⟩ = some (.slice a3 pl.length c3)) 11 (by kernel_rfl) (by kernel_rfl) ?_
  refine headH_take (i := 0) (v := ?qv0x1) (by kernel_rfl) rfl rfl (by kernel_rfl) (by kernel_rfl) (by kernel_rfl) (fun _ _ _ h => h) (Or.inl ⟨by rfl, ?qy0x1⟩) (by assumption) ?qr0x1
  case qy0x1 =>
    intro wq hSw
    try dsimp only at hSw
    go_simp
    try with_reducible rfl
  try simp only [Act.put, List.setIfInBounds_toArray, List.set_cons_zero, List.set_cons_succ]
  refine headH_take (i := 2) (v := ?qv2x2) (by kernel_rfl) rfl rfl (by kernel_rfl) (by kernel_rfl) (by kernel_rfl) (fun _ _ _ h => h) (Or.inl ⟨by rfl, ?qy2x2⟩) (by assumption) ?qr2x2
  case qy2x2 =>
    intro wq hSw
    try dsimp only at hSw
    go_simp
    try with_reducible rfl
  try simp only [Act.put, List.setIfInBounds_toArray, List.set_cons_zero, List.set_cons_succ]
  refine headH_one (i := 1) rfl rfl (by kernel_rfl) (fun K hK => ?_)
  go_simp
  go_at_call 21
  refine (HMS.out _ (Below.refl wb.heap.size wb).drew).mono ?_
  rintro e w7 ⟨sa, sb, sd, z1, z2, z3, rfl, g1, g2, g3, b7⟩
  have B7 := (below2 (Below.refl wb.heap.size wb).drew b7 : Below wb.heap.size wb w7)
  have hX7 := hXb.below B7; have hBs7 := hBsb.below B7
  clear k0 k1 k2 k3 k4 k5 s0 s1 s2
  have k0 := hX7.cell (i := 0) rfl
  have k1 := hX7.cell (i := 1) rfl
  have k2 := hX7.cell (i := 2) rfl
  have k3 := hX7.cell (i := 3) rfl
  have k4 := hX7.cell (i := 4) rfl
  have k5 := hX7.cell (i := 5) rfl
  have s0 := hBs7.cell (i := 0) rfl
  have s1 := hBs7.cell (i := 1) rfl
  have s2 := hBs7.cell (i := 2) rfl
  refine hK.out _ _ ?_ (fun hS => ?_)
  · exact ⟨k0, k1, k2, k3, k4, k5, s0, s1, s2⟩
  clear hK K
  try simp only [Act.put, List.setIfInBounds_toArray, List.set_cons_zero, List.set_cons_succ]
  refine headH_one (i := 3) rfl rfl (by kernel_rfl) (fun K hK => ?_)
  go_simp
  go_at_call 20
  refine (HSS.out sa sb sd z1 z2 z3 w7 B7 g1 g2 g3).mono ?_
  rintro e w8 ⟨rfl, b8⟩
  have B8 := (below2 B7 b8 : Below wb.heap.size wb w8)
  have hX8 := hXb.below B8; have hBs8 := hBsb.below B8
  clear k0 k1 k2 k3 k4 k5 s0 s1 s2
  have k0 := hX8.cell (i := 0) rfl
  have k1 := hX8.cell (i := 1) rfl
  have k2 := hX8.cell (i := 2) rfl
  have k3 := hX8.cell (i := 3) rfl
  have k4 := hX8.cell (i := 4) rfl
  have k5 := hX8.cell (i := 5) rfl
  have s0 := hBs8.cell (i := 0) rfl
  have s1 := hBs8.cell (i := 1) rfl
  have s2 := hBs8.cell (i := 2) rfl
  refine hK.out _ _ ?_ (fun hS => ?_)
  · exact ⟨k0, k1, k2, k3, k4, k5, s0, s1, s2⟩
  clear hK K
  try simp only [Act.put, List.setIfInBounds_toArray, List.set_cons_zero, List.set_cons_succ]
  refine headH_take (i := 4) (v := ?qv4x3) (by kernel_rfl) rfl rfl (by kernel_rfl) (by kernel_rfl) (by kernel_rfl) (fun _ _ _ h => h) (Or.inl ⟨by rfl, ?qy4x3⟩) (by assumption) ?qr4x3
  case qy4x3 =>
    intro wq hSw
    try dsimp only at hSw
    go_simp
    try with_reducible rfl
  try simp only [Act.put, List.setIfInBounds_toArray, List.set_cons_zero, List.set_cons_succ]
  refine headH_take (i := 5) (v := ?qv5x4) (by kernel_rfl) rfl rfl (by kernel_rfl) (by kernel_rfl) (by kernel_rfl) (fun _ _ _ h => h) (Or.inl ⟨by rfl, ?qy5x4⟩) (by assumption) ?qr5x4
  case qy5x4 =>
    intro wq hSw
    try dsimp only at hSw
    go_simp
    try with_reducible rfl
  try simp only [Act.put, List.setIfInBounds_toArray, List.set_cons_zero, List.set_cons_succ]
  refine headH_take (i := 6) (v := ?qv6x5) (by kernel_rfl) rfl rfl (by kernel_rfl) (by kernel_rfl) (by kernel_rfl) (fun _ _ _ h => h) (Or.inl ⟨by rfl, ?qy6x5⟩) (by assumption) ?qr6x5
  case qy6x5 =>
    intro wq hSw
    try dsimp only at hSw
    go_simp
    try with_reducible rfl
  try simp only [Act.put, List.setIfInBounds_toArray, List.set_cons_zero, List.set_cons_succ]
  refine headH_take (i := 7) (v := ?qv7x6) (by kernel_rfl) rfl rfl (by kernel_rfl) (by kernel_rfl) (by kernel_rfl) (fun _ _ _ h => h) (Or.inl ⟨by rfl, ?qy7x6⟩) (by assumption) ?qr7x6
  case qy7x6 =>
    intro wq hSw
    try dsimp only at hSw
    go_simp
    try with_reducible rfl
  try simp only [Act.put, List.setIfInBounds_toArray, List.set_cons_zero, List.set_cons_succ]
  refine headH_take (i := 8) (v := ?qv8x7) (by kernel_rfl) rfl rfl (by kernel_rfl) (by kernel_rfl) (by kernel_rfl) (fun _ _ _ h => h) (Or.inl ⟨by rfl, ?qy8x7⟩) (by assumption) ?qr8x7
  case qy8x7 =>
    intro wq hSw
    try dsimp only at hSw
    go_simp
    try with_reducible rfl
  try simp only [Act.put, List.setIfInBounds_toArray, List.set_cons_zero, List.set_cons_succ]
  refine headH_one (i := 9) rfl rfl (by kernel_rfl) (fun K hK => ?_)
  go_simp
  go_at_call 24
  refine (HDD.out w8 B8).mono ?_
  rintro e w9 ⟨rfl, b9⟩
  have B9 := (below2 B8 b9 : Below wb.heap.size wb w9)
  have hX9 := hXb.below B9; have hBs9 := hBsb.below B9
  clear k0 k1 k2 k3 k4 k5 s0 s1 s2
  have k0 := hX9.cell (i := 0) rfl
  have k1 := hX9.cell (i := 1) rfl
  have k2 := hX9.cell (i := 2) rfl
  have k3 := hX9.cell (i := 3) rfl
  have k4 := hX9.cell (i := 4) rfl
  have k5 := hX9.cell (i := 5) rfl
  have s0 := hBs9.cell (i := 0) rfl
  have s1 := hBs9.cell (i := 1) rfl
  have s2 := hBs9.cell (i := 2) rfl
  refine hK.out _ _ ?_ (fun hS => ?_)
  · exact ⟨k0, k1, k2, k3, k4, k5, s0, s1, s2⟩
  clear hK K
  try simp only [Act.put, List.setIfInBounds_toArray, List.set_cons_zero, List.set_cons_succ]
  refine headH_take (i := 10) (v := ?qv10x8) (by kernel_rfl) rfl rfl (by kernel_rfl) (by kernel_rfl) (by kernel_rfl) (fun _ _ _ h => h) (Or.inl ⟨by rfl, ?qy10x8⟩) (by assumption) ?qr10x8
  case qy10x8 =>
    intro wq hSw
    try dsimp only at hSw
    go_simp
    try with_reducible rfl
  try simp only [Act.put, List.setIfInBounds_toArray, List.set_cons_zero, List.set_cons_succ]
  refine headH_done (by kernel_rfl) ?_
  simp only [List.drop_succ_cons, List.drop_zero]
  go_wp2_with fail
  refine NoPanic.normal ?_
  go_wp2_with fail
  go_loopw [8] (fun κ wr => ∃ k : Int, 3 ≤ k ∧ k ≤ 7 ∧ κ = .int .i64 k ∧ Hid (Below wb.heap.size wb wr)) (fun κ _ => (7 - intOf κ).toNat)
  case atStart => exact ⟨3, by omega, by omega, rfl, B9⟩
  case round =>
    obtain ⟨k, hk3, hk7, rfl, HB⟩ := hrel
    clear B9 b9 B7 B8 b7 b8 hX7 hX8 hX9 hBs7 hBs8 hBs9 g1 g2 g3 k0 k1 k2 k3 k4 k5 s0 s1 s2
    rcases (show k = 3 ∨ k = 4 ∨ k = 5 ∨ k = 6 ∨ k = 7 by omega) with rfl | rfl | rfl | rfl | rfl
    · clear hk3 hk7
      have hXr := hXb.below HB.out; have hBvr := hBvb.below HB.out
      have hge := HB.out.size
      have HD1 := Lib.hid (fun (W : World) (hB : Below wb.heap.size wb W) => memDo_off (fun _ => False) m (stO 3 v) 1 W (fun b h => h.elim) (HOB.out.below hB) (⟨ReadsL.below HVB.out.1 hB, ReadsL.below HVB.out.2 hB⟩ : OqAt W (stO 3 v)) (by decide) HDK.out HL45.out.1 HL45.out.2)
      have HD2 := Lib.hid (fun (m1 : Mm) (W : World) (hO : HoldOff (fun _ => False) W fun W => MmAt W m1) (hd : DoOk m1) => memDo_off (fun _ => False) m1 (ldO 3) 2 W (fun b h => h.elim) hO (nil_op _ _ rfl rfl) (by decide) hd (by decide) (by decide))
      unfold stO at HD1; unfold ldO zeroPe zeroEn at HD2
      simp only [show ((0 : Nat) : Int) = 0 from rfl, E1.out, E2.out, E3.out, E4.out, EV1.out, EV2.out] at HD1 HD2
      obtain ⟨w9, hw9⟩ : ∃ w9, w9 = wr.alloc (.cells #[.int .i64 3, .int .i64 0, .int .i64 0] 44) := ⟨_, rfl⟩
      have b9 : Below wb.heap.size wb w9 := by subst hw9; exact HB.out.alloc HB.out.size _
      have hL9 : BlockIs w9 wr.heap.size [.int .i64 3, .int .i64 0, .int .i64 0] 44 := by subst hw9; exact BlockIs.new wr _ _
      have hX9 : BlockIs w9 X [.int .i64 m.inn, .int .i64 m.out, .slice y1 m.bans.2.length yc1, .slice y2 m.book.2.length yc2, .slice y3 m.parts.2.length yc3, .slice y4 m.locks.2.length yc4] 40 := by subst hw9; exact hXr.alloc' _
      have hV9 : BlockIs w9 (w.heap.size + 1 + 1) [.int .i64 v.n, .bool v.pe.en.ad.v6, .int .u64 v.pe.en.ad.hi, .int .u64 v.pe.en.ad.lo, .int .i64 v.pe.en.port, .bool v.pe.came, .int .i64 v.pe.since, .int .i64 v.pe.pts, .int .i64 v.pe.at_, .int .i64 v.pe.ping, .int .i64 v.pe.work, .slice a4 v.bans.2.length c4, .slice a5 v.book.2.length c5] 54 := by subst hw9; exact hBvr.alloc' _
      go_upto_region 10 with fail
      rw [← hw9]
      clear hw9
      have k0 := hX9.cell (i := 0) rfl; have k1 := hX9.cell (i := 1) rfl; have k2 := hX9.cell (i := 2) rfl; have k3 := hX9.cell (i := 3) rfl; have k4 := hX9.cell (i := 4) rfl; have k5 := hX9.cell (i := 5) rfl; have l0 := hL9.cell (i := 0) rfl; have l1 := hL9.cell (i := 1) rfl; have l2 := hL9.cell (i := 2) rfl
      have hge9 := b9.size
      go_upto_region 11 with (first
        | (refine list_load_blk rfl 54 _ rfl (w.heap.size + 1 + 1) [.int .i64 v.n, .bool v.pe.en.ad.v6, .int .u64 v.pe.en.ad.hi, .int .u64 v.pe.en.ad.lo, .int .i64 v.pe.en.port, .bool v.pe.came, .int .i64 v.pe.since, .int .i64 v.pe.pts, .int .i64 v.pe.at_, .int .i64 v.pe.ping, .int .i64 v.pe.work, .slice a4 v.bans.2.length c4, .slice a5 v.book.2.length c5] 54 hV9 rfl Tryz.underlying54 (by kernel_rfl) ?_)
        | (go_at_call 14; (with_reducible refine (HD1.out _ b9).mono ?_); rintro e w10 ⟨m1, v1, rfl, hO, hV, hp10, hq10, b10⟩; obtain ⟨z1, z2, z3, z4, zc1, zc2, zc3, zc4, u1, u2, u3, u4⟩ := mm_slices hO.now; obtain ⟨_, p1, pc1, g1, _⟩ := ba_open hV.now.1; obtain ⟨_, p2, pc2, g2, _⟩ := ey_open hV.now.2; rw [u1, u2, u3, u4, g1, g2]; have HO10 := Lib.hid hO; have HP10 := Lib.hid hp10; have HU := Lib.hid (And.intro u1 (And.intro u2 (And.intro u3 u4))); have B10 := (below2 b9 b10 : Below wb.heap.size wb w10); have hge := B10.size; have hA10 : BlockIs ((w10.alloc (.cells #[.int .i64 0, .int .i64 0, .slice none 0 0, .slice none 0 0, .slice none 0 0, .slice none 0 0] 40)).alloc (.cells #[.int .i64 0, .bool false, .int .u64 0, .int .u64 0, .int .i64 0, .bool false, .int .i64 0, .int .i64 0, .int .i64 0, .int .i64 0, .int .i64 0, .slice none 0 0, .slice none 0 0] 54)) w10.heap.size [.int .i64 0, .int .i64 0, .slice none 0 0, .slice none 0 0, .slice none 0 0, .slice none 0 0] 40 := (BlockIs.new w10 [.int .i64 0, .int .i64 0, .slice none 0 0, .slice none 0 0, .slice none 0 0, .slice none 0 0] _).alloc' _; have hC10 : BlockIs ((w10.alloc (.cells #[.int .i64 0, .int .i64 0, .slice none 0 0, .slice none 0 0, .slice none 0 0, .slice none 0 0] 40)).alloc (.cells #[.int .i64 0, .bool false, .int .u64 0, .int .u64 0, .int .i64 0, .bool false, .int .i64 0, .int .i64 0, .int .i64 0, .int .i64 0, .int .i64 0, .slice none 0 0, .slice none 0 0] 54)) (w10.heap.size + 1) [.int .i64 0, .bool false, .int .u64 0, .int .u64 0, .int .i64 0, .bool false, .int .i64 0, .int .i64 0, .int .i64 0, .int .i64 0, .int .i64 0, .slice none 0 0, .slice none 0 0] 54 := BlockIs.newAt' _ [.int .i64 0, .bool false, .int .u64 0, .int .u64 0, .int .i64 0, .bool false, .int .i64 0, .int .i64 0, .int .i64 0, .int .i64 0, .int .i64 0, .slice none 0 0, .slice none 0 0] _ (by simp); have bb10 : Below wb.heap.size wb ((w10.alloc (.cells #[.int .i64 0, .int .i64 0, .slice none 0 0, .slice none 0 0, .slice none 0 0, .slice none 0 0] 40)).alloc (.cells #[.int .i64 0, .bool false, .int .u64 0, .int .u64 0, .int .i64 0, .bool false, .int .i64 0, .int .i64 0, .int .i64 0, .int .i64 0, .int .i64 0, .slice none 0 0, .slice none 0 0] 54)) := (B10.alloc B10.size _).alloc (by have := B10.size; simp; omega) _; have hL10 := hL9.below b10; clear hO hV hp10 hq10 u1 u2 u3 u4 g1 g2)
        | (refine list_store_blk rfl 40 _ _ rfl (w10.heap.size) _ _ 40 (hA10) rfl rfl (by kernel_rfl) rfl (by simp [Value.oneCell']) wb.heap.size wb bb10 (by have := hge; omega) ?_; intro w11 hR11 hoth11 hsz11 bw11)
        | (refine list_store_blk rfl 54 _ _ rfl (w10.heap.size + 1) _ _ 54 (hoth11 _ _ _ (by omega) hC10) rfl rfl (by kernel_rfl) rfl (by simp [Value.oneCell']) wb.heap.size wb bw11 (by have := hge; omega) ?_; intro w12 hR12 hoth12 hsz12 bw12))
      have hk12 : KeepOff (fun _ => False) w10 w12 := fun b arr T _ hh => hoth12 b arr T (by have := hh.lt; omega) (hoth11 b arr T (by have := hh.lt; omega) ((hh.alloc' _).alloc' _))
      have hM12 := hoth12 _ _ _ (by omega) hR11
      have hL12 := hk12 _ _ _ (fun h => h) hL10
      have hO12 := HO10.out.step hk12
      have hs1 : SmallP m1.pl 21 := by rw [HP10.out]; exact doP_small HSM0.out _ HL20.out _
      have hl1 : LocksOk m1.pl := by rw [HP10.out]; exact doP_locks HLK0.out _ _
      have hd2 := HD2.out m1 w12 hO12 (doOk_of hs1 (by decide) hl1)
      simp only [HU.out.1, HU.out.2.1, HU.out.2.2.1, HU.out.2.2.2] at hd2
      have HDD2 := Lib.hid hd2; have HBW12 := Lib.hid bw12
      have hge12 := bw12.size
      clear hd2 hO12 hs1 hl1 hoth11 hoth12 HD1 HD2 k0 k1 k2 k3 k4 k5 l0 l1 l2 hA10 hC10 bb10 bw11
      have k0 := hM12.cell (i := 0) rfl; have k1 := hM12.cell (i := 1) rfl; have k2 := hM12.cell (i := 2) rfl; have k3 := hM12.cell (i := 3) rfl; have k4 := hM12.cell (i := 4) rfl; have k5 := hM12.cell (i := 5) rfl; have l0 := hL12.cell (i := 0) rfl; have l1 := hL12.cell (i := 1) rfl; have l2 := hL12.cell (i := 2) rfl
      go_upto_region 12 with (first
        | (go_at_call 14; (with_reducible refine HDD2.out.mono ?_); rintro e w13 ⟨m2, v2, rfl, hO, hV, hp13, hq13, b13⟩; obtain ⟨x1, x2, x3, x4, xc1, xc2, xc3, xc4, u1, u2, u3, u4⟩ := mm_slices hO.now; obtain ⟨_, r1, rc1, g1, _⟩ := ba_open hV.now.1; obtain ⟨_, r2, rc2, g2, _⟩ := ey_open hV.now.2; rw [u1, u2, u3, u4, g1, g2]; have HV13 := Lib.hid hV; have HQ13 := Lib.hid hq13; have B13 := (below2 HBW12.out b13 : Below wb.heap.size wb w13); have hge := B13.size; have hA13 : BlockIs ((w13.alloc (.cells #[.int .i64 0, .int .i64 0, .slice none 0 0, .slice none 0 0, .slice none 0 0, .slice none 0 0] 40)).alloc (.cells #[.int .i64 0, .bool false, .int .u64 0, .int .u64 0, .int .i64 0, .bool false, .int .i64 0, .int .i64 0, .int .i64 0, .int .i64 0, .int .i64 0, .slice none 0 0, .slice none 0 0] 54)) w13.heap.size [.int .i64 0, .int .i64 0, .slice none 0 0, .slice none 0 0, .slice none 0 0, .slice none 0 0] 40 := (BlockIs.new w13 [.int .i64 0, .int .i64 0, .slice none 0 0, .slice none 0 0, .slice none 0 0, .slice none 0 0] _).alloc' _; have hC13 : BlockIs ((w13.alloc (.cells #[.int .i64 0, .int .i64 0, .slice none 0 0, .slice none 0 0, .slice none 0 0, .slice none 0 0] 40)).alloc (.cells #[.int .i64 0, .bool false, .int .u64 0, .int .u64 0, .int .i64 0, .bool false, .int .i64 0, .int .i64 0, .int .i64 0, .int .i64 0, .int .i64 0, .slice none 0 0, .slice none 0 0] 54)) (w13.heap.size + 1) [.int .i64 0, .bool false, .int .u64 0, .int .u64 0, .int .i64 0, .bool false, .int .i64 0, .int .i64 0, .int .i64 0, .int .i64 0, .int .i64 0, .slice none 0 0, .slice none 0 0] 54 := BlockIs.newAt' _ [.int .i64 0, .bool false, .int .u64 0, .int .u64 0, .int .i64 0, .bool false, .int .i64 0, .int .i64 0, .int .i64 0, .int .i64 0, .int .i64 0, .slice none 0 0, .slice none 0 0] _ (by simp); have bb13 : Below wb.heap.size wb ((w13.alloc (.cells #[.int .i64 0, .int .i64 0, .slice none 0 0, .slice none 0 0, .slice none 0 0, .slice none 0 0] 40)).alloc (.cells #[.int .i64 0, .bool false, .int .u64 0, .int .u64 0, .int .i64 0, .bool false, .int .i64 0, .int .i64 0, .int .i64 0, .int .i64 0, .int .i64 0, .slice none 0 0, .slice none 0 0] 54)) := (B13.alloc B13.size _).alloc (by have := B13.size; simp; omega) _; clear hO hV hp13 hq13 u1 u2 u3 u4)
        | (refine list_store_blk rfl 40 _ _ rfl (w13.heap.size) _ _ 40 (hA13) rfl rfl (by kernel_rfl) rfl (by simp [Value.oneCell']) wb.heap.size wb bb13 (by have := hge; omega) ?_; intro w14 hR14 hoth14 hsz14 bw14)
        | (refine list_store_blk rfl 54 _ _ rfl (w13.heap.size + 1) _ _ 54 (hoth14 _ _ _ (by omega) hC13) rfl rfl (by kernel_rfl) rfl (by simp [Value.oneCell']) wb.heap.size wb bw14 (by have := hge; omega) ?_; intro w15 hR15 hoth15 hsz15 bw15))
      have hk15 : KeepOff (fun _ => False) w13 w15 := fun b arr T _ hh => hoth15 b arr T (by have := hh.lt; omega) (hoth14 b arr T (by have := hh.lt; omega) ((hh.alloc' _).alloc' _))
      have hv15 := (HV13.out.step hk15).now
      have hBv15 := hBvb.below bw15
      have hK3 : (3 : Int) ≤ 3 ∧ (3 : Int) ≤ 6 := by decide
      have hsm2 : SmallP (storeP m.pl 3 0 0 v.pl) 21 := by rw [← do_st HSM0.out hK3 v 1]; exact doP_small HSM0.out (stO 3 v) HL20.out 1
      have hq2 : v2.pl = loadP (storeP m.pl 3 0 0 v.pl) 3 0 0 := by
        have e1 : m1.pl = storeP m.pl 3 0 0 v.pl := HP10.out.trans (do_st HSM0.out hK3 v 1)
        have e2 : v2.pl = (doP m1.pl (ldO 3) 2).2 := HQ13.out
        rw [e2, e1]; exact do_ld hsm2 hK3 2
      have hsl := st_ld HSM0.out v
      have heq : v2.bans.2 = v.bans.2 := (congrArg Vp.bans hq2).trans hsl.1
      have HSB := Lib.hid (fun (W : World) (hB : Below w15.heap.size w15 W) => bans_same v2.bans.1 v.bans.1 v.bans.2 W (by rw [← heq]; exact ReadsL.below hv15.1 hB) (ReadsL.below HVB.out.1 (bw15.trans (hB.mono bw15.size))))
      rw [g1, EV1.out, heq] at HSB
      rw [heq] at hR15
      clear heq
      have HB15 := Lib.hid bw15
      clear hoth14 hoth15 k0 k1 k2 k3 k4 k5 l0 l1 l2 hA13 hC13 bb13 bw14 bw15 hq2 hsl g1 g2 hK3 hsm2
      have d0 := hR15.cell (i := 0) rfl; have d1 := hR15.cell (i := 1) rfl; have d2 := hR15.cell (i := 2) rfl; have d3 := hR15.cell (i := 3) rfl; have d4 := hR15.cell (i := 4) rfl; have d5 := hR15.cell (i := 5) rfl; have d6 := hR15.cell (i := 6) rfl; have d7 := hR15.cell (i := 7) rfl; have d8 := hR15.cell (i := 8) rfl; have d9 := hR15.cell (i := 9) rfl; have d10 := hR15.cell (i := 10) rfl; have d11 := hR15.cell (i := 11) rfl; have d12 := hR15.cell (i := 12) rfl; have v0 := hBv15.cell (i := 0) rfl; have v1 := hBv15.cell (i := 1) rfl; have v2 := hBv15.cell (i := 2) rfl; have v3 := hBv15.cell (i := 3) rfl; have v4 := hBv15.cell (i := 4) rfl; have v5 := hBv15.cell (i := 5) rfl; have v6 := hBv15.cell (i := 6) rfl; have v7 := hBv15.cell (i := 7) rfl; have v8 := hBv15.cell (i := 8) rfl; have v9 := hBv15.cell (i := 9) rfl; have v10 := hBv15.cell (i := 10) rfl; have v11 := hBv15.cell (i := 11) rfl; have v12 := hBv15.cell (i := 12) rfl
      go_wp2_with (go_at_call 25; (with_reducible refine (HSB.out _ (Below.refl _ _)).mono ?_); rintro e w16 ⟨rfl, b16⟩)
      go_roundw
      case rel => exact ⟨4, by omega, by omega, rfl, below2 HB15.out b16⟩
      case measure => simp [intOf]
    · clear hk3 hk7
      have hXr := hXb.below HB.out; have hBvr := hBvb.below HB.out
      have hge := HB.out.size
      have HD1 := Lib.hid (fun (W : World) (hB : Below wb.heap.size wb W) => memDo_off (fun _ => False) m (stO 4 v) 1 W (fun b h => h.elim) (HOB.out.below hB) (⟨ReadsL.below HVB.out.1 hB, ReadsL.below HVB.out.2 hB⟩ : OqAt W (stO 4 v)) (by decide) HDK.out HL45.out.1 HL45.out.2)
      have HD2 := Lib.hid (fun (m1 : Mm) (W : World) (hO : HoldOff (fun _ => False) W fun W => MmAt W m1) (hd : DoOk m1) => memDo_off (fun _ => False) m1 (ldO 4) 2 W (fun b h => h.elim) hO (nil_op _ _ rfl rfl) (by decide) hd (by decide) (by decide))
      unfold stO at HD1; unfold ldO zeroPe zeroEn at HD2
      simp only [show ((0 : Nat) : Int) = 0 from rfl, E1.out, E2.out, E3.out, E4.out, EV1.out, EV2.out] at HD1 HD2
      obtain ⟨w9, hw9⟩ : ∃ w9, w9 = wr.alloc (.cells #[.int .i64 4, .int .i64 0, .int .i64 0] 44) := ⟨_, rfl⟩
      have b9 : Below wb.heap.size wb w9 := by subst hw9; exact HB.out.alloc HB.out.size _
      have hL9 : BlockIs w9 wr.heap.size [.int .i64 4, .int .i64 0, .int .i64 0] 44 := by subst hw9; exact BlockIs.new wr _ _
      have hX9 : BlockIs w9 X [.int .i64 m.inn, .int .i64 m.out, .slice y1 m.bans.2.length yc1, .slice y2 m.book.2.length yc2, .slice y3 m.parts.2.length yc3, .slice y4 m.locks.2.length yc4] 40 := by subst hw9; exact hXr.alloc' _
      have hV9 : BlockIs w9 (w.heap.size + 1 + 1) [.int .i64 v.n, .bool v.pe.en.ad.v6, .int .u64 v.pe.en.ad.hi, .int .u64 v.pe.en.ad.lo, .int .i64 v.pe.en.port, .bool v.pe.came, .int .i64 v.pe.since, .int .i64 v.pe.pts, .int .i64 v.pe.at_, .int .i64 v.pe.ping, .int .i64 v.pe.work, .slice a4 v.bans.2.length c4, .slice a5 v.book.2.length c5] 54 := by subst hw9; exact hBvr.alloc' _
      go_upto_region 10 with fail
      rw [← hw9]
      clear hw9
      have k0 := hX9.cell (i := 0) rfl; have k1 := hX9.cell (i := 1) rfl; have k2 := hX9.cell (i := 2) rfl; have k3 := hX9.cell (i := 3) rfl; have k4 := hX9.cell (i := 4) rfl; have k5 := hX9.cell (i := 5) rfl; have l0 := hL9.cell (i := 0) rfl; have l1 := hL9.cell (i := 1) rfl; have l2 := hL9.cell (i := 2) rfl
      have hge9 := b9.size
      go_upto_region 11 with (first
        | (refine list_load_blk rfl 54 _ rfl (w.heap.size + 1 + 1) [.int .i64 v.n, .bool v.pe.en.ad.v6, .int .u64 v.pe.en.ad.hi, .int .u64 v.pe.en.ad.lo, .int .i64 v.pe.en.port, .bool v.pe.came, .int .i64 v.pe.since, .int .i64 v.pe.pts, .int .i64 v.pe.at_, .int .i64 v.pe.ping, .int .i64 v.pe.work, .slice a4 v.bans.2.length c4, .slice a5 v.book.2.length c5] 54 hV9 rfl Tryz.underlying54 (by kernel_rfl) ?_)
        | (go_at_call 14; (with_reducible refine (HD1.out _ b9).mono ?_); rintro e w10 ⟨m1, v1, rfl, hO, hV, hp10, hq10, b10⟩; obtain ⟨z1, z2, z3, z4, zc1, zc2, zc3, zc4, u1, u2, u3, u4⟩ := mm_slices hO.now; obtain ⟨_, p1, pc1, g1, _⟩ := ba_open hV.now.1; obtain ⟨_, p2, pc2, g2, _⟩ := ey_open hV.now.2; rw [u1, u2, u3, u4, g1, g2]; have HO10 := Lib.hid hO; have HP10 := Lib.hid hp10; have HU := Lib.hid (And.intro u1 (And.intro u2 (And.intro u3 u4))); have B10 := (below2 b9 b10 : Below wb.heap.size wb w10); have hge := B10.size; have hA10 : BlockIs ((w10.alloc (.cells #[.int .i64 0, .int .i64 0, .slice none 0 0, .slice none 0 0, .slice none 0 0, .slice none 0 0] 40)).alloc (.cells #[.int .i64 0, .bool false, .int .u64 0, .int .u64 0, .int .i64 0, .bool false, .int .i64 0, .int .i64 0, .int .i64 0, .int .i64 0, .int .i64 0, .slice none 0 0, .slice none 0 0] 54)) w10.heap.size [.int .i64 0, .int .i64 0, .slice none 0 0, .slice none 0 0, .slice none 0 0, .slice none 0 0] 40 := (BlockIs.new w10 [.int .i64 0, .int .i64 0, .slice none 0 0, .slice none 0 0, .slice none 0 0, .slice none 0 0] _).alloc' _; have hC10 : BlockIs ((w10.alloc (.cells #[.int .i64 0, .int .i64 0, .slice none 0 0, .slice none 0 0, .slice none 0 0, .slice none 0 0] 40)).alloc (.cells #[.int .i64 0, .bool false, .int .u64 0, .int .u64 0, .int .i64 0, .bool false, .int .i64 0, .int .i64 0, .int .i64 0, .int .i64 0, .int .i64 0, .slice none 0 0, .slice none 0 0] 54)) (w10.heap.size + 1) [.int .i64 0, .bool false, .int .u64 0, .int .u64 0, .int .i64 0, .bool false, .int .i64 0, .int .i64 0, .int .i64 0, .int .i64 0, .int .i64 0, .slice none 0 0, .slice none 0 0] 54 := BlockIs.newAt' _ [.int .i64 0, .bool false, .int .u64 0, .int .u64 0, .int .i64 0, .bool false, .int .i64 0, .int .i64 0, .int .i64 0, .int .i64 0, .int .i64 0, .slice none 0 0, .slice none 0 0] _ (by simp); have bb10 : Below wb.heap.size wb ((w10.alloc (.cells #[.int .i64 0, .int .i64 0, .slice none 0 0, .slice none 0 0, .slice none 0 0, .slice none 0 0] 40)).alloc (.cells #[.int .i64 0, .bool false, .int .u64 0, .int .u64 0, .int .i64 0, .bool false, .int .i64 0, .int .i64 0, .int .i64 0, .int .i64 0, .int .i64 0, .slice none 0 0, .slice none 0 0] 54)) := (B10.alloc B10.size _).alloc (by have := B10.size; simp; omega) _; have hL10 := hL9.below b10; clear hO hV hp10 hq10 u1 u2 u3 u4 g1 g2)
        | (refine list_store_blk rfl 40 _ _ rfl (w10.heap.size) _ _ 40 (hA10) rfl rfl (by kernel_rfl) rfl (by simp [Value.oneCell']) wb.heap.size wb bb10 (by have := hge; omega) ?_; intro w11 hR11 hoth11 hsz11 bw11)
        | (refine list_store_blk rfl 54 _ _ rfl (w10.heap.size + 1) _ _ 54 (hoth11 _ _ _ (by omega) hC10) rfl rfl (by kernel_rfl) rfl (by simp [Value.oneCell']) wb.heap.size wb bw11 (by have := hge; omega) ?_; intro w12 hR12 hoth12 hsz12 bw12))
      have hk12 : KeepOff (fun _ => False) w10 w12 := fun b arr T _ hh => hoth12 b arr T (by have := hh.lt; omega) (hoth11 b arr T (by have := hh.lt; omega) ((hh.alloc' _).alloc' _))
      have hM12 := hoth12 _ _ _ (by omega) hR11
      have hL12 := hk12 _ _ _ (fun h => h) hL10
      have hO12 := HO10.out.step hk12
      have hs1 : SmallP m1.pl 21 := by rw [HP10.out]; exact doP_small HSM0.out _ HL20.out _
      have hl1 : LocksOk m1.pl := by rw [HP10.out]; exact doP_locks HLK0.out _ _
      have hd2 := HD2.out m1 w12 hO12 (doOk_of hs1 (by decide) hl1)
      simp only [HU.out.1, HU.out.2.1, HU.out.2.2.1, HU.out.2.2.2] at hd2
      have HDD2 := Lib.hid hd2; have HBW12 := Lib.hid bw12
      have hge12 := bw12.size
      clear hd2 hO12 hs1 hl1 hoth11 hoth12 HD1 HD2 k0 k1 k2 k3 k4 k5 l0 l1 l2 hA10 hC10 bb10 bw11
      have k0 := hM12.cell (i := 0) rfl; have k1 := hM12.cell (i := 1) rfl; have k2 := hM12.cell (i := 2) rfl; have k3 := hM12.cell (i := 3) rfl; have k4 := hM12.cell (i := 4) rfl; have k5 := hM12.cell (i := 5) rfl; have l0 := hL12.cell (i := 0) rfl; have l1 := hL12.cell (i := 1) rfl; have l2 := hL12.cell (i := 2) rfl
      go_upto_region 12 with (first
        | (go_at_call 14; (with_reducible refine HDD2.out.mono ?_); rintro e w13 ⟨m2, v2, rfl, hO, hV, hp13, hq13, b13⟩; obtain ⟨x1, x2, x3, x4, xc1, xc2, xc3, xc4, u1, u2, u3, u4⟩ := mm_slices hO.now; obtain ⟨_, r1, rc1, g1, _⟩ := ba_open hV.now.1; obtain ⟨_, r2, rc2, g2, _⟩ := ey_open hV.now.2; rw [u1, u2, u3, u4, g1, g2]; have HV13 := Lib.hid hV; have HQ13 := Lib.hid hq13; have B13 := (below2 HBW12.out b13 : Below wb.heap.size wb w13); have hge := B13.size; have hA13 : BlockIs ((w13.alloc (.cells #[.int .i64 0, .int .i64 0, .slice none 0 0, .slice none 0 0, .slice none 0 0, .slice none 0 0] 40)).alloc (.cells #[.int .i64 0, .bool false, .int .u64 0, .int .u64 0, .int .i64 0, .bool false, .int .i64 0, .int .i64 0, .int .i64 0, .int .i64 0, .int .i64 0, .slice none 0 0, .slice none 0 0] 54)) w13.heap.size [.int .i64 0, .int .i64 0, .slice none 0 0, .slice none 0 0, .slice none 0 0, .slice none 0 0] 40 := (BlockIs.new w13 [.int .i64 0, .int .i64 0, .slice none 0 0, .slice none 0 0, .slice none 0 0, .slice none 0 0] _).alloc' _; have hC13 : BlockIs ((w13.alloc (.cells #[.int .i64 0, .int .i64 0, .slice none 0 0, .slice none 0 0, .slice none 0 0, .slice none 0 0] 40)).alloc (.cells #[.int .i64 0, .bool false, .int .u64 0, .int .u64 0, .int .i64 0, .bool false, .int .i64 0, .int .i64 0, .int .i64 0, .int .i64 0, .int .i64 0, .slice none 0 0, .slice none 0 0] 54)) (w13.heap.size + 1) [.int .i64 0, .bool false, .int .u64 0, .int .u64 0, .int .i64 0, .bool false, .int .i64 0, .int .i64 0, .int .i64 0, .int .i64 0, .int .i64 0, .slice none 0 0, .slice none 0 0] 54 := BlockIs.newAt' _ [.int .i64 0, .bool false, .int .u64 0, .int .u64 0, .int .i64 0, .bool false, .int .i64 0, .int .i64 0, .int .i64 0, .int .i64 0, .int .i64 0, .slice none 0 0, .slice none 0 0] _ (by simp); have bb13 : Below wb.heap.size wb ((w13.alloc (.cells #[.int .i64 0, .int .i64 0, .slice none 0 0, .slice none 0 0, .slice none 0 0, .slice none 0 0] 40)).alloc (.cells #[.int .i64 0, .bool false, .int .u64 0, .int .u64 0, .int .i64 0, .bool false, .int .i64 0, .int .i64 0, .int .i64 0, .int .i64 0, .int .i64 0, .slice none 0 0, .slice none 0 0] 54)) := (B13.alloc B13.size _).alloc (by have := B13.size; simp; omega) _; clear hO hV hp13 hq13 u1 u2 u3 u4)
        | (refine list_store_blk rfl 40 _ _ rfl (w13.heap.size) _ _ 40 (hA13) rfl rfl (by kernel_rfl) rfl (by simp [Value.oneCell']) wb.heap.size wb bb13 (by have := hge; omega) ?_; intro w14 hR14 hoth14 hsz14 bw14)
        | (refine list_store_blk rfl 54 _ _ rfl (w13.heap.size + 1) _ _ 54 (hoth14 _ _ _ (by omega) hC13) rfl rfl (by kernel_rfl) rfl (by simp [Value.oneCell']) wb.heap.size wb bw14 (by have := hge; omega) ?_; intro w15 hR15 hoth15 hsz15 bw15))
      have hk15 : KeepOff (fun _ => False) w13 w15 := fun b arr T _ hh => hoth15 b arr T (by have := hh.lt; omega) (hoth14 b arr T (by have := hh.lt; omega) ((hh.alloc' _).alloc' _))
      have hv15 := (HV13.out.step hk15).now
      have hBv15 := hBvb.below bw15
      have hK3 : (3 : Int) ≤ 4 ∧ (4 : Int) ≤ 6 := by decide
      have hsm2 : SmallP (storeP m.pl 4 0 0 v.pl) 21 := by rw [← do_st HSM0.out hK3 v 1]; exact doP_small HSM0.out (stO 4 v) HL20.out 1
      have hq2 : v2.pl = loadP (storeP m.pl 4 0 0 v.pl) 4 0 0 := by
        have e1 : m1.pl = storeP m.pl 4 0 0 v.pl := HP10.out.trans (do_st HSM0.out hK3 v 1)
        have e2 : v2.pl = (doP m1.pl (ldO 4) 2).2 := HQ13.out
        rw [e2, e1]; exact do_ld hsm2 hK3 2
      have hsl := st_ld HSM0.out v
      have heq : v2.book.2 = v.book.2 := (congrArg Vp.book hq2).trans hsl.2.1
      have HSB := Lib.hid (fun (W : World) (hB : Below w15.heap.size w15 W) => book_same v2.book.1 v.book.1 v.book.2 W (by rw [← heq]; exact ReadsL.below hv15.2 hB) (ReadsL.below HVB.out.2 (bw15.trans (hB.mono bw15.size))))
      rw [g2, EV2.out, heq] at HSB
      rw [heq] at hR15
      clear heq
      have HB15 := Lib.hid bw15
      clear hoth14 hoth15 k0 k1 k2 k3 k4 k5 l0 l1 l2 hA13 hC13 bb13 bw14 bw15 hq2 hsl g1 g2 hK3 hsm2
      have d0 := hR15.cell (i := 0) rfl; have d1 := hR15.cell (i := 1) rfl; have d2 := hR15.cell (i := 2) rfl; have d3 := hR15.cell (i := 3) rfl; have d4 := hR15.cell (i := 4) rfl; have d5 := hR15.cell (i := 5) rfl; have d6 := hR15.cell (i := 6) rfl; have d7 := hR15.cell (i := 7) rfl; have d8 := hR15.cell (i := 8) rfl; have d9 := hR15.cell (i := 9) rfl; have d10 := hR15.cell (i := 10) rfl; have d11 := hR15.cell (i := 11) rfl; have d12 := hR15.cell (i := 12) rfl; have v0 := hBv15.cell (i := 0) rfl; have v1 := hBv15.cell (i := 1) rfl; have v2 := hBv15.cell (i := 2) rfl; have v3 := hBv15.cell (i := 3) rfl; have v4 := hBv15.cell (i := 4) rfl; have v5 := hBv15.cell (i := 5) rfl; have v6 := hBv15.cell (i := 6) rfl; have v7 := hBv15.cell (i := 7) rfl; have v8 := hBv15.cell (i := 8) rfl; have v9 := hBv15.cell (i := 9) rfl; have v10 := hBv15.cell (i := 10) rfl; have v11 := hBv15.cell (i := 11) rfl; have v12 := hBv15.cell (i := 12) rfl
      go_wp2_with (go_at_call 26; (with_reducible refine (HSB.out _ (Below.refl _ _)).mono ?_); rintro e w16 ⟨rfl, b16⟩)
      go_roundw
      case rel => exact ⟨5, by omega, by omega, rfl, below2 HB15.out b16⟩
      case measure => simp [intOf]
    · clear hk3 hk7
      have hXr := hXb.below HB.out; have hBvr := hBvb.below HB.out
      have hge := HB.out.size
      have HD1 := Lib.hid (fun (W : World) (hB : Below wb.heap.size wb W) => memDo_off (fun _ => False) m (stO 5 v) 1 W (fun b h => h.elim) (HOB.out.below hB) (⟨ReadsL.below HVB.out.1 hB, ReadsL.below HVB.out.2 hB⟩ : OqAt W (stO 5 v)) (by decide) HDK.out HL45.out.1 HL45.out.2)
      have HD2 := Lib.hid (fun (m1 : Mm) (W : World) (hO : HoldOff (fun _ => False) W fun W => MmAt W m1) (hd : DoOk m1) => memDo_off (fun _ => False) m1 (ldO 5) 2 W (fun b h => h.elim) hO (nil_op _ _ rfl rfl) (by decide) hd (by decide) (by decide))
      unfold stO at HD1; unfold ldO zeroPe zeroEn at HD2
      simp only [show ((0 : Nat) : Int) = 0 from rfl, E1.out, E2.out, E3.out, E4.out, EV1.out, EV2.out] at HD1 HD2
      obtain ⟨w9, hw9⟩ : ∃ w9, w9 = wr.alloc (.cells #[.int .i64 5, .int .i64 0, .int .i64 0] 44) := ⟨_, rfl⟩
      have b9 : Below wb.heap.size wb w9 := by subst hw9; exact HB.out.alloc HB.out.size _
      have hL9 : BlockIs w9 wr.heap.size [.int .i64 5, .int .i64 0, .int .i64 0] 44 := by subst hw9; exact BlockIs.new wr _ _
      have hX9 : BlockIs w9 X [.int .i64 m.inn, .int .i64 m.out, .slice y1 m.bans.2.length yc1, .slice y2 m.book.2.length yc2, .slice y3 m.parts.2.length yc3, .slice y4 m.locks.2.length yc4] 40 := by subst hw9; exact hXr.alloc' _
      have hV9 : BlockIs w9 (w.heap.size + 1 + 1) [.int .i64 v.n, .bool v.pe.en.ad.v6, .int .u64 v.pe.en.ad.hi, .int .u64 v.pe.en.ad.lo, .int .i64 v.pe.en.port, .bool v.pe.came, .int .i64 v.pe.since, .int .i64 v.pe.pts, .int .i64 v.pe.at_, .int .i64 v.pe.ping, .int .i64 v.pe.work, .slice a4 v.bans.2.length c4, .slice a5 v.book.2.length c5] 54 := by subst hw9; exact hBvr.alloc' _
      go_upto_region 10 with fail
      rw [← hw9]
      clear hw9
      have k0 := hX9.cell (i := 0) rfl; have k1 := hX9.cell (i := 1) rfl; have k2 := hX9.cell (i := 2) rfl; have k3 := hX9.cell (i := 3) rfl; have k4 := hX9.cell (i := 4) rfl; have k5 := hX9.cell (i := 5) rfl; have l0 := hL9.cell (i := 0) rfl; have l1 := hL9.cell (i := 1) rfl; have l2 := hL9.cell (i := 2) rfl
      have hge9 := b9.size
      go_upto_region 11 with (first
        | (refine list_load_blk rfl 54 _ rfl (w.heap.size + 1 + 1) [.int .i64 v.n, .bool v.pe.en.ad.v6, .int .u64 v.pe.en.ad.hi, .int .u64 v.pe.en.ad.lo, .int .i64 v.pe.en.port, .bool v.pe.came, .int .i64 v.pe.since, .int .i64 v.pe.pts, .int .i64 v.pe.at_, .int .i64 v.pe.ping, .int .i64 v.pe.work, .slice a4 v.bans.2.length c4, .slice a5 v.book.2.length c5] 54 hV9 rfl Tryz.underlying54 (by kernel_rfl) ?_)
        | (go_at_call 14; (with_reducible refine (HD1.out _ b9).mono ?_); rintro e w10 ⟨m1, v1, rfl, hO, hV, hp10, hq10, b10⟩; obtain ⟨z1, z2, z3, z4, zc1, zc2, zc3, zc4, u1, u2, u3, u4⟩ := mm_slices hO.now; obtain ⟨_, p1, pc1, g1, _⟩ := ba_open hV.now.1; obtain ⟨_, p2, pc2, g2, _⟩ := ey_open hV.now.2; rw [u1, u2, u3, u4, g1, g2]; have HO10 := Lib.hid hO; have HP10 := Lib.hid hp10; have HU := Lib.hid (And.intro u1 (And.intro u2 (And.intro u3 u4))); have B10 := (below2 b9 b10 : Below wb.heap.size wb w10); have hge := B10.size; have hA10 : BlockIs ((w10.alloc (.cells #[.int .i64 0, .int .i64 0, .slice none 0 0, .slice none 0 0, .slice none 0 0, .slice none 0 0] 40)).alloc (.cells #[.int .i64 0, .bool false, .int .u64 0, .int .u64 0, .int .i64 0, .bool false, .int .i64 0, .int .i64 0, .int .i64 0, .int .i64 0, .int .i64 0, .slice none 0 0, .slice none 0 0] 54)) w10.heap.size [.int .i64 0, .int .i64 0, .slice none 0 0, .slice none 0 0, .slice none 0 0, .slice none 0 0] 40 := (BlockIs.new w10 [.int .i64 0, .int .i64 0, .slice none 0 0, .slice none 0 0, .slice none 0 0, .slice none 0 0] _).alloc' _; have hC10 : BlockIs ((w10.alloc (.cells #[.int .i64 0, .int .i64 0, .slice none 0 0, .slice none 0 0, .slice none 0 0, .slice none 0 0] 40)).alloc (.cells #[.int .i64 0, .bool false, .int .u64 0, .int .u64 0, .int .i64 0, .bool false, .int .i64 0, .int .i64 0, .int .i64 0, .int .i64 0, .int .i64 0, .slice none 0 0, .slice none 0 0] 54)) (w10.heap.size + 1) [.int .i64 0, .bool false, .int .u64 0, .int .u64 0, .int .i64 0, .bool false, .int .i64 0, .int .i64 0, .int .i64 0, .int .i64 0, .int .i64 0, .slice none 0 0, .slice none 0 0] 54 := BlockIs.newAt' _ [.int .i64 0, .bool false, .int .u64 0, .int .u64 0, .int .i64 0, .bool false, .int .i64 0, .int .i64 0, .int .i64 0, .int .i64 0, .int .i64 0, .slice none 0 0, .slice none 0 0] _ (by simp); have bb10 : Below wb.heap.size wb ((w10.alloc (.cells #[.int .i64 0, .int .i64 0, .slice none 0 0, .slice none 0 0, .slice none 0 0, .slice none 0 0] 40)).alloc (.cells #[.int .i64 0, .bool false, .int .u64 0, .int .u64 0, .int .i64 0, .bool false, .int .i64 0, .int .i64 0, .int .i64 0, .int .i64 0, .int .i64 0, .slice none 0 0, .slice none 0 0] 54)) := (B10.alloc B10.size _).alloc (by have := B10.size; simp; omega) _; have hL10 := hL9.below b10; clear hO hV hp10 hq10 u1 u2 u3 u4 g1 g2)
        | (refine list_store_blk rfl 40 _ _ rfl (w10.heap.size) _ _ 40 (hA10) rfl rfl (by kernel_rfl) rfl (by simp [Value.oneCell']) wb.heap.size wb bb10 (by have := hge; omega) ?_; intro w11 hR11 hoth11 hsz11 bw11)
        | (refine list_store_blk rfl 54 _ _ rfl (w10.heap.size + 1) _ _ 54 (hoth11 _ _ _ (by omega) hC10) rfl rfl (by kernel_rfl) rfl (by simp [Value.oneCell']) wb.heap.size wb bw11 (by have := hge; omega) ?_; intro w12 hR12 hoth12 hsz12 bw12))
      have hk12 : KeepOff (fun _ => False) w10 w12 := fun b arr T _ hh => hoth12 b arr T (by have := hh.lt; omega) (hoth11 b arr T (by have := hh.lt; omega) ((hh.alloc' _).alloc' _))
      have hM12 := hoth12 _ _ _ (by omega) hR11
      have hL12 := hk12 _ _ _ (fun h => h) hL10
      have hO12 := HO10.out.step hk12
      have hs1 : SmallP m1.pl 21 := by rw [HP10.out]; exact doP_small HSM0.out _ HL20.out _
      have hl1 : LocksOk m1.pl := by rw [HP10.out]; exact doP_locks HLK0.out _ _
      have hd2 := HD2.out m1 w12 hO12 (doOk_of hs1 (by decide) hl1)
      simp only [HU.out.1, HU.out.2.1, HU.out.2.2.1, HU.out.2.2.2] at hd2
      have HDD2 := Lib.hid hd2; have HBW12 := Lib.hid bw12
      have hge12 := bw12.size
      clear hd2 hO12 hs1 hl1 hoth11 hoth12 HD1 HD2 k0 k1 k2 k3 k4 k5 l0 l1 l2 hA10 hC10 bb10 bw11
      have k0 := hM12.cell (i := 0) rfl; have k1 := hM12.cell (i := 1) rfl; have k2 := hM12.cell (i := 2) rfl; have k3 := hM12.cell (i := 3) rfl; have k4 := hM12.cell (i := 4) rfl; have k5 := hM12.cell (i := 5) rfl; have l0 := hL12.cell (i := 0) rfl; have l1 := hL12.cell (i := 1) rfl; have l2 := hL12.cell (i := 2) rfl
      go_upto_region 12 with (first
        | (go_at_call 14; (with_reducible refine HDD2.out.mono ?_); rintro e w13 ⟨m2, v2, rfl, hO, hV, hp13, hq13, b13⟩; obtain ⟨x1, x2, x3, x4, xc1, xc2, xc3, xc4, u1, u2, u3, u4⟩ := mm_slices hO.now; obtain ⟨_, r1, rc1, g1, _⟩ := ba_open hV.now.1; obtain ⟨_, r2, rc2, g2, _⟩ := ey_open hV.now.2; rw [u1, u2, u3, u4, g1, g2]; have HV13 := Lib.hid hV; have HQ13 := Lib.hid hq13; have B13 := (below2 HBW12.out b13 : Below wb.heap.size wb w13); have hge := B13.size; have hA13 : BlockIs ((w13.alloc (.cells #[.int .i64 0, .int .i64 0, .slice none 0 0, .slice none 0 0, .slice none 0 0, .slice none 0 0] 40)).alloc (.cells #[.int .i64 0, .bool false, .int .u64 0, .int .u64 0, .int .i64 0, .bool false, .int .i64 0, .int .i64 0, .int .i64 0, .int .i64 0, .int .i64 0, .slice none 0 0, .slice none 0 0] 54)) w13.heap.size [.int .i64 0, .int .i64 0, .slice none 0 0, .slice none 0 0, .slice none 0 0, .slice none 0 0] 40 := (BlockIs.new w13 [.int .i64 0, .int .i64 0, .slice none 0 0, .slice none 0 0, .slice none 0 0, .slice none 0 0] _).alloc' _; have hC13 : BlockIs ((w13.alloc (.cells #[.int .i64 0, .int .i64 0, .slice none 0 0, .slice none 0 0, .slice none 0 0, .slice none 0 0] 40)).alloc (.cells #[.int .i64 0, .bool false, .int .u64 0, .int .u64 0, .int .i64 0, .bool false, .int .i64 0, .int .i64 0, .int .i64 0, .int .i64 0, .int .i64 0, .slice none 0 0, .slice none 0 0] 54)) (w13.heap.size + 1) [.int .i64 0, .bool false, .int .u64 0, .int .u64 0, .int .i64 0, .bool false, .int .i64 0, .int .i64 0, .int .i64 0, .int .i64 0, .int .i64 0, .slice none 0 0, .slice none 0 0] 54 := BlockIs.newAt' _ [.int .i64 0, .bool false, .int .u64 0, .int .u64 0, .int .i64 0, .bool false, .int .i64 0, .int .i64 0, .int .i64 0, .int .i64 0, .int .i64 0, .slice none 0 0, .slice none 0 0] _ (by simp); have bb13 : Below wb.heap.size wb ((w13.alloc (.cells #[.int .i64 0, .int .i64 0, .slice none 0 0, .slice none 0 0, .slice none 0 0, .slice none 0 0] 40)).alloc (.cells #[.int .i64 0, .bool false, .int .u64 0, .int .u64 0, .int .i64 0, .bool false, .int .i64 0, .int .i64 0, .int .i64 0, .int .i64 0, .int .i64 0, .slice none 0 0, .slice none 0 0] 54)) := (B13.alloc B13.size _).alloc (by have := B13.size; simp; omega) _; clear hO hV hp13 hq13 u1 u2 u3 u4)
        | (refine list_store_blk rfl 40 _ _ rfl (w13.heap.size) _ _ 40 (hA13) rfl rfl (by kernel_rfl) rfl (by simp [Value.oneCell']) wb.heap.size wb bb13 (by have := hge; omega) ?_; intro w14 hR14 hoth14 hsz14 bw14)
        | (refine list_store_blk rfl 54 _ _ rfl (w13.heap.size + 1) _ _ 54 (hoth14 _ _ _ (by omega) hC13) rfl rfl (by kernel_rfl) rfl (by simp [Value.oneCell']) wb.heap.size wb bw14 (by have := hge; omega) ?_; intro w15 hR15 hoth15 hsz15 bw15))
      have hk15 : KeepOff (fun _ => False) w13 w15 := fun b arr T _ hh => hoth15 b arr T (by have := hh.lt; omega) (hoth14 b arr T (by have := hh.lt; omega) ((hh.alloc' _).alloc' _))
      have hv15 := (HV13.out.step hk15).now
      have hBv15 := hBvb.below bw15
      have hK3 : (3 : Int) ≤ 5 ∧ (5 : Int) ≤ 6 := by decide
      have hsm2 : SmallP (storeP m.pl 5 0 0 v.pl) 21 := by rw [← do_st HSM0.out hK3 v 1]; exact doP_small HSM0.out (stO 5 v) HL20.out 1
      have hq2 : v2.pl = loadP (storeP m.pl 5 0 0 v.pl) 5 0 0 := by
        have e1 : m1.pl = storeP m.pl 5 0 0 v.pl := HP10.out.trans (do_st HSM0.out hK3 v 1)
        have e2 : v2.pl = (doP m1.pl (ldO 5) 2).2 := HQ13.out
        rw [e2, e1]; exact do_ld hsm2 hK3 2
      have hsl := st_ld HSM0.out v
      have heq : v2.n = v.n := (congrArg Vp.n hq2).trans hsl.2.2.1
      rw [heq] at hR15
      clear heq
      have HB15 := Lib.hid bw15
      clear hoth14 hoth15 k0 k1 k2 k3 k4 k5 l0 l1 l2 hA13 hC13 bb13 bw14 bw15 hq2 hsl g1 g2 hK3 hsm2
      have d0 := hR15.cell (i := 0) rfl; have d1 := hR15.cell (i := 1) rfl; have d2 := hR15.cell (i := 2) rfl; have d3 := hR15.cell (i := 3) rfl; have d4 := hR15.cell (i := 4) rfl; have d5 := hR15.cell (i := 5) rfl; have d6 := hR15.cell (i := 6) rfl; have d7 := hR15.cell (i := 7) rfl; have d8 := hR15.cell (i := 8) rfl; have d9 := hR15.cell (i := 9) rfl; have d10 := hR15.cell (i := 10) rfl; have d11 := hR15.cell (i := 11) rfl; have d12 := hR15.cell (i := 12) rfl; have v0 := hBv15.cell (i := 0) rfl; have v1 := hBv15.cell (i := 1) rfl; have v2 := hBv15.cell (i := 2) rfl; have v3 := hBv15.cell (i := 3) rfl; have v4 := hBv15.cell (i := 4) rfl; have v5 := hBv15.cell (i := 5) rfl; have v6 := hBv15.cell (i := 6) rfl; have v7 := hBv15.cell (i := 7) rfl; have v8 := hBv15.cell (i := 8) rfl; have v9 := hBv15.cell (i := 9) rfl; have v10 := hBv15.cell (i := 10) rfl; have v11 := hBv15.cell (i := 11) rfl; have v12 := hBv15.cell (i := 12) rfl
      go_wp2_with fail
      go_roundw
      case rel => exact ⟨6, by omega, by omega, rfl, HB15.out⟩
      case measure => simp [intOf]
    · clear hk3 hk7
      have hXr := hXb.below HB.out; have hBvr := hBvb.below HB.out
      have hge := HB.out.size
      have HD1 := Lib.hid (fun (W : World) (hB : Below wb.heap.size wb W) => memDo_off (fun _ => False) m (stO 6 v) 1 W (fun b h => h.elim) (HOB.out.below hB) (⟨ReadsL.below HVB.out.1 hB, ReadsL.below HVB.out.2 hB⟩ : OqAt W (stO 6 v)) (by decide) HDK.out HL45.out.1 HL45.out.2)
      have HD2 := Lib.hid (fun (m1 : Mm) (W : World) (hO : HoldOff (fun _ => False) W fun W => MmAt W m1) (hd : DoOk m1) => memDo_off (fun _ => False) m1 (ldO 6) 2 W (fun b h => h.elim) hO (nil_op _ _ rfl rfl) (by decide) hd (by decide) (by decide))
      unfold stO at HD1; unfold ldO zeroPe zeroEn at HD2
      simp only [show ((0 : Nat) : Int) = 0 from rfl, E1.out, E2.out, E3.out, E4.out, EV1.out, EV2.out] at HD1 HD2
      obtain ⟨w9, hw9⟩ : ∃ w9, w9 = wr.alloc (.cells #[.int .i64 6, .int .i64 0, .int .i64 0] 44) := ⟨_, rfl⟩
      have b9 : Below wb.heap.size wb w9 := by subst hw9; exact HB.out.alloc HB.out.size _
      have hL9 : BlockIs w9 wr.heap.size [.int .i64 6, .int .i64 0, .int .i64 0] 44 := by subst hw9; exact BlockIs.new wr _ _
      have hX9 : BlockIs w9 X [.int .i64 m.inn, .int .i64 m.out, .slice y1 m.bans.2.length yc1, .slice y2 m.book.2.length yc2, .slice y3 m.parts.2.length yc3, .slice y4 m.locks.2.length yc4] 40 := by subst hw9; exact hXr.alloc' _
      have hV9 : BlockIs w9 (w.heap.size + 1 + 1) [.int .i64 v.n, .bool v.pe.en.ad.v6, .int .u64 v.pe.en.ad.hi, .int .u64 v.pe.en.ad.lo, .int .i64 v.pe.en.port, .bool v.pe.came, .int .i64 v.pe.since, .int .i64 v.pe.pts, .int .i64 v.pe.at_, .int .i64 v.pe.ping, .int .i64 v.pe.work, .slice a4 v.bans.2.length c4, .slice a5 v.book.2.length c5] 54 := by subst hw9; exact hBvr.alloc' _
      go_upto_region 10 with fail
      rw [← hw9]
      clear hw9
      have k0 := hX9.cell (i := 0) rfl; have k1 := hX9.cell (i := 1) rfl; have k2 := hX9.cell (i := 2) rfl; have k3 := hX9.cell (i := 3) rfl; have k4 := hX9.cell (i := 4) rfl; have k5 := hX9.cell (i := 5) rfl; have l0 := hL9.cell (i := 0) rfl; have l1 := hL9.cell (i := 1) rfl; have l2 := hL9.cell (i := 2) rfl
      have hge9 := b9.size
      go_upto_region 11 with (first
        | (refine list_load_blk rfl 54 _ rfl (w.heap.size + 1 + 1) [.int .i64 v.n, .bool v.pe.en.ad.v6, .int .u64 v.pe.en.ad.hi, .int .u64 v.pe.en.ad.lo, .int .i64 v.pe.en.port, .bool v.pe.came, .int .i64 v.pe.since, .int .i64 v.pe.pts, .int .i64 v.pe.at_, .int .i64 v.pe.ping, .int .i64 v.pe.work, .slice a4 v.bans.2.length c4, .slice a5 v.book.2.length c5] 54 hV9 rfl Tryz.underlying54 (by kernel_rfl) ?_)
        | (go_at_call 14; (with_reducible refine (HD1.out _ b9).mono ?_); rintro e w10 ⟨m1, v1, rfl, hO, hV, hp10, hq10, b10⟩; obtain ⟨z1, z2, z3, z4, zc1, zc2, zc3, zc4, u1, u2, u3, u4⟩ := mm_slices hO.now; obtain ⟨_, p1, pc1, g1, _⟩ := ba_open hV.now.1; obtain ⟨_, p2, pc2, g2, _⟩ := ey_open hV.now.2; rw [u1, u2, u3, u4, g1, g2]; have HO10 := Lib.hid hO; have HP10 := Lib.hid hp10; have HU := Lib.hid (And.intro u1 (And.intro u2 (And.intro u3 u4))); have B10 := (below2 b9 b10 : Below wb.heap.size wb w10); have hge := B10.size; have hA10 : BlockIs ((w10.alloc (.cells #[.int .i64 0, .int .i64 0, .slice none 0 0, .slice none 0 0, .slice none 0 0, .slice none 0 0] 40)).alloc (.cells #[.int .i64 0, .bool false, .int .u64 0, .int .u64 0, .int .i64 0, .bool false, .int .i64 0, .int .i64 0, .int .i64 0, .int .i64 0, .int .i64 0, .slice none 0 0, .slice none 0 0] 54)) w10.heap.size [.int .i64 0, .int .i64 0, .slice none 0 0, .slice none 0 0, .slice none 0 0, .slice none 0 0] 40 := (BlockIs.new w10 [.int .i64 0, .int .i64 0, .slice none 0 0, .slice none 0 0, .slice none 0 0, .slice none 0 0] _).alloc' _; have hC10 : BlockIs ((w10.alloc (.cells #[.int .i64 0, .int .i64 0, .slice none 0 0, .slice none 0 0, .slice none 0 0, .slice none 0 0] 40)).alloc (.cells #[.int .i64 0, .bool false, .int .u64 0, .int .u64 0, .int .i64 0, .bool false, .int .i64 0, .int .i64 0, .int .i64 0, .int .i64 0, .int .i64 0, .slice none 0 0, .slice none 0 0] 54)) (w10.heap.size + 1) [.int .i64 0, .bool false, .int .u64 0, .int .u64 0, .int .i64 0, .bool false, .int .i64 0, .int .i64 0, .int .i64 0, .int .i64 0, .int .i64 0, .slice none 0 0, .slice none 0 0] 54 := BlockIs.newAt' _ [.int .i64 0, .bool false, .int .u64 0, .int .u64 0, .int .i64 0, .bool false, .int .i64 0, .int .i64 0, .int .i64 0, .int .i64 0, .int .i64 0, .slice none 0 0, .slice none 0 0] _ (by simp); have bb10 : Below wb.heap.size wb ((w10.alloc (.cells #[.int .i64 0, .int .i64 0, .slice none 0 0, .slice none 0 0, .slice none 0 0, .slice none 0 0] 40)).alloc (.cells #[.int .i64 0, .bool false, .int .u64 0, .int .u64 0, .int .i64 0, .bool false, .int .i64 0, .int .i64 0, .int .i64 0, .int .i64 0, .int .i64 0, .slice none 0 0, .slice none 0 0] 54)) := (B10.alloc B10.size _).alloc (by have := B10.size; simp; omega) _; have hL10 := hL9.below b10; clear hO hV hp10 hq10 u1 u2 u3 u4 g1 g2)
        | (refine list_store_blk rfl 40 _ _ rfl (w10.heap.size) _ _ 40 (hA10) rfl rfl (by kernel_rfl) rfl (by simp [Value.oneCell']) wb.heap.size wb bb10 (by have := hge; omega) ?_; intro w11 hR11 hoth11 hsz11 bw11)
        | (refine list_store_blk rfl 54 _ _ rfl (w10.heap.size + 1) _ _ 54 (hoth11 _ _ _ (by omega) hC10) rfl rfl (by kernel_rfl) rfl (by simp [Value.oneCell']) wb.heap.size wb bw11 (by have := hge; omega) ?_; intro w12 hR12 hoth12 hsz12 bw12))
      have hk12 : KeepOff (fun _ => False) w10 w12 := fun b arr T _ hh => hoth12 b arr T (by have := hh.lt; omega) (hoth11 b arr T (by have := hh.lt; omega) ((hh.alloc' _).alloc' _))
      have hM12 := hoth12 _ _ _ (by omega) hR11
      have hL12 := hk12 _ _ _ (fun h => h) hL10
      have hO12 := HO10.out.step hk12
      have hs1 : SmallP m1.pl 21 := by rw [HP10.out]; exact doP_small HSM0.out _ HL20.out _
      have hl1 : LocksOk m1.pl := by rw [HP10.out]; exact doP_locks HLK0.out _ _
      have hd2 := HD2.out m1 w12 hO12 (doOk_of hs1 (by decide) hl1)
      simp only [HU.out.1, HU.out.2.1, HU.out.2.2.1, HU.out.2.2.2] at hd2
      have HDD2 := Lib.hid hd2; have HBW12 := Lib.hid bw12
      have hge12 := bw12.size
      clear hd2 hO12 hs1 hl1 hoth11 hoth12 HD1 HD2 k0 k1 k2 k3 k4 k5 l0 l1 l2 hA10 hC10 bb10 bw11
      have k0 := hM12.cell (i := 0) rfl; have k1 := hM12.cell (i := 1) rfl; have k2 := hM12.cell (i := 2) rfl; have k3 := hM12.cell (i := 3) rfl; have k4 := hM12.cell (i := 4) rfl; have k5 := hM12.cell (i := 5) rfl; have l0 := hL12.cell (i := 0) rfl; have l1 := hL12.cell (i := 1) rfl; have l2 := hL12.cell (i := 2) rfl
      go_upto_region 12 with (first
        | (go_at_call 14; (with_reducible refine HDD2.out.mono ?_); rintro e w13 ⟨m2, v2, rfl, hO, hV, hp13, hq13, b13⟩; obtain ⟨x1, x2, x3, x4, xc1, xc2, xc3, xc4, u1, u2, u3, u4⟩ := mm_slices hO.now; obtain ⟨_, r1, rc1, g1, _⟩ := ba_open hV.now.1; obtain ⟨_, r2, rc2, g2, _⟩ := ey_open hV.now.2; rw [u1, u2, u3, u4, g1, g2]; have HV13 := Lib.hid hV; have HQ13 := Lib.hid hq13; have B13 := (below2 HBW12.out b13 : Below wb.heap.size wb w13); have hge := B13.size; have hA13 : BlockIs ((w13.alloc (.cells #[.int .i64 0, .int .i64 0, .slice none 0 0, .slice none 0 0, .slice none 0 0, .slice none 0 0] 40)).alloc (.cells #[.int .i64 0, .bool false, .int .u64 0, .int .u64 0, .int .i64 0, .bool false, .int .i64 0, .int .i64 0, .int .i64 0, .int .i64 0, .int .i64 0, .slice none 0 0, .slice none 0 0] 54)) w13.heap.size [.int .i64 0, .int .i64 0, .slice none 0 0, .slice none 0 0, .slice none 0 0, .slice none 0 0] 40 := (BlockIs.new w13 [.int .i64 0, .int .i64 0, .slice none 0 0, .slice none 0 0, .slice none 0 0, .slice none 0 0] _).alloc' _; have hC13 : BlockIs ((w13.alloc (.cells #[.int .i64 0, .int .i64 0, .slice none 0 0, .slice none 0 0, .slice none 0 0, .slice none 0 0] 40)).alloc (.cells #[.int .i64 0, .bool false, .int .u64 0, .int .u64 0, .int .i64 0, .bool false, .int .i64 0, .int .i64 0, .int .i64 0, .int .i64 0, .int .i64 0, .slice none 0 0, .slice none 0 0] 54)) (w13.heap.size + 1) [.int .i64 0, .bool false, .int .u64 0, .int .u64 0, .int .i64 0, .bool false, .int .i64 0, .int .i64 0, .int .i64 0, .int .i64 0, .int .i64 0, .slice none 0 0, .slice none 0 0] 54 := BlockIs.newAt' _ [.int .i64 0, .bool false, .int .u64 0, .int .u64 0, .int .i64 0, .bool false, .int .i64 0, .int .i64 0, .int .i64 0, .int .i64 0, .int .i64 0, .slice none 0 0, .slice none 0 0] _ (by simp); have bb13 : Below wb.heap.size wb ((w13.alloc (.cells #[.int .i64 0, .int .i64 0, .slice none 0 0, .slice none 0 0, .slice none 0 0, .slice none 0 0] 40)).alloc (.cells #[.int .i64 0, .bool false, .int .u64 0, .int .u64 0, .int .i64 0, .bool false, .int .i64 0, .int .i64 0, .int .i64 0, .int .i64 0, .int .i64 0, .slice none 0 0, .slice none 0 0] 54)) := (B13.alloc B13.size _).alloc (by have := B13.size; simp; omega) _; clear hO hV hp13 hq13 u1 u2 u3 u4)
        | (refine list_store_blk rfl 40 _ _ rfl (w13.heap.size) _ _ 40 (hA13) rfl rfl (by kernel_rfl) rfl (by simp [Value.oneCell']) wb.heap.size wb bb13 (by have := hge; omega) ?_; intro w14 hR14 hoth14 hsz14 bw14)
        | (refine list_store_blk rfl 54 _ _ rfl (w13.heap.size + 1) _ _ 54 (hoth14 _ _ _ (by omega) hC13) rfl rfl (by kernel_rfl) rfl (by simp [Value.oneCell']) wb.heap.size wb bw14 (by have := hge; omega) ?_; intro w15 hR15 hoth15 hsz15 bw15))
      have hk15 : KeepOff (fun _ => False) w13 w15 := fun b arr T _ hh => hoth15 b arr T (by have := hh.lt; omega) (hoth14 b arr T (by have := hh.lt; omega) ((hh.alloc' _).alloc' _))
      have hv15 := (HV13.out.step hk15).now
      have hBv15 := hBvb.below bw15
      have hK3 : (3 : Int) ≤ 6 ∧ (6 : Int) ≤ 6 := by decide
      have hsm2 : SmallP (storeP m.pl 6 0 0 v.pl) 21 := by rw [← do_st HSM0.out hK3 v 1]; exact doP_small HSM0.out (stO 6 v) HL20.out 1
      have hq2 : v2.pl = loadP (storeP m.pl 6 0 0 v.pl) 6 0 0 := by
        have e1 : m1.pl = storeP m.pl 6 0 0 v.pl := HP10.out.trans (do_st HSM0.out hK3 v 1)
        have e2 : v2.pl = (doP m1.pl (ldO 6) 2).2 := HQ13.out
        rw [e2, e1]; exact do_ld hsm2 hK3 2
      have hsl := st_ld HSM0.out v
      have heq : v2.pe = v.pe := (congrArg Vp.pe hq2).trans hsl.2.2.2
      rw [heq] at hR15
      clear heq
      have hNE := fun W => neqPe_one v.pe W
      have HB15 := Lib.hid bw15
      clear hoth14 hoth15 k0 k1 k2 k3 k4 k5 l0 l1 l2 hA13 hC13 bb13 bw14 bw15 hq2 hsl g1 g2 hK3 hsm2
      have d0 := hR15.cell (i := 0) rfl; have d1 := hR15.cell (i := 1) rfl; have d2 := hR15.cell (i := 2) rfl; have d3 := hR15.cell (i := 3) rfl; have d4 := hR15.cell (i := 4) rfl; have d5 := hR15.cell (i := 5) rfl; have d6 := hR15.cell (i := 6) rfl; have d7 := hR15.cell (i := 7) rfl; have d8 := hR15.cell (i := 8) rfl; have d9 := hR15.cell (i := 9) rfl; have d10 := hR15.cell (i := 10) rfl; have d11 := hR15.cell (i := 11) rfl; have d12 := hR15.cell (i := 12) rfl; have v0 := hBv15.cell (i := 0) rfl; have v1 := hBv15.cell (i := 1) rfl; have v2 := hBv15.cell (i := 2) rfl; have v3 := hBv15.cell (i := 3) rfl; have v4 := hBv15.cell (i := 4) rfl; have v5 := hBv15.cell (i := 5) rfl; have v6 := hBv15.cell (i := 6) rfl; have v7 := hBv15.cell (i := 7) rfl; have v8 := hBv15.cell (i := 8) rfl; have v9 := hBv15.cell (i := 9) rfl; have v10 := hBv15.cell (i := 10) rfl; have v11 := hBv15.cell (i := 11) rfl; have v12 := hBv15.cell (i := 12) rfl
      go_wp2_with fail
      go_roundw
      case rel => exact ⟨7, by omega, by omega, rfl, HB15.out⟩
      case measure => simp [intOf]
    · clear hk3 hk7
      have hXr := hXb.below HB.out; have hBsr := hBsb.below HB.out
      have k0 := hXr.cell (i := 0) rfl; have k1 := hXr.cell (i := 1) rfl; have k2 := hXr.cell (i := 2) rfl; have k3 := hXr.cell (i := 3) rfl; have k4 := hXr.cell (i := 4) rfl; have k5 := hXr.cell (i := 5) rfl; have s0 := hBsr.cell (i := 0) rfl; have s1 := hBsr.cell (i := 1) rfl; have s2 := hBsr.cell (i := 2) rfl
      go_wp2_with fail
      refine wp_region_noPanic ?_
      have hS0 : (fun wq => wq.cell? ⟨X, 0, none⟩ = some (.int .i64 m.inn) ∧ wq.cell? ⟨X, 1, none⟩ = some (.int .i64 m.out) ∧ wq.cell? ⟨X, 2, none⟩ = some (.slice y1 m.bans.2.length yc1) ∧ wq.cell? ⟨X, 3, none⟩ = some (.slice y2 m.book.2.length yc2) ∧ wq.cell? ⟨X, 4, none⟩ = some (.slice y3 m.parts.2.length yc3) ∧ wq.cell? ⟨X, 5, none⟩ = some (.slice y4 m.locks.2.length yc4) ∧ wq.cell? ⟨w.heap.size + 1, 0, none⟩ = some (.slice a1 bl.length c1) ∧ wq.cell? ⟨w.heap.size + 1, 1, none⟩ = some (.slice a2 kl.length c2) ∧ wq.cell? ⟨w.heap.size + 1, 2, none⟩ = some (.slice a3 pl.length c3)) wr.drew := ⟨k0, k1, k2, k3, k4, k5, s0, s1, s2⟩
      refine wp_region_headH (fun wq => wq.cell? ⟨X, 0, none⟩ = some (.int .i64 m.inn) ∧ wq.cell? ⟨X, 1, none⟩ = some (.int .i64 m.out) ∧ wq.cell? ⟨X, 2, none⟩ = some (.slice y1 m.bans.2.length yc1) ∧ wq.cell? ⟨X, 3, none⟩ = some (.slice y2 m.book.2.length yc2) ∧ wq.cell? ⟨X, 4, none⟩ = some (.slice y3 m.parts.2.length yc3) ∧ wq.cell? ⟨X, 5, none⟩ = some (.slice y4 m.locks.2.length yc4) ∧ wq.cell? ⟨w.heap.size + 1, 0, none⟩ = some (.slice a1 bl.length c1) ∧ wq.cell? ⟨w.heap.size + 1, 1, none⟩ = some (.slice a2 kl.length c2) ∧ wq.cell? ⟨w.heap.size + 1, 2, none⟩ = some (.slice a3 pl.length c3)) 7 (by kernel_rfl) (by kernel_rfl) ?_
      refine headH_take (i := 0) (v := ?qv0x9) (by kernel_rfl) rfl rfl (by kernel_rfl) (by kernel_rfl) (by kernel_rfl) (fun _ _ _ h => h) (Or.inl ⟨by rfl, ?qy0x9⟩) (by assumption) ?qr0x9
      case qy0x9 =>
        intro wq hSw
        try dsimp only at hSw
        go_simp
        try with_reducible rfl
      try simp only [Act.put, List.setIfInBounds_toArray, List.set_cons_zero, List.set_cons_succ]
      refine headH_take (i := 2) (v := ?qv2x10) (by kernel_rfl) rfl rfl (by kernel_rfl) (by kernel_rfl) (by kernel_rfl) (fun _ _ _ h => h) (Or.inl ⟨by rfl, ?qy2x10⟩) (by assumption) ?qr2x10
      case qy2x10 =>
        intro wq hSw
        try dsimp only at hSw
        go_simp
        try with_reducible rfl
      try simp only [Act.put, List.setIfInBounds_toArray, List.set_cons_zero, List.set_cons_succ]
      refine headH_one (i := 1) rfl rfl (by kernel_rfl) (fun K hK => ?_)
      go_simp
      go_at_call 21
      refine (HMS.out _ HB.out.drew).mono ?_
      rintro e w7 ⟨sa, sb, sd, z1, z2, z3, rfl, g1, g2, g3, b7⟩
      have B7 := (below2 HB.out.drew b7 : Below wb.heap.size wb w7)
      have hX7 := hXb.below B7; have hBs7 := hBsb.below B7
      clear k0 k1 k2 k3 k4 k5 s0 s1 s2
      have k0 := hX7.cell (i := 0) rfl
      have k1 := hX7.cell (i := 1) rfl
      have k2 := hX7.cell (i := 2) rfl
      have k3 := hX7.cell (i := 3) rfl
      have k4 := hX7.cell (i := 4) rfl
      have k5 := hX7.cell (i := 5) rfl
      have s0 := hBs7.cell (i := 0) rfl
      have s1 := hBs7.cell (i := 1) rfl
      have s2 := hBs7.cell (i := 2) rfl
      refine hK.out _ _ ?_ (fun hS => ?_)
      · exact ⟨k0, k1, k2, k3, k4, k5, s0, s1, s2⟩
      clear hK K
      try simp only [Act.put, List.setIfInBounds_toArray, List.set_cons_zero, List.set_cons_succ]
      refine headH_one (i := 3) rfl rfl (by kernel_rfl) (fun K hK => ?_)
      go_simp
      go_at_call 20
      refine (HSS.out sa sb sd z1 z2 z3 w7 B7 g1 g2 g3).mono ?_
      rintro e w8 ⟨rfl, b8⟩
      have B8 := (below2 B7 b8 : Below wb.heap.size wb w8)
      have hX8 := hXb.below B8; have hBs8 := hBsb.below B8
      clear k0 k1 k2 k3 k4 k5 s0 s1 s2
      have k0 := hX8.cell (i := 0) rfl
      have k1 := hX8.cell (i := 1) rfl
      have k2 := hX8.cell (i := 2) rfl
      have k3 := hX8.cell (i := 3) rfl
      have k4 := hX8.cell (i := 4) rfl
      have k5 := hX8.cell (i := 5) rfl
      have s0 := hBs8.cell (i := 0) rfl
      have s1 := hBs8.cell (i := 1) rfl
      have s2 := hBs8.cell (i := 2) rfl
      refine hK.out _ _ ?_ (fun hS => ?_)
      · exact ⟨k0, k1, k2, k3, k4, k5, s0, s1, s2⟩
      clear hK K
      try simp only [Act.put, List.setIfInBounds_toArray, List.set_cons_zero, List.set_cons_succ]
      refine headH_take (i := 4) (v := ?qv4x11) (by kernel_rfl) rfl rfl (by kernel_rfl) (by kernel_rfl) (by kernel_rfl) (fun _ _ _ h => h) (Or.inl ⟨by rfl, ?qy4x11⟩) (by assumption) ?qr4x11
      case qy4x11 =>
        intro wq hSw
        try dsimp only at hSw
        go_simp
        try with_reducible rfl
      try simp only [Act.put, List.setIfInBounds_toArray, List.set_cons_zero, List.set_cons_succ]
      refine headH_one (i := 5) rfl rfl (by kernel_rfl) (fun K hK => ?_)
      go_simp
      go_at_call 8
      refine (awake37_any w8).mono ?_
      rintro e w9 ⟨rfl, b9⟩
      have B9 := (below2 B8 b9 : Below wb.heap.size wb w9)
      have hX9 := hXb.below B9; have hBs9 := hBsb.below B9
      clear k0 k1 k2 k3 k4 k5 s0 s1 s2
      have k0 := hX9.cell (i := 0) rfl
      have k1 := hX9.cell (i := 1) rfl
      have k2 := hX9.cell (i := 2) rfl
      have k3 := hX9.cell (i := 3) rfl
      have k4 := hX9.cell (i := 4) rfl
      have k5 := hX9.cell (i := 5) rfl
      have s0 := hBs9.cell (i := 0) rfl
      have s1 := hBs9.cell (i := 1) rfl
      have s2 := hBs9.cell (i := 2) rfl
      refine hK.out _ _ ?_ (fun hS => ?_)
      · exact ⟨k0, k1, k2, k3, k4, k5, s0, s1, s2⟩
      clear hK K
      try simp only [Act.put, List.setIfInBounds_toArray, List.set_cons_zero, List.set_cons_succ]
      refine headH_take (i := 6) (v := ?qv6x12) (by kernel_rfl) rfl rfl (by kernel_rfl) (by kernel_rfl) (by kernel_rfl) (fun _ _ _ h => h) (Or.inl ⟨by rfl, ?qy6x12⟩) (by assumption) ?qr6x12
      case qy6x12 =>
        intro wq hSw
        try dsimp only at hSw
        go_simp
        try with_reducible rfl
      try simp only [Act.put, List.setIfInBounds_toArray, List.set_cons_zero, List.set_cons_succ]
      refine headH_done (by kernel_rfl) ?_
      simp only [List.drop_succ_cons, List.drop_zero]
      go_wp2_with fail
      refine NoPanic.normal ?_
      go_wp2_with fail
      go_ret
      exact ⟨rfl, below2 HBB.out B9⟩
end Go.Proofs.YtnplgagaoeckoaaGreat
namespace Go.Proofs.YtnplgagaoeckoaaGreat
open Go.ChangeShapes Go.WideShapes Go.ChangeAt Go.RowKit Go.Deep
theorem opens_confS : Opens Tryz.prog 26 cfV (fun c => c.secret < 18446744073709551616) :=
  (opens_of_fields Tryz.underlying26 (opensF_cons (n := 1) (opens_i64 Tryz.underlying3) (by kernel_rfl) rfl (opensF_cons (n := 1) (opens_i64 Tryz.underlying3) (by kernel_rfl) rfl (opensF_cons (n := 1) (opens_i64 Tryz.underlying3) (by kernel_rfl) rfl (opensF_cons (n := 1) (opens_i64 Tryz.underlying3) (by kernel_rfl) rfl (opensF_cons (n := 1) (opens_i64 Tryz.underlying3) (by kernel_rfl) rfl (opensF_cons (n := 1) (opens_u64 Tryz.underlying22) (by kernel_rfl) rfl (opensF_cons (n := 4) opens_quota (by kernel_rfl) rfl (opensF_cons (n := 1) (opens_i64 Tryz.underlying3) (by kernel_rfl) rfl (opensF_cons (n := 1) (opens_i64 Tryz.underlying3) (by kernel_rfl) rfl (opensF_cons (n := 1) (opens_i64 Tryz.underlying3) (by kernel_rfl) rfl (opensF_cons (n := 1) (opens_i64 Tryz.underlying3) (by kernel_rfl) rfl (opensF_cons (n := 1) (opens_i64 Tryz.underlying3) (by kernel_rfl) rfl (opensF_cons (n := 1) (opens_i64 Tryz.underlying3) (by kernel_rfl) rfl opensF_nil))))))))))))) (by kernel_rfl)).map
    fun ⟨a1, a2, a3, a4, a5, s, ⟨q1, q2, q3, q4⟩, h1, h2, h3, h4, h5, h6, _⟩ ⟨_, _, _, _, _, hs, _⟩ => ⟨⟨a1, a2, a3, a4, a5, s, q1, q2, q3, q4, h1, h2, h3, h4, h5, h6⟩, hs, rfl⟩
end Go.Proofs.YtnplgagaoeckoaaGreat
namespace Go.Proofs.YtnplgagaoeckoaaGreat
open Go.ChangeShapes Go.WideShapes Go.ChangeAt Go.RowKit Go.Deep
structure Ss where
  b : Value × List Ba
  k : Value × List Ey
  p : Value × List Pe
def ssV (s : Ss) : List Value := [s.b.1, s.k.1, s.p.1]
def Ss.good (w : World) (s : Ss) : Prop := (ReadsL baV 5 w s.b.1 s.b.2 ∧ ∀ x ∈ s.b.2, x.fits) ∧ (ReadsL eyV 7 w s.k.1 s.k.2 ∧ ∀ x ∈ s.k.2, x.fits) ∧ (ReadsL peV 10 w s.p.1 s.p.2 ∧ ∀ x ∈ s.p.2, x.fits)
theorem opens_stateS : OpensW Tryz.prog 31 ssV Ss.good :=
  (opensW_of_fields Tryz.underlying31 (opensWF_cons (n := 1) (opensW_slice opens_ban.w baV_len (by omega) Tryz.underlying27 (by kernel_rfl)) (by kernel_rfl) rfl
    (opensWF_cons (n := 1) (opensW_slice opens_entry.w eyV_len (by omega) Tryz.underlying28 (by kernel_rfl)) (by kernel_rfl) rfl
    (opensWF_cons (n := 1) (opensW_slice opens_peer.w peV_len (by omega) Tryz.underlying29 (by kernel_rfl)) (by kernel_rfl) rfl opensWF_nil))) (by kernel_rfl)).map
    fun w ⟨b, k, p, _⟩ ⟨h1, h2, h3, _⟩ => ⟨⟨(b.1, b.2), (k.1, k.2), (p.1, p.2)⟩, ⟨⟨h1.1, h1.2⟩, ⟨h2.1, h2.2⟩, ⟨h3.1, h3.2⟩⟩, rfl⟩
end Go.Proofs.YtnplgagaoeckoaaGreat
namespace Go.Proofs.YtnplgagaoeckoaaGreat
open Go.RowKit

theorem memStateLaw_any (c : Cf) (hsec : c.secret < 18446744073709551616) (vb vk vp : Value) (bl : List Ba) (kl : List Ey) (pl : List Pe) (v : Vm) (w : World) (hb : ReadsL baV 5 w vb bl) (hk : ReadsL eyV 7 w vk kl) (hp : ReadsL peV 10 w vp pl) (hv : VmAt w v)
    (hfb : ∀ x ∈ bl, x.nt.ad.fits) (hfk : ∀ x ∈ kl, x.en.ad.fits) (hfp : ∀ p ∈ pl, p.en.ad.fits) :
    Calls Tryz.prog 4 #[.agg #[.int .i64 c.mi, .int .i64 c.mo, .int .i64 c.sh, .int .i64 c.mb, .int .i64 c.mbk, .int .u64 c.secret, .int .i64 c.qg, .int .i64 c.qp, .int .i64 c.qw, .int .i64 c.qt, .int .i64 c.half, .int .i64 c.limit, .int .i64 c.banfor, .int .i64 c.base, .int .i64 c.cap, .int .i64 c.jitter], .agg #[vb, vk, vp], .agg #[.int .i64 v.n, .bool v.pe.en.ad.v6, .int .u64 v.pe.en.ad.hi, .int .u64 v.pe.en.ad.lo, .int .i64 v.pe.en.port, .bool v.pe.came, .int .i64 v.pe.since, .int .i64 v.pe.pts, .int .i64 v.pe.at_, .int .i64 v.pe.ping, .int .i64 v.pe.work, v.bans.1, v.book.1]] w fun e w' => e = .returned (.bool true) ∧ Below w.heap.size w w' := by
  by_cases h : bl.length ≤ 20 ∧ kl.length ≤ 20 ∧ pl.length ≤ 20 ∧ StRight c bl kl pl ∧ v.bans.2.length ≤ 20 ∧ v.book.2.length ≤ 20
  · exact memState_yes c hsec vb vk vp bl kl pl v w hb hk hp hv hfb hfk hfp h.1 h.2.1 h.2.2.1 h.2.2.2.1 h.2.2.2.2.1 h.2.2.2.2.2
  · exact memState_no c hsec vb vk vp bl kl pl v w hb hk hp hv hfb hfk hfp h
end Go.Proofs.YtnplgagaoeckoaaGreat
