/- Texts put together: LawMemC. No condition. -/
import Derived.Test.YtnplgagaoeckoaaRzzxcrgeanx
import Derived.Test.YtnplgagaoeckoaaReekuqwmoqf
namespace Go.Proofs.Ytnplgagaoeckoaa
open Go.RowKit Go.Lib
set_option linter.unusedSimpArgs false
set_option linter.unusedVariables false

/-- one and the same world -/
def IsW (a b : World) : Prop := a = b
theorem isW_refl (a : World) : IsW a a := Eq.refl a
theorem rangeAt_below {w w' : World} {b o : Nat} {cs : List Value} (h : w.rangeAt b o cs) (hb : Below w.heap.size w w') (hlt : b < w.heap.size) : w'.rangeAt b o cs := fun j u hj => keep hb hlt (h j u hj)
theorem AcIn.op {w : World} {b o : Nat} {a : Ac} (h : AcIn w b o a) : w.rangeAt b (o + 1) [.int .i64 a.op.kind, .int .i64 a.op.lock, .int .i64 a.op.lk, .int .i64 a.op.ls, .int .i64 a.op.lt, .int .i64 a.op.old, .int .i64 a.op.new, .int .i64 a.op.vn, .bool a.op.pe.en.ad.v6, .int .u64 a.op.pe.en.ad.hi, .int .u64 a.op.pe.en.ad.lo, .int .i64 a.op.pe.en.port, .bool a.op.pe.came, .int .i64 a.op.pe.since, .int .i64 a.op.pe.pts, .int .i64 a.op.pe.at_, .int .i64 a.op.pe.ping, .int .i64 a.op.pe.work, a.op.bans.1, a.op.book.1, .bool a.op.mark] := fun j u hj => by
  have := h (j + 1) u (by unfold acV; simpa using hj)
  rwa [show o + (j + 1) = o + 1 + j by omega] at this
set_option maxRecDepth 100000 in
set_option maxHeartbeats 32000000 in
theorem memLocks_yes (c : Cf) (hsec : c.secret < 18446744073709551616) (v : Value) (l : List Ac) (w : World) (hl : ReadsAc w v l) (hli : acLight l = true) (hcr : cfRight c = true) :
    Calls Try.prog 3 #[.agg #[.int .i64 c.mi, .int .i64 c.mo, .int .i64 c.sh, .int .i64 c.mb, .int .i64 c.mbk, .int .u64 c.secret, .int .i64 c.qg, .int .i64 c.qp, .int .i64 c.qw, .int .i64 c.qt, .int .i64 c.half, .int .i64 c.limit, .int .i64 c.banfor, .int .i64 c.base, .int .i64 c.cap, .int .i64 c.jitter], v] w fun e w' => e = .returned (.bool true) ∧ Below w.heap.size w w' := by
  have HLI := Lib.hid (fun (W : World) (hb : Below w.heap.size w W) => light37_any v l W (hl.below hb))
  have HL0 := Lib.hid hl
  obtain ⟨hlm, a0, c0, e0, h3⟩ := acs_open hl
  subst e0
  have HLG := Lib.hid (acLight_of hli)
  have hB1 : BlockIs (w.alloc (.cells #[.int .i64 c.mi, .int .i64 c.mo, .int .i64 c.sh, .int .i64 c.mb, .int .i64 c.mbk, .int .u64 c.secret, .int .i64 c.qg, .int .i64 c.qp, .int .i64 c.qw, .int .i64 c.qt, .int .i64 c.half, .int .i64 c.limit, .int .i64 c.banfor, .int .i64 c.base, .int .i64 c.cap, .int .i64 c.jitter] 26)) w.heap.size [.int .i64 c.mi, .int .i64 c.mo, .int .i64 c.sh, .int .i64 c.mb, .int .i64 c.mbk, .int .u64 c.secret, .int .i64 c.qg, .int .i64 c.qp, .int .i64 c.qw, .int .i64 c.qt, .int .i64 c.half, .int .i64 c.limit, .int .i64 c.banfor, .int .i64 c.base, .int .i64 c.cap, .int .i64 c.jitter] 26 := BlockIs.new w _ _
  have bB1 : Below w.heap.size w (w.alloc (.cells #[.int .i64 c.mi, .int .i64 c.mo, .int .i64 c.sh, .int .i64 c.mb, .int .i64 c.mbk, .int .u64 c.secret, .int .i64 c.qg, .int .i64 c.qp, .int .i64 c.qw, .int .i64 c.qt, .int .i64 c.half, .int .i64 c.limit, .int .i64 c.banfor, .int .i64 c.base, .int .i64 c.cap, .int .i64 c.jitter] 26)) := (Below.refl _ _).alloc (Nat.le_refl _) _
  rw [hli] at HLI
  have HCR := Lib.hid (fun (W : World) => refCfRight_any c W)
  rw [hcr] at HCR
  have HNEW := Lib.hid (fun (W : World) => memNew_any c hsec (.slice none 0 0) (.slice none 0 0) (.slice none 0 0) [] [] [] W (ReadsL.nil _ _ _ _ _) (ReadsL.nil _ _ _ _ _) (ReadsL.nil _ _ _ _ _) (fun p hp => by cases hp) (by decide) (by decide) (by decide))
  have hlen60 := (acLight_of hli).1
  clear hl hli hcr
  go_enter Try.func3, Try.ntmps3
  go_upto_region 4 with (first
    | (go_at_call 4; (with_reducible refine (HLI.out _ bB1).mono ?_); rintro e w1 ⟨rfl, b1⟩; have B1 := bB1.trans (b1.mono (by simp)); have hB2 := hB1.below b1)
    | (refine list_load_blk_w (by rfl) 26 _ rfl w.heap.size [.int .i64 c.mi, .int .i64 c.mo, .int .i64 c.sh, .int .i64 c.mb, .int .i64 c.mbk, .int .u64 c.secret, .int .i64 c.qg, .int .i64 c.qp, .int .i64 c.qw, .int .i64 c.qt, .int .i64 c.half, .int .i64 c.limit, .int .i64 c.banfor, .int .i64 c.base, .int .i64 c.cap, .int .i64 c.jitter] 26 (by first | exact hB3 | exact hB2) rfl Try.underlying26 (by kernel_rfl) ?_)
    | (go_at_call 5; (with_reducible refine (HCR.out _).mono ?_); rintro e w3 ⟨rfl, b3⟩; have B3 := below2 B1 b3; have hB3 := hB2.below b3)
    | (go_at_call 7; (with_reducible refine (HNEW.out _).mono ?_); rintro e w4 ⟨m0, rfl, hN0, hp0, b4⟩; have hm0 := hN0 w4 (fun _ _ _ _ h => h); have B4 := below2 B3 b4; obtain ⟨x1, x2, x3, x4, xc1, xc2, xc3, xc4, u1, u2, u3, u4⟩ := mm_slices hm0; rw [u1, u2, u3, u4]))
  obtain ⟨W5, hW5⟩ : ∃ W5, W5 = w4.alloc (.cells #[.int .i64 m0.inn, .int .i64 m0.out, .slice x1 m0.bans.2.length xc1, .slice x2 m0.book.2.length xc2, .slice x3 m0.parts.2.length xc3, .slice x4 m0.locks.2.length xc4] 36) := ⟨_, rfl⟩
  rw [← hW5]
  obtain ⟨X, hX⟩ : ∃ X, X = w4.heap.size := ⟨_, rfl⟩
  have hX5 : BlockIs W5 X [.int .i64 m0.inn, .int .i64 m0.out, m0.bans.1, m0.book.1, m0.parts.1, m0.locks.1] 36 := by rw [u1, u2, u3, u4]; subst hW5 hX; exact BlockIs.new w4 _ _
  have hO5 : HoldOff (fun b => b = X) W5 (fun W => MmAt W m0) := (HoldOff.new hN0 (fun b hb => Or.inr (by omega))).step (by subst hW5; exact keep_alloc w4 _)
  have B5 : Below w.heap.size w W5 := by subst hW5; exact B4.alloc B4.size _
  have hXw : w.heap.size ≤ X := by have := B4.size; omega
  have hS0 : SmallP m0.pl 20 := by rw [hp0]; exact newP_small _ _ _ _ _ (by decide) (by decide) (by decide)
  have hL0 : LocksOk m0.pl := by rw [hp0]; exact newP_locks _ _ _ _ _
  rw [← hX]
  have HX5 := Lib.hid hX5; have HO5 := Lib.hid hO5; have HB5 := Lib.hid B5; have HS0 := Lib.hid hS0; have HK0 := Lib.hid hL0
  clear hX5 hO5 B5 hS0 hL0 hW5 hX u1 u2 u3 u4 hm0 hN0 hp0 HNEW HLI HCR B4 b4 hB1 hB2 hB3 B1 B3 b1 b3 bB1
  go_wp2_with fail
  go_loopw [6] (fun i' wr => ∃ (k : Nat) (m : Mm), k ≤ l.length ∧ i' = .int .i64 k ∧ Hid (BlockIs wr X [.int .i64 m.inn, .int .i64 m.out, m.bans.1, m.book.1, m.parts.1, m.locks.1] 36) ∧ Hid (HoldOff (fun b => b = X) wr (fun W => MmAt W m)) ∧ Hid (SmallP m.pl (20 + k)) ∧ Hid (LocksOk m.pl) ∧ Hid (Below w.heap.size w wr)) (fun i' _ => l.length - (intOf i').toNat)
  case atStart => exact ⟨0, m0, by omega, rfl, HX5.out, HO5.out, HS0.out, HK0.out, HB5.out⟩
  case round =>
    clear HX5 HO5 HB5 HS0 HK0
    obtain ⟨k, m, hk, rfl, HX, HO, HS, HK, HB⟩ := hrel
    have q1 : (0 : Int) ≤ (k : Int) := by omega
    by_cases hlt : k < l.length
    · have q2 : (k : Int) < (l.length : Int) := by omega
      obtain ⟨x, hx⟩ : ∃ x, l[k]? = some x := ⟨_, List.getElem?_eq_getElem hlt⟩
      obtain ⟨b, o, rfl, h4, h5, h6⟩ := h3 (by omega)
      have hc := h6 k _ hx
      have hro := (HL0.out.2 _ (List.mem_of_getElem? hx)).below HB.out
      have hsm := HLG.out.2 _ (List.mem_of_getElem? hx)
      have k0 := keep HB.out h5 (hc 0 _ rfl)
      have k1 := keep HB.out h5 (hc 1 _ rfl)
      rw [Nat.add_zero] at k0
      clear hx h6 h3
      by_cases hw : 0 ≤ x.who ∧ x.who ≤ 100
      · have hwl : ¬ x.who < 0 := by omega
        have hwh : ¬ 100 < x.who := by omega
        have hwd : decide (x.who < 0) = false := decide_eq_false hwl
        have hwe : decide (100 < x.who) = false := decide_eq_false hwh
        obtain ⟨y1, y2, y3, y4, yc1, yc2, yc3, yc4, u1, u2, u3, u4⟩ := mm_slices HO.out.now
        have hX := HX.out
        have hd := doOk_of HS.out (by omega) HK.out
        have HH := Lib.hid (fun (W : World) (hb : Below wr.heap.size wr W) => memHeld_any m x.who W (HO.out.now.below hb) hw hd.2.1)
        have HMAY := Lib.hid (fun (W : World) (hb : Below wr.heap.size wr W) => memMay_any m x.op x.who W (HO.out.now.below hb) (hro.below hb))
        have HDO := Lib.hid (fun (W : World) (hb : Below wr.heap.size wr W) => memDo_off (fun b => b = X) m x.op x.who W (fun b hb' => by have := HX.out.lt; have := hb.size; omega) (HO.out.below hb) (hro.below hb) hw hd (by omega) (by omega))
        obtain ⟨_, oa, oc, eo, _⟩ := ba_open hro.1
        obtain ⟨_, ka, kc, ek, _⟩ := ey_open hro.2
        have hcop := hc.op
        rw [eo, ek] at hcop
        simp only [u1, u2, u3, u4, eo, ek] at HH HMAY HDO hX
        obtain ⟨nb, hnb⟩ : ∃ n, n = x.op.bans.2.length := ⟨_, rfl⟩
        obtain ⟨nk, hnk⟩ : ∃ n, n = x.op.book.2.length := ⟨_, rfl⟩
        rw [← hnb, ← hnk] at hcop
        simp only [← hnb, ← hnk] at HMAY HDO
        have HOP := Lib.hid (fun (W : World) (hb : Below wr.heap.size wr W) => rangeAt_below hcop (HB.out.trans (hb.mono HB.out.size)) h5)
        have HKEY := Lib.hid hc
        have hp := HX.out.lt
        obtain ⟨N1, hN1⟩ : ∃ n, n = (heldP m.pl x.who).length := ⟨_, rfl⟩
        rw [← hN1] at HH
        have HSM := Lib.hid hsm; have HN1 := Lib.hid hN1; have HW := Lib.hid hw
        have hN1l : N1 ≤ 1000 := by rw [hN1]; unfold heldP; refine Nat.le_trans (List.length_filter_le _ _) ?_; rw [List.length_range]; show (List.map _ _).length ≤ _; rw [List.length_map]; exact hd.2.1
        clear hro hsm hd u1 u2 u3 u4 eo ek hcop hnb hnk hc hw hN1
        have c0 := hX.cell (i := 0) rfl; have c1 := hX.cell (i := 1) rfl; have c2 := hX.cell (i := 2) rfl; have c3 := hX.cell (i := 3) rfl; have c4 := hX.cell (i := 4) rfl; have c5 := hX.cell (i := 5) rfl
        go_upto_region 11 with (go_at_call 8; (with_reducible refine (HH.out _ (Below.refl _ _)).mono ?_); rintro e w1 ⟨ha, hca, rfl, hr1, b1⟩; have B1 := b1; have hX1 := hX.below B1; have hop : w1.rangeAt b (o + k * 22 + 1) [.int .i64 x.op.kind, .int .i64 x.op.lock, .int .i64 x.op.lk, .int .i64 x.op.ls, .int .i64 x.op.lt, .int .i64 x.op.old, .int .i64 x.op.new, .int .i64 x.op.vn, .bool x.op.pe.en.ad.v6, .int .u64 x.op.pe.en.ad.hi, .int .u64 x.op.pe.en.ad.lo, .int .i64 x.op.pe.en.port, .bool x.op.pe.came, .int .i64 x.op.pe.since, .int .i64 x.op.pe.pts, .int .i64 x.op.pe.at_, .int .i64 x.op.pe.ping, .int .i64 x.op.pe.work, .slice oa nb oc, .slice ka nk kc, .bool x.op.mark] := HOP.out w1 B1; clear c0 c1 c2 c3 c4 c5 k0; have c0 := hX1.cell (i := 0) rfl; have c1 := hX1.cell (i := 1) rfl; have c2 := hX1.cell (i := 2) rfl; have c3 := hX1.cell (i := 3) rfl; have c4 := hX1.cell (i := 4) rfl; have c5 := hX1.cell (i := 5) rfl)
        refine wp_region_noPanic ?_
        have hS0 : (fun wq => wq.cell? ⟨X, 0, none⟩ = some (.int .i64 m.inn) ∧ wq.cell? ⟨X, 1, none⟩ = some (.int .i64 m.out) ∧ wq.cell? ⟨X, 2, none⟩ = some (.slice y1 m.bans.2.length yc1) ∧ wq.cell? ⟨X, 3, none⟩ = some (.slice y2 m.book.2.length yc2) ∧ wq.cell? ⟨X, 4, none⟩ = some (.slice y3 m.parts.2.length yc3) ∧ wq.cell? ⟨X, 5, none⟩ = some (.slice y4 m.locks.2.length yc4) ∧ wq.rangeAt b (o + k * 22 + 1) [.int .i64 x.op.kind, .int .i64 x.op.lock, .int .i64 x.op.lk, .int .i64 x.op.ls, .int .i64 x.op.lt, .int .i64 x.op.old, .int .i64 x.op.new, .int .i64 x.op.vn, .bool x.op.pe.en.ad.v6, .int .u64 x.op.pe.en.ad.hi, .int .u64 x.op.pe.en.ad.lo, .int .i64 x.op.pe.en.port, .bool x.op.pe.came, .int .i64 x.op.pe.since, .int .i64 x.op.pe.pts, .int .i64 x.op.pe.at_, .int .i64 x.op.pe.ping, .int .i64 x.op.pe.work, .slice oa nb oc, .slice ka nk kc, .bool x.op.mark]) w1.drew := ⟨c0, c1, c2, c3, c4, c5, hop⟩
        refine wp_region_headH (fun wq => wq.cell? ⟨X, 0, none⟩ = some (.int .i64 m.inn) ∧ wq.cell? ⟨X, 1, none⟩ = some (.int .i64 m.out) ∧ wq.cell? ⟨X, 2, none⟩ = some (.slice y1 m.bans.2.length yc1) ∧ wq.cell? ⟨X, 3, none⟩ = some (.slice y2 m.book.2.length yc2) ∧ wq.cell? ⟨X, 4, none⟩ = some (.slice y3 m.parts.2.length yc3) ∧ wq.cell? ⟨X, 5, none⟩ = some (.slice y4 m.locks.2.length yc4) ∧ wq.rangeAt b (o + k * 22 + 1) [.int .i64 x.op.kind, .int .i64 x.op.lock, .int .i64 x.op.lk, .int .i64 x.op.ls, .int .i64 x.op.lt, .int .i64 x.op.old, .int .i64 x.op.new, .int .i64 x.op.vn, .bool x.op.pe.en.ad.v6, .int .u64 x.op.pe.en.ad.hi, .int .u64 x.op.pe.en.ad.lo, .int .i64 x.op.pe.en.port, .bool x.op.pe.came, .int .i64 x.op.pe.since, .int .i64 x.op.pe.pts, .int .i64 x.op.pe.at_, .int .i64 x.op.pe.ping, .int .i64 x.op.pe.work, .slice oa nb oc, .slice ka nk kc, .bool x.op.mark]) 8 (by kernel_rfl) (by kernel_rfl) ?_
        refine headH_take (i := 0) (v := ?qv0x1) (by kernel_rfl) rfl rfl (by kernel_rfl) (by kernel_rfl) (by kernel_rfl) (fun _ _ _ h => h) (Or.inl ⟨by rfl, ?qy0x1⟩) (by assumption) ?qr0x1
        case qy0x1 =>
          intro wq hSw
          try dsimp only at hSw
          go_simp
          try with_reducible rfl
        try simp only [Act.put, List.setIfInBounds_toArray, List.set_cons_zero, List.set_cons_succ]
        refine headH_take (i := 1) (v := ?qv1x2) (by kernel_rfl) rfl rfl (by kernel_rfl) (by kernel_rfl) (by kernel_rfl) (fun _ _ _ h => h) (Or.inl ⟨by rfl, ?qy1x2⟩) (by assumption) ?qr1x2
        case qy1x2 =>
          intro wq hSw
          try dsimp only at hSw
          go_simp
          try with_reducible rfl
        try simp only [Act.put, List.setIfInBounds_toArray, List.set_cons_zero, List.set_cons_succ]
        refine headH_take (i := 2) (v := ?qv2x3) (by kernel_rfl) rfl rfl (by kernel_rfl) (by kernel_rfl) (by kernel_rfl) (fun _ _ _ h => h) (Or.inl ⟨by rfl, ?qy2x3⟩) (by assumption) ?qr2x3
        case qy2x3 =>
          intro wq hSw
          try dsimp only at hSw
          go_simp
          try with_reducible rfl
        try simp only [Act.put, List.setIfInBounds_toArray, List.set_cons_zero, List.set_cons_succ]
        refine headH_take (i := 3) (v := ?qv3x4) (by kernel_rfl) rfl rfl (by kernel_rfl) (by kernel_rfl) (by kernel_rfl) (fun _ _ _ h => h) (Or.inl ⟨by rfl, ?qy3x4⟩) (by assumption) ?qr3x4
        case qy3x4 =>
          intro wq hSw
          try dsimp only at hSw
          go_simp
          try with_reducible rfl
        try simp only [Act.put, List.setIfInBounds_toArray, List.set_cons_zero, List.set_cons_succ]
        refine headH_take (i := 4) (v := ?qv4x5) (by kernel_rfl) rfl rfl (by kernel_rfl) (by kernel_rfl) (by kernel_rfl) (fun _ _ _ h => h) (Or.inl ⟨by rfl, ?qy4x5⟩) (by assumption) ?qr4x5
        case qy4x5 =>
          intro wq hSw
          try dsimp only at hSw
          go_simp
          try with_reducible rfl
        try simp only [Act.put, List.setIfInBounds_toArray, List.set_cons_zero, List.set_cons_succ]
        refine headH_take (i := 5) (v := _) (by kernel_rfl) rfl rfl (by kernel_rfl) (by kernel_rfl) (by kernel_rfl) (fun _ _ _ h => h) (yieldsIf_load_mid (by rfl) _ _ rfl _ _ rfl _ _ (fun wq hq => hq.2.2.2.2.2.2) Try.underlying54 rfl (by kernel_rfl)) (by assumption) ?qr5x6
        try simp only [Act.put, List.setIfInBounds_toArray, List.set_cons_zero, List.set_cons_succ]
        refine headH_take (i := 6) (v := ?qv6x7) (by kernel_rfl) rfl rfl (by kernel_rfl) (by kernel_rfl) (by kernel_rfl) (fun _ _ _ h => h) (Or.inl ⟨by rfl, ?qy6x7⟩) (by assumption) ?qr6x7
        case qy6x7 =>
          intro wq hSw
          try dsimp only at hSw
          go_simp
          try with_reducible rfl
        try simp only [Act.put, List.setIfInBounds_toArray, List.set_cons_zero, List.set_cons_succ]
        refine headH_one (i := 7) rfl rfl (by kernel_rfl) (fun K hK => ?_)
        go_simp
        go_at_call 9
        refine (HMAY.out _ (B1.drew)).mono ?_
        rintro e w2 ⟨rfl, b2⟩
        have B2 := (below2 B1.drew b2 : Below wr.heap.size wr w2)
        have hX2 := hX.below B2
        clear c0 c1 c2 c3 c4 c5 hop
        have c0 := hX2.cell (i := 0) rfl; have c1 := hX2.cell (i := 1) rfl; have c2 := hX2.cell (i := 2) rfl; have c3 := hX2.cell (i := 3) rfl; have c4 := hX2.cell (i := 4) rfl; have c5 := hX2.cell (i := 5) rfl
        have hop : w2.rangeAt b (o + k * 22 + 1) [.int .i64 x.op.kind, .int .i64 x.op.lock, .int .i64 x.op.lk, .int .i64 x.op.ls, .int .i64 x.op.lt, .int .i64 x.op.old, .int .i64 x.op.new, .int .i64 x.op.vn, .bool x.op.pe.en.ad.v6, .int .u64 x.op.pe.en.ad.hi, .int .u64 x.op.pe.en.ad.lo, .int .i64 x.op.pe.en.port, .bool x.op.pe.came, .int .i64 x.op.pe.since, .int .i64 x.op.pe.pts, .int .i64 x.op.pe.at_, .int .i64 x.op.pe.ping, .int .i64 x.op.pe.work, .slice oa nb oc, .slice ka nk kc, .bool x.op.mark] := HOP.out w2 B2
        refine hK.out _ _ ?_ (fun hS => ?_)
        · exact ⟨c0, c1, c2, c3, c4, c5, hop⟩
        clear hK K
        try simp only [Act.put, List.setIfInBounds_toArray, List.set_cons_zero, List.set_cons_succ]
        refine headH_done (by kernel_rfl) ?_
        simp only [List.drop_succ_cons, List.drop_zero]
        go_wp2_with fail
        refine NoPanic.normal ?_
        go_upto_region 12 with fail
        refine wp_region_noPanic ?_
        have hS0 : (fun wq => wq.cell? ⟨X, 0, none⟩ = some (.int .i64 m.inn) ∧ wq.cell? ⟨X, 1, none⟩ = some (.int .i64 m.out) ∧ wq.cell? ⟨X, 2, none⟩ = some (.slice y1 m.bans.2.length yc1) ∧ wq.cell? ⟨X, 3, none⟩ = some (.slice y2 m.book.2.length yc2) ∧ wq.cell? ⟨X, 4, none⟩ = some (.slice y3 m.parts.2.length yc3) ∧ wq.cell? ⟨X, 5, none⟩ = some (.slice y4 m.locks.2.length yc4) ∧ wq.rangeAt b (o + k * 22 + 1) [.int .i64 x.op.kind, .int .i64 x.op.lock, .int .i64 x.op.lk, .int .i64 x.op.ls, .int .i64 x.op.lt, .int .i64 x.op.old, .int .i64 x.op.new, .int .i64 x.op.vn, .bool x.op.pe.en.ad.v6, .int .u64 x.op.pe.en.ad.hi, .int .u64 x.op.pe.en.ad.lo, .int .i64 x.op.pe.en.port, .bool x.op.pe.came, .int .i64 x.op.pe.since, .int .i64 x.op.pe.pts, .int .i64 x.op.pe.at_, .int .i64 x.op.pe.ping, .int .i64 x.op.pe.work, .slice oa nb oc, .slice ka nk kc, .bool x.op.mark]) w2.drew := ⟨c0, c1, c2, c3, c4, c5, hop⟩
        refine wp_region_hldL (fun wq => wq.cell? ⟨X, 0, none⟩ = some (.int .i64 m.inn) ∧ wq.cell? ⟨X, 1, none⟩ = some (.int .i64 m.out) ∧ wq.cell? ⟨X, 2, none⟩ = some (.slice y1 m.bans.2.length yc1) ∧ wq.cell? ⟨X, 3, none⟩ = some (.slice y2 m.book.2.length yc2) ∧ wq.cell? ⟨X, 4, none⟩ = some (.slice y3 m.parts.2.length yc3) ∧ wq.cell? ⟨X, 5, none⟩ = some (.slice y4 m.locks.2.length yc4) ∧ wq.rangeAt b (o + k * 22 + 1) [.int .i64 x.op.kind, .int .i64 x.op.lock, .int .i64 x.op.lk, .int .i64 x.op.ls, .int .i64 x.op.lt, .int .i64 x.op.old, .int .i64 x.op.new, .int .i64 x.op.vn, .bool x.op.pe.en.ad.v6, .int .u64 x.op.pe.en.ad.hi, .int .u64 x.op.pe.en.ad.lo, .int .i64 x.op.pe.en.port, .bool x.op.pe.came, .int .i64 x.op.pe.since, .int .i64 x.op.pe.pts, .int .i64 x.op.pe.at_, .int .i64 x.op.pe.ping, .int .i64 x.op.pe.work, .slice oa nb oc, .slice ka nk kc, .bool x.op.mark]) 11 (by kernel_rfl) ?_
        refine hldL_takeS (i := 0) (v := ?qv0x8) (by kernel_rfl) rfl rfl (by kernel_rfl) (by kernel_rfl) (by kernel_rfl) (by kernel_rfl) (fun _ _ _ h => h) (Or.inl ⟨by rfl, ?qy0x8⟩) (by assumption) ?qr0x8
        case qy0x8 =>
          intro wq hSw
          try dsimp only at hSw
          go_simp
          try with_reducible rfl
        try simp only [Act.put, List.setIfInBounds_toArray, List.set_cons_zero, List.set_cons_succ]
        refine hldL_takeS (i := 1) (v := ?qv1x9) (by kernel_rfl) rfl rfl (by kernel_rfl) (by kernel_rfl) (by kernel_rfl) (by kernel_rfl) (fun _ _ _ h => h) (Or.inl ⟨by rfl, ?qy1x9⟩) (by assumption) ?qr1x9
        case qy1x9 =>
          intro wq hSw
          try dsimp only at hSw
          go_simp
          try with_reducible rfl
        try simp only [Act.put, List.setIfInBounds_toArray, List.set_cons_zero, List.set_cons_succ]
        refine hldL_takeS (i := 2) (v := ?qv2x10) (by kernel_rfl) rfl rfl (by kernel_rfl) (by kernel_rfl) (by kernel_rfl) (by kernel_rfl) (fun _ _ _ h => h) (Or.inl ⟨by rfl, ?qy2x10⟩) (by assumption) ?qr2x10
        case qy2x10 =>
          intro wq hSw
          try dsimp only at hSw
          go_simp
          try with_reducible rfl
        try simp only [Act.put, List.setIfInBounds_toArray, List.set_cons_zero, List.set_cons_succ]
        refine hldL_takeS (i := 3) (v := ?qv3x11) (by kernel_rfl) rfl rfl (by kernel_rfl) (by kernel_rfl) (by kernel_rfl) (by kernel_rfl) (fun _ _ _ h => h) (Or.inl ⟨by rfl, ?qy3x11⟩) (by assumption) ?qr3x11
        case qy3x11 =>
          intro wq hSw
          try dsimp only at hSw
          go_simp
          try with_reducible rfl
        try simp only [Act.put, List.setIfInBounds_toArray, List.set_cons_zero, List.set_cons_succ]
        refine hldL_takeS (i := 4) (v := ?qv4x12) (by kernel_rfl) rfl rfl (by kernel_rfl) (by kernel_rfl) (by kernel_rfl) (by kernel_rfl) (fun _ _ _ h => h) (Or.inl ⟨by rfl, ?qy4x12⟩) (by assumption) ?qr4x12
        case qy4x12 =>
          intro wq hSw
          try dsimp only at hSw
          go_simp
          try with_reducible rfl
        try simp only [Act.put, List.setIfInBounds_toArray, List.set_cons_zero, List.set_cons_succ]
        refine hldL_takeS (i := 5) (v := _) (by kernel_rfl) rfl rfl (by kernel_rfl) (by kernel_rfl) (by kernel_rfl) (by kernel_rfl) (fun _ _ _ h => h) (yieldsIf_load_mid (by rfl) _ _ rfl _ _ rfl _ _ (fun wq hq => hq.2.2.2.2.2.2) Try.underlying54 rfl (by kernel_rfl)) (by assumption) ?qr5x13
        try simp only [Act.put, List.setIfInBounds_toArray, List.set_cons_zero, List.set_cons_succ]
        refine hldL_takeS (i := 6) (v := ?qv6x14) (by kernel_rfl) rfl rfl (by kernel_rfl) (by kernel_rfl) (by kernel_rfl) (by kernel_rfl) (fun _ _ _ h => h) (Or.inl ⟨by rfl, ?qy6x14⟩) (by assumption) ?qr6x14
        case qy6x14 =>
          intro wq hSw
          try dsimp only at hSw
          go_simp
          try with_reducible rfl
        try simp only [Act.put, List.setIfInBounds_toArray, List.set_cons_zero, List.set_cons_succ]
        refine hldL_one (i := 7) rfl (by kernel_rfl) (fun K hK => ?_)
        go_simp
        go_at_call 10
        refine (HDO.out w2.drew B2.drew).mono ?_
        rintro e w4 ⟨m2, v2, rfl, hO4, hV4, hp4, hq4, b4⟩
        obtain ⟨z1, z2, z3, z4, zc1, zc2, zc3, zc4, u1, u2, u3, u4⟩ := mm_slices hO4.now
        rw [u1, u2, u3, u4]
        have B4 := (below2 B2.drew b4 : Below wr.heap.size wr w4)
        have hX4 := hX.below B4
        clear c0 c1 c2 c3 c4 c5 hop
        have d0 := hX4.cell (i := 0) rfl; have d1 := hX4.cell (i := 1) rfl; have d2 := hX4.cell (i := 2) rfl; have d3 := hX4.cell (i := 3) rfl; have d4 := hX4.cell (i := 4) rfl; have d5 := hX4.cell (i := 5) rfl; have c0 := hX4.cell (i := 0) rfl; have c1 := hX4.cell (i := 1) rfl; have c2 := hX4.cell (i := 2) rfl; have c3 := hX4.cell (i := 3) rfl; have c4 := hX4.cell (i := 4) rfl; have c5 := hX4.cell (i := 5) rfl; have cf := hX4.frozen
        have hop : w4.rangeAt b (o + k * 22 + 1) [.int .i64 x.op.kind, .int .i64 x.op.lock, .int .i64 x.op.lk, .int .i64 x.op.ls, .int .i64 x.op.lt, .int .i64 x.op.old, .int .i64 x.op.new, .int .i64 x.op.vn, .bool x.op.pe.en.ad.v6, .int .u64 x.op.pe.en.ad.hi, .int .u64 x.op.pe.en.ad.lo, .int .i64 x.op.pe.en.port, .bool x.op.pe.came, .int .i64 x.op.pe.since, .int .i64 x.op.pe.pts, .int .i64 x.op.pe.at_, .int .i64 x.op.pe.ping, .int .i64 x.op.pe.work, .slice oa nb oc, .slice ka nk kc, .bool x.op.mark] := HOP.out w4 B4
        have hS7 : (fun wq => wq.cell? ⟨X, 0, none⟩ = some (.int .i64 m.inn) ∧ wq.cell? ⟨X, 1, none⟩ = some (.int .i64 m.out) ∧ wq.cell? ⟨X, 2, none⟩ = some (.slice y1 m.bans.2.length yc1) ∧ wq.cell? ⟨X, 3, none⟩ = some (.slice y2 m.book.2.length yc2) ∧ wq.cell? ⟨X, 4, none⟩ = some (.slice y3 m.parts.2.length yc3) ∧ wq.cell? ⟨X, 5, none⟩ = some (.slice y4 m.locks.2.length yc4) ∧ wq.rangeAt b (o + k * 22 + 1) [.int .i64 x.op.kind, .int .i64 x.op.lock, .int .i64 x.op.lk, .int .i64 x.op.ls, .int .i64 x.op.lt, .int .i64 x.op.old, .int .i64 x.op.new, .int .i64 x.op.vn, .bool x.op.pe.en.ad.v6, .int .u64 x.op.pe.en.ad.hi, .int .u64 x.op.pe.en.ad.lo, .int .i64 x.op.pe.en.port, .bool x.op.pe.came, .int .i64 x.op.pe.since, .int .i64 x.op.pe.pts, .int .i64 x.op.pe.at_, .int .i64 x.op.pe.ping, .int .i64 x.op.pe.work, .slice oa nb oc, .slice ka nk kc, .bool x.op.mark]) w4 := ⟨d0, d1, d2, d3, d4, d5, hop⟩
        refine hK.out _ _ (fun _ => hS7) (fun _ => ?_)
        clear hK K
        try simp only [Act.put, List.setIfInBounds_toArray, List.set_cons_zero, List.set_cons_succ]
        refine hldL_takeS (i := 8) (v := ?qv8x15) (by kernel_rfl) rfl rfl (by kernel_rfl) (by kernel_rfl) (by kernel_rfl) (by kernel_rfl) (fun _ _ _ h => h) (Or.inl ⟨by rfl, ?qy8x15⟩) (by assumption) ?qr8x15
        case qy8x15 =>
          intro wq hSw
          try dsimp only at hSw
          go_simp
          try with_reducible rfl
        try simp only [Act.put, List.setIfInBounds_toArray, List.set_cons_zero, List.set_cons_succ]
        refine hldL_takeS (i := 9) (v := ?qv9x16) (by kernel_rfl) rfl rfl (by kernel_rfl) (by kernel_rfl) (by kernel_rfl) (by kernel_rfl) (fun _ _ _ h => h) (Or.inl ⟨by rfl, ?qy9x16⟩) (by assumption) ?qr9x16
        case qy9x16 =>
          intro wq hSw
          try dsimp only at hSw
          go_simp
          try with_reducible rfl
        try simp only [Act.put, List.setIfInBounds_toArray, List.set_cons_zero, List.set_cons_succ]
        refine hldL_takeU (i := 10) (v := ?qv10x17) (by kernel_rfl) rfl rfl (by kernel_rfl) (by kernel_rfl) (fun _ _ _ h => h) (Or.inl ⟨by rfl, ?qy10x17⟩) (fun _ => hS7) ?qr10x17
        case qy10x17 =>
          intro wq hSw
          try dsimp only at hSw
          go_simp
          try with_reducible rfl
        try simp only [Act.put, List.setIfInBounds_toArray, List.set_cons_zero, List.set_cons_succ]
        refine hldL_one (i := 11) rfl (by kernel_rfl) (fun K hK => ?_)
        go_simp
        refine named_world (K := K) fun w5 hw5 => ?_
        have hX5 : BlockIs w5 X [.int .i64 m2.inn, .int .i64 m2.out, .slice z1 m2.bans.2.length zc1, .slice z2 m2.book.2.length zc2, .slice z3 m2.parts.2.length zc3, .slice z4 m2.locks.2.length zc4] 36 := by subst hw5; ((refine RchW.get ?_); (repeat (first | with_reducible refine reach_set ?_ | with_reducible refine reach_other (by first | assumption | omega) ?_ | with_reducible refine reach_alloc ?_ | with_reducible refine reach_drew ?_)); exact reach_at (hX4) rfl)
        have hoth5 : ∀ k arr u, k ≠ X → BlockIs w4 k arr u → BlockIs w5 k arr u := by
          subst hw5
          intro k arr u hk hb
          have hk' := Ne.symm hk
          ((refine RchW.get ?_); (repeat (first | with_reducible refine reach_set ?_ | with_reducible refine reach_other (by first | assumption | omega) ?_ | with_reducible refine reach_alloc ?_ | with_reducible refine reach_drew ?_)); exact reach_at (hb) rfl)
        have bw5 : Below w.heap.size w w5 := by
          have BB := below2 HB.out B4
          subst hw5
          (repeat (first | with_reducible assumption | with_reducible exact Below.refl _ _ | with_reducible refine Below.setCell ?_ (by first | omega | (simp; done) | (simp; omega)) _ | with_reducible refine Below.alloc ?_ (by first | omega | (simp; done) | (simp; omega)) _ | with_reducible refine Below.drew ?_ | (with_reducible refine Below.trans ?_ (Below.mono (by with_reducible assumption) (by first | omega | (simp; done) | (simp; omega)))) | (refine Below.trans ?_ (Below.mono (by assumption) (by first | omega | (simp; done) | (simp; omega))))))
        clear hw5 c0 c1 c2 c3 c4 c5 cf hop
        refine hK.out _ _ (fun h => absurd h (by decide)) (fun _ => ?_)
        clear hK K
        try simp only [Act.put, List.setIfInBounds_toArray, List.set_cons_zero, List.set_cons_succ]
        refine hldL_done (by kernel_rfl) ?_
        refine NoPanic.normal ?_
        have hO5 := hO4.step (w' := w5) (fun b arr T hb hh => hoth5 b arr T hb hh)
        have hS2 : SmallP m2.pl (20 + (k + 1)) := by rw [hp4]; exact doP_small HS.out _ HSM.out _
        have hK2 : LocksOk m2.pl := by rw [hp4]; exact doP_locks HK.out _ _
        have hd2 := doOk_of hS2 (by omega) hK2
        have HH2 := Lib.hid (fun (W : World) (hb : Below w5.heap.size w5 W) => memHeld_any m2 x.who W (hO5.now.below hb) HW.out hd2.2.1)
        simp only [u1, u2, u3, u4] at HH2
        obtain ⟨N2, hN2⟩ : ∃ n, n = (heldP m2.pl x.who).length := ⟨_, rfl⟩
        rw [← hN2] at HH2
        have hll : m2.pl.locks.length = m2.pl.parts.length + 2 := hS2.2.2.2.2.2.1
        have hll0 : m.pl.locks.length = m.pl.parts.length + 2 := HS.out.2.2.2.2.2.1
        have HL1 := Lib.hid (fun (hmay : mayP m.pl x.op = true) (hk : x.op.kind = 1) => (show N2 = N1 + 1 by rw [hN2, hp4, HN1.out]; exact held_lock HW.out.1 hmay hk hll0))
        have HL2 := Lib.hid (fun (hmay : mayP m.pl x.op = false) => (show N2 = N1 by rw [hN2, hp4, HN1.out, doP_not hmay]))
        obtain ⟨_, pz, cz, ez, hz3⟩ := lks_open hO5.now.2.2.2.1
        have ex := u4.symm.trans ez
        injection ex with ea en ec
        subst ea ec
        have HZ := Lib.hid (fun y hy => hO5.now.2.2.2.2 y hy)
        have HO5 := Lib.hid hO5; have HS2 := Lib.hid hS2; have HK2 := Lib.hid hK2; have HB5 := Lib.hid bw5; have HZ3 := Lib.hid hz3
        have HX5 : Hid (BlockIs w5 X [.int .i64 m2.inn, .int .i64 m2.out, m2.bans.1, m2.book.1, m2.parts.1, m2.locks.1] 36) := by show BlockIs _ _ _ _; rw [u1, u2, u3, u4]; exact hX5
        have hlt5 := hX5.lt
        clear hO4 hV4 hp4 hq4 hoth5 hO5 hS2 hK2 hd2 hN2 hll hll0 bw5 u1 u2 u3 u4 ez en hz3 d0 d1 d2 d3 d4 d5 hS7 hS0 hX4 hX2 hX1 hX HH HMAY HDO HOP b1 b2 b4 B1 B2 B4 hr1
        have c0 := hX5.cell (i := 0) rfl; have c1 := hX5.cell (i := 1) rfl; have c2 := hX5.cell (i := 2) rfl; have c3 := hX5.cell (i := 3) rfl; have c4 := hX5.cell (i := 4) rfl; have c5 := hX5.cell (i := 5) rfl
        go_upto_region 14 with (go_at_call 8; (with_reducible refine (HH2.out _ (Below.refl _ _)).mono ?_); rintro e w6 ⟨hab, hcb, rfl, hr6, b6⟩)
        have HB6 := Lib.hid (below2 HB5.out b6)
        have hX6 := hX5.below b6
        have HX6 := Lib.hid (HX5.out.below b6)
        have HO6 := Lib.hid (HO5.out.below b6)
        have HZ6 := Lib.hid (fun (y : Lk) (hy : y ∈ m2.locks.2) => ReadsL.below (HZ.out y hy) b6)
        have HC6 := Lib.hid (fun (j : Nat) (y : Lk) (hy : m2.locks.2[j]? = some y) (hp : 0 < m2.locks.2.length) => (by obtain ⟨bz, oz, e1, e2, e3, e4⟩ := HZ3.out hp; obtain ⟨g0, g1⟩ := e4 j y hy; exact ⟨bz, oz, e1, e2, keep b6 e3 g0, keep b6 e3 g1⟩ : ∃ bz oz, z4 = some ⟨bz, oz, none⟩ ∧ m2.locks.2.length ≤ zc4 ∧ w6.cell? ⟨bz, oz + j * 2, none⟩ = some (.int .i64 y.b) ∧ w6.cell? ⟨bz, oz + j * 2 + 1, none⟩ = some y.v))
        have k1 := keep HB6.out h5 (HKEY.out 1 _ rfl)
        clear c0 c1 c2 c3 c4 c5 hX5 hr6 b6
        have c0 := hX6.cell (i := 0) rfl; have c1 := hX6.cell (i := 1) rfl; have c2 := hX6.cell (i := 2) rfl; have c3 := hX6.cell (i := 3) rfl; have c4 := hX6.cell (i := 4) rfl; have c5 := hX6.cell (i := 5) rfl
        generalize hmay : mayP m.pl x.op = mb
        have HMB := Lib.hid hmay
        clear hmay
        obtain ⟨kd, hkd⟩ : ∃ n, n = x.op.kind := ⟨_, rfl⟩
        rw [← hkd] at k1
        have HKD := Lib.hid hkd
        clear hkd
        have hwr : IntKind.i64.wrap ((N1 : Int) + 1) = (N1 : Int) + 1 := by rw [IntKind.wrap_i64]; omega
        cases mb with
        | true =>
          by_cases hk1 : kd = 1
          · obtain rfl : N2 = N1 + 1 := HL1.out HMB.out (HKD.out.symm.trans hk1)
            obtain rfl : kd = 1 := hk1
            go_upto_region 16 with fail
            go_wp2_with fail
            go_loopw [11] (fun j' w7 => ∃ j : Nat, j ≤ m2.locks.2.length ∧ j' = .int .i64 j ∧ IsW w7 w6) (fun j' _ => m2.locks.2.length - (intOf j').toNat)
            case atStart => exact ⟨0, by omega, rfl, isW_refl _⟩
            case round =>
              obtain ⟨j, hj, rfl, HE⟩ := hrel
              obtain rfl : wr = w6 := HE
              have p1 : (0 : Int) ≤ (j : Int) := by omega
              by_cases hjl : j < m2.locks.2.length
              · have p2 : (j : Int) < (m2.locks.2.length : Int) := by omega
                obtain ⟨y, hy⟩ : ∃ y, m2.locks.2[j]? = some y := ⟨_, List.getElem?_eq_getElem hjl⟩
                obtain ⟨bz, oz, rfl, hzc, g0, g1⟩ := HC6.out j y hy (by omega)
                obtain ⟨_, ya, yc, ey, _⟩ := ins_open (HZ6.out y (List.mem_of_getElem? hy))
                rw [ey] at g1
                have hlo := HK2.out (y.b, y.l) (List.mem_map.2 ⟨y, List.mem_of_getElem? hy, rfl⟩)
                obtain ⟨yb, hyb⟩ : ∃ n, n = y.b := ⟨_, rfl⟩
                obtain ⟨yn, hyn⟩ : ∃ n, n = y.l.length := ⟨_, rfl⟩
                rw [← hyb] at g0; rw [← hyn] at g1
                have hcase : yb = 0 ∨ yn = 0 := by
                  rcases hlo.1 with h | h
                  · left; rw [hyb]; exact h
                  · right; rw [hyn]; show y.l.length = 0; rw [show y.l = [] from h]; rfl
                clear hy ey hlo hyb hyn
                by_cases hyb0 : yb = 0
                · subst hyb0
                  clear hcase
                  go_wp2_with fail
                  go_roundw
                  case rel => exact ⟨j + 1, by omega, by go_num, isW_refl _⟩
                  case measure => simp [intOf]; omega
                · have f1 : (yb == 0) = false := by simpa using hyb0
                  have hyn0 : yn = 0 := by omega
                  subst hyn0
                  clear hcase
                  go_wp2_with fail
                  go_roundw
                  case rel => exact ⟨j + 1, by omega, by go_num, isW_refl _⟩
                  case measure => simp [intOf]; omega
              · obtain rfl : j = m2.locks.2.length := by omega
                go_wp2_with fail
                go_roundw
                case rel => exact ⟨k + 1, m2, by omega, by go_num, HX6.out, HO6.out, HS2.out, HK2.out, HB6.out⟩
                case measure => simp [intOf]; omega
          · have hke : (kd == 1) = false := by simpa using hk1
            go_upto_region 16 with fail
            go_wp2_with fail
            go_loopw [11] (fun j' w7 => ∃ j : Nat, j ≤ m2.locks.2.length ∧ j' = .int .i64 j ∧ IsW w7 w6) (fun j' _ => m2.locks.2.length - (intOf j').toNat)
            case atStart => exact ⟨0, by omega, rfl, isW_refl _⟩
            case round =>
              obtain ⟨j, hj, rfl, HE⟩ := hrel
              obtain rfl : wr = w6 := HE
              have p1 : (0 : Int) ≤ (j : Int) := by omega
              by_cases hjl : j < m2.locks.2.length
              · have p2 : (j : Int) < (m2.locks.2.length : Int) := by omega
                obtain ⟨y, hy⟩ : ∃ y, m2.locks.2[j]? = some y := ⟨_, List.getElem?_eq_getElem hjl⟩
                obtain ⟨bz, oz, rfl, hzc, g0, g1⟩ := HC6.out j y hy (by omega)
                obtain ⟨_, ya, yc, ey, _⟩ := ins_open (HZ6.out y (List.mem_of_getElem? hy))
                rw [ey] at g1
                have hlo := HK2.out (y.b, y.l) (List.mem_map.2 ⟨y, List.mem_of_getElem? hy, rfl⟩)
                obtain ⟨yb, hyb⟩ : ∃ n, n = y.b := ⟨_, rfl⟩
                obtain ⟨yn, hyn⟩ : ∃ n, n = y.l.length := ⟨_, rfl⟩
                rw [← hyb] at g0; rw [← hyn] at g1
                have hcase : yb = 0 ∨ yn = 0 := by
                  rcases hlo.1 with h | h
                  · left; rw [hyb]; exact h
                  · right; rw [hyn]; show y.l.length = 0; rw [show y.l = [] from h]; rfl
                clear hy ey hlo hyb hyn
                by_cases hyb0 : yb = 0
                · subst hyb0
                  clear hcase
                  go_wp2_with fail
                  go_roundw
                  case rel => exact ⟨j + 1, by omega, by go_num, isW_refl _⟩
                  case measure => simp [intOf]; omega
                · have f1 : (yb == 0) = false := by simpa using hyb0
                  have hyn0 : yn = 0 := by omega
                  subst hyn0
                  clear hcase
                  go_wp2_with fail
                  go_roundw
                  case rel => exact ⟨j + 1, by omega, by go_num, isW_refl _⟩
                  case measure => simp [intOf]; omega
              · obtain rfl : j = m2.locks.2.length := by omega
                go_wp2_with fail
                go_roundw
                case rel => exact ⟨k + 1, m2, by omega, by go_num, HX6.out, HO6.out, HS2.out, HK2.out, HB6.out⟩
                case measure => simp [intOf]; omega
        | false =>
          obtain rfl : N2 = N1 := HL2.out HMB.out
          go_upto_region 16 with fail
          go_wp2_with fail
          go_loopw [11] (fun j' w7 => ∃ j : Nat, j ≤ m2.locks.2.length ∧ j' = .int .i64 j ∧ IsW w7 w6) (fun j' _ => m2.locks.2.length - (intOf j').toNat)
          case atStart => exact ⟨0, by omega, rfl, isW_refl _⟩
          case round =>
            obtain ⟨j, hj, rfl, HE⟩ := hrel
            obtain rfl : wr = w6 := HE
            have p1 : (0 : Int) ≤ (j : Int) := by omega
            by_cases hjl : j < m2.locks.2.length
            · have p2 : (j : Int) < (m2.locks.2.length : Int) := by omega
              obtain ⟨y, hy⟩ : ∃ y, m2.locks.2[j]? = some y := ⟨_, List.getElem?_eq_getElem hjl⟩
              obtain ⟨bz, oz, rfl, hzc, g0, g1⟩ := HC6.out j y hy (by omega)
              obtain ⟨_, ya, yc, ey, _⟩ := ins_open (HZ6.out y (List.mem_of_getElem? hy))
              rw [ey] at g1
              have hlo := HK2.out (y.b, y.l) (List.mem_map.2 ⟨y, List.mem_of_getElem? hy, rfl⟩)
              obtain ⟨yb, hyb⟩ : ∃ n, n = y.b := ⟨_, rfl⟩
              obtain ⟨yn, hyn⟩ : ∃ n, n = y.l.length := ⟨_, rfl⟩
              rw [← hyb] at g0; rw [← hyn] at g1
              have hcase : yb = 0 ∨ yn = 0 := by
                rcases hlo.1 with h | h
                · left; rw [hyb]; exact h
                · right; rw [hyn]; show y.l.length = 0; rw [show y.l = [] from h]; rfl
              clear hy ey hlo hyb hyn
              by_cases hyb0 : yb = 0
              · subst hyb0
                clear hcase
                go_wp2_with fail
                go_roundw
                case rel => exact ⟨j + 1, by omega, by go_num, isW_refl _⟩
                case measure => simp [intOf]; omega
              · have f1 : (yb == 0) = false := by simpa using hyb0
                have hyn0 : yn = 0 := by omega
                subst hyn0
                clear hcase
                go_wp2_with fail
                go_roundw
                case rel => exact ⟨j + 1, by omega, by go_num, isW_refl _⟩
                case measure => simp [intOf]; omega
            · obtain rfl : j = m2.locks.2.length := by omega
              go_wp2_with fail
              go_roundw
              case rel => exact ⟨k + 1, m2, by omega, by go_num, HX6.out, HO6.out, HS2.out, HK2.out, HB6.out⟩
              case measure => simp [intOf]; omega
      · rcases Int.lt_or_le x.who 0 with hwl | hwl
        · have hwd : decide (x.who < 0) = true := decide_eq_true hwl
          go_wp2_with (go_at_call 6; (with_reducible refine (awake37_any _).mono ?_); rintro e w2 ⟨rfl, b2⟩)
          go_ret
          exact ⟨rfl, below2 HB.out b2⟩
        · have hwl' : ¬ x.who < 0 := by omega
          have hwd : decide (x.who < 0) = false := decide_eq_false hwl'
          have hwh : 100 < x.who := by omega
          have hwe : decide (100 < x.who) = true := decide_eq_true hwh
          go_wp2_with (go_at_call 6; (with_reducible refine (awake37_any _).mono ?_); rintro e w2 ⟨rfl, b2⟩)
          go_ret
          exact ⟨rfl, below2 HB.out b2⟩
    · obtain rfl : k = l.length := by omega
      clear h3
      go_wp2_with (go_at_call 6; (with_reducible refine (awake37_any _).mono ?_); rintro e w2 ⟨rfl, b2⟩)
      go_ret
      exact ⟨rfl, below2 HB.out b2⟩
end Go.Proofs.Ytnplgagaoeckoaa
