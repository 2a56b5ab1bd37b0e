/- Texts put together: MemL6, MemL7, MemL8, MemM, Held, RfA, RfB, RfC, RfD, RfS, RfT, RfU, RfV, RfK, RfDono, RfDo1, RfDo2, RfDo3y, RfDo3n, RfDo4, RfDo5. No condition. -/
import Derived.Test.YtnplgagaoeckoaaGreatRvjzmkoueve
import Derived.Test.YtnplgagaoeckoaaGreatRihppkpqfio
import Derived.Test.YtnplgagaoeckoaaGreatRbocrvkvair
import Derived.Test.YtnplgagaoeckoaaGreatRgjzkbncnka
import Derived.Test.YtnplgagaoeckoaaGreatRqjngbjfvuz
set_option maxRecDepth 100000
set_option linter.unusedSimpArgs false
set_option linter.unusedVariables false
namespace Go.Proofs.YtnplgagaoeckoaaGreat
open Go.RowKit
set_option maxHeartbeats 16000000 in
theorem memDo_6 (w0 : World → Prop) (hg : Grows w0) (B : Nat) (m : Mm) (o : Oq) (who : Int) (w : World) (hb0 : w0 w) (hB : B ≤ w.heap.size) (hm : ∀ W, w0 W → MmAt W m) (ho : OqAt w o) (hmay : mayP m.pl o = true) (hk : o.kind = 6) (hpl : m.parts.2.length ≤ 1000) (hN : (shOf m o.ls).l.length ≤ 100000) (hbn : o.bans.2.length ≤ 1000) (hbk : o.book.2.length ≤ 1000) :
  DoC 14 w0 B m o who w := by
 unfold DoC
 have hres : doP m.pl o who = (storeP m.pl o.lk o.ls o.lt (valP o), zeroVp) := by unfold doP; rw [if_neg (by rw [hmay]; simp), if_neg (by omega), if_neg (by omega), if_neg (by omega), if_neg (by omega), if_neg (by omega), if_pos hk]
 rw [hres]
 clear hres
 unfold GivesDo
 have h := hm w hb0
 obtain ⟨HM, HG⟩ := zh2 hm hg
 have HMAY := zh (fun (W : World) (hb : Below w.heap.size w W) => memMay_any m o who W (h.below hb) (ho.below hb))
 rw [hmay] at HMAY
 have HL := zh (fun (W : World) (hb : Below w.heap.size w W) => memLock_any m o.lock W (h.below hb))
 have HLK := zh (fun (W : World) (hW : w0 W) => lkOf_at (hm W hW) o.lock)
 have hpr := opRight_load (mayP_right hmay) (Or.inr hk)
 have HST := zh (fun (B' : Nat) (W : World) (hW : B' ≤ W.heap.size) (hb : Below w.heap.size w W) => memStore_any w0 hg B' m o.lk o.ls o.lt ⟨o.vn, o.pe, o.bans, o.book⟩ W (hg _ _ hb0 hb) hW hm (⟨ReadsL.below ho.1 hb, ReadsL.below ho.2 hb⟩ : VmAt W _) hpl hpr.2.2.1 hpr.2.2.2 hN hbn hbk)
 simp only at HST
 obtain ⟨_, qa, qc, eq, _⟩ := ins_open (lkOf_at h o.lock)
 obtain ⟨a1, a2, a3, a4, c1, c2, c3, c4, e1, e2, e3, e4⟩ := mm_slices h
 obtain ⟨_, oa, oc, eo, _⟩ := ba_open ho.1
 obtain ⟨_, ka, kc, ek, _⟩ := ey_open ho.2
 have hmm := zmm e1 e2 e3 e4
 have HMM := zh hmm
 obtain ⟨E1, E2, E3, E4, EQ, EO, EK⟩ := zh7 e1 e2 e3 e4 eq eo ek
 simp only [e1, e2, e3, e4, eo, ek, eq] at HMAY HL HST
 rw [e1, e2, e3, e4, eo, ek]
 clear e1 e2 e3 e4 eo ek hmm eq
 obtain ⟨x0, hx0, x1, hx1, n1, hn1, n2, hn2, n3, hn3, n4, hn4, nb, hnb, nk, hnk, qn, hqn, qb, hqb⟩ := nz10 m.inn m.out m.bans.2.length m.book.2.length m.parts.2.length m.locks.2.length o.bans.2.length o.book.2.length ((lkOf m o.lock).l.length) ((lkOf m o.lock).b)
 simp only [← hx0, ← hx1, ← hn1, ← hn2, ← hn3, ← hn4, ← hnb, ← hnk, ← hqn, ← hqb] at HMAY HL HST ⊢
 rw [← hx0, ← hx1, ← hn1, ← hn2, ← hn3, ← hn4] at HMM
 simp only [hk] at HMAY HL ⊢
 obtain ⟨HX0, HX1, HN1, HN2, HN3, HN4, HNB, HNK, HQN, HQB⟩ := zh10 hx0 hx1 hn1 hn2 hn3 hn4 hnb hnk hqn hqb
 clear h ho hm hg hmay hx0 hx1 hn1 hn2 hn3 hn4 hnb hnk hqn hqb hk hbn hbk hpr hpl hN
 go_enter Tryz.func14, Tryz.ntmps14
 go_upto_region 1 with fail
 refine wpn5 fun W5 B5 hBm hBo hBw hBr hBv hs5 => ?_
 obtain ⟨m0, m1, m2, m3, m4, m5⟩ := hBm.e6; have k0 := hBw.c0
 have HBo := zh hBo
 go_upto_region 4 with (first
  | (refine list_load_blk rfl 56 _ rfl (w.heap.size + 1) _ 56 hBo rfl Tryz.underlying56 (by kernel_rfl) ?_)
  | (go_at_call 12; (with_reducible refine (HMAY.out _ B5).mono ?_); rintro e w1 ⟨rfl, b1⟩; have z1 := b1.size; have B6 := below2 B5 b1; have hBm1 := hBm.below b1; have hBo1 := hBo.below b1; have hBw1 := hBw.below b1; have hBr1 := hBr.below b1; have hBv1 := hBv.below b1; clear m0 m1 m2 m3 m4 m5 k0; obtain ⟨m0, m1, m2, m3, m4, m5⟩ := hBm1.e6; have mf := hBm1.frozen; have ml := hBm1.lt; obtain ⟨o0, o1⟩ := hBo1.e2)
  | (go_at_call 39; (with_reducible refine (HL.out _ B6).mono ?_); rintro e w2 ⟨rfl, b2⟩; have z2 := b2.size; have B7 := below2 B6 b2; have hBm2 := hBm1.below b2; have hBo2 := hBo1.below b2; have hBw2 := hBw1.below b2; have hBr2 := hBr1.below b2; have hBv2 := hBv1.below b2; clear m0 m1 m2 m3 m4 m5 mf ml o0 o1))
 refine wpn1 fun W3 bW2 hBl3 hs3 => ?_
 have B8 := below2 B7 bW2
 have hBm3 := hBm2.below bW2
 have hBo3 := hBo2.below bW2
 have hBw3 := hBw2.below bW2
 have hBr3 := hBr2.below bW2
 have hBv3 := hBv2.below bW2
 have hz3 : w.heap.size + 1 + 1 + 1 + 1 + 1 ≤ w2.heap.size := by omega
 clear hBm1 hBo1 hBw1 hBr1 hBv1 hBm2 hBo2 hBw2 hBr2 hBv2 hBm hBw hBr hBv hBo
 obtain ⟨m0, m1, m2, m3, m4, m5⟩ := hBm3.e6; have mf := hBm3.frozen; have ml := hBm3.lt; have o0 := hBo3.c0; have o2 := hBo3.c2; have o3 := hBo3.c3; have o4 := hBo3.c4; have o7 := hBo3.c7; have o8 := hBo3.c8; have o9 := hBo3.c9; have o10 := hBo3.c10; have o11 := hBo3.c11; have o12 := hBo3.c12; have o13 := hBo3.c13; have o14 := hBo3.c14; have o15 := hBo3.c15; have o16 := hBo3.c16; have o17 := hBo3.c17; have o18 := hBo3.c18; have o19 := hBo3.c19; have k0 := hBw3.c0; obtain ⟨l0, l1⟩ := hBl3.e2; have lf := hBl3.frozen; have ll := hBl3.lt
 go_wp2_with (first
  | (go_at_call 48; (with_reducible refine (HST.out (w2.heap.size + 1) _ (by omega) B8).mono ?_); unfold GivesMm; rintro e w7 ⟨m7, rfl, hM7, hp7, b7⟩; have z7 := b7.size; have B9 := below2 (w := w) B8 b7; have hm9 := hM7.now (HG.out _ _ hb0 B9); obtain ⟨d1, d2, d3, d4, g1, g2, g3, g4, u1, u2, u3, u4⟩ := mm_slices hm9; obtain ⟨y0, y1, ⟨y2, l2⟩, ⟨y3, l3⟩, ⟨y4, l4⟩, ⟨y5, l5⟩⟩ := m7; simp only at u1 u2 u3 u4; subst u1 u2 u3 u4; obtain ⟨HM7, HP7⟩ := zh2 hM7 hp7; have hBr7 := hBr3.below b7; have hBv7 := hBv3.below b7; clear hM7 hp7 hm9)
  | (refine list_store_blk rfl 40 _ _ rfl (w.heap.size + 1 + 1 + 1) _ _ 40 hBr7 rfl rfl (by kernel_rfl) rfl (by simp [Value.oneCell']) w.heap.size w B9 (by omega) ?_; intro w20 hR20 hoth20 hsz20 bw20)
  | (refine list_store_blk rfl 54 _ _ rfl (w.heap.size + 1 + 1 + 1 + 1) _ _ 54 (hoth20 _ _ _ (by omega) hBv7) rfl rfl (by kernel_rfl) rfl (by simp [Value.oneCell']) w.heap.size w bw20 (by omega) ?_; intro w21 hV21 hoth21 hsz21 bw21))
 have hR21 := hoth21 _ _ _ (by omega) hR20
 obtain ⟨e90, e91, e92, e93, e94, e95⟩ := hR21.e6; obtain ⟨f90, f91, f92, f93, f94, f95, f96, f97, f98, f99, f910, f911, f912⟩ := hV21.e13
 exact bodyPost_ret (v := .tuple #[.agg #[.int .i64 y0, .int .i64 y1, .slice d1 l2.length g1, .slice d2 l3.length g2, .slice d3 l4.length g3, .slice d4 l5.length g4], .agg #[.int .i64 0, .bool false, .int .u64 0, .int .u64 0, .int .i64 0, .bool false, .int .i64 0, .int .i64 0, .int .i64 0, .int .i64 0, .int .i64 0, .slice none 0 0, .slice none 0 0]]) (by simp [results, Tryz.results14, go_sem, e90, e91, e92, e93, e94, e95, f90, f91, f92, f93, f94, f95, f96, f97, f98, f99, f910, f911, f912]) rfl ⟨⟨y0, y1, (.slice d1 l2.length g1, l2), (.slice d2 l3.length g2, l3), (.slice d3 l4.length g3, l4), (.slice d4 l5.length g4, l5)⟩, zeroVm, rfl, ((Firm.keep HM7.out (fun g arr T h1 hb => hoth21 _ _ _ (by omega) (hoth20 _ _ _ (by omega) hb))).from (by omega : B ≤ w2.heap.size + 1)), (Firm.old fun W _ => zeroVm_at W), HP7.out, rfl, bw21⟩
set_option maxHeartbeats 16000000 in
theorem memDo_7 (w0 : World → Prop) (hg : Grows w0) (B : Nat) (m : Mm) (o : Oq) (who : Int) (w : World) (hb0 : w0 w) (hB : B ≤ w.heap.size) (hm : ∀ W, w0 W → MmAt W m) (ho : OqAt w o) (hmay : mayP m.pl o = true) (hk : o.kind = 7) :
  DoC 14 w0 B m o who w := by
 unfold DoC
 have hres : doP m.pl o who = swapP m.pl o.lk o.old o.new := by unfold doP; rw [if_neg (by rw [hmay]; simp), if_neg (by omega), if_neg (by omega), if_neg (by omega), if_neg (by omega), if_neg (by omega), if_neg (by omega), if_pos hk]
 rw [hres]
 clear hres
 unfold GivesDo
 have h := hm w hb0
 obtain ⟨HM, HG⟩ := zh2 hm hg
 have HMAY := zh (fun (W : World) (hb : Below w.heap.size w W) => memMay_any m o who W (h.below hb) (ho.below hb))
 rw [hmay] at HMAY
 have HL := zh (fun (W : World) (hb : Below w.heap.size w W) => memLock_any m o.lock W (h.below hb))
 have HLK := zh (fun (W : World) (hW : w0 W) => lkOf_at (hm W hW) o.lock)
 have HSW := zh (fun (W : World) (hb : Below w.heap.size w W) => memSwap_any m o W (h.below hb) (ho.below hb))
 obtain ⟨_, qa, qc, eq, _⟩ := ins_open (lkOf_at h o.lock)
 obtain ⟨a1, a2, a3, a4, c1, c2, c3, c4, e1, e2, e3, e4⟩ := mm_slices h
 obtain ⟨_, oa, oc, eo, _⟩ := ba_open ho.1
 obtain ⟨_, ka, kc, ek, _⟩ := ey_open ho.2
 have hmm := zmm e1 e2 e3 e4
 have HMM := zh hmm
 obtain ⟨E1, E2, E3, E4, EQ, EO, EK⟩ := zh7 e1 e2 e3 e4 eq eo ek
 simp only [e1, e2, e3, e4, eo, ek, eq] at HMAY HL HSW
 rw [e1, e2, e3, e4, eo, ek]
 clear e1 e2 e3 e4 eo ek hmm eq
 obtain ⟨x0, hx0, x1, hx1, n1, hn1, n2, hn2, n3, hn3, n4, hn4, nb, hnb, nk, hnk, qn, hqn, qb, hqb⟩ := nz10 m.inn m.out m.bans.2.length m.book.2.length m.parts.2.length m.locks.2.length o.bans.2.length o.book.2.length ((lkOf m o.lock).l.length) ((lkOf m o.lock).b)
 simp only [← hx0, ← hx1, ← hn1, ← hn2, ← hn3, ← hn4, ← hnb, ← hnk, ← hqn, ← hqb] at HMAY HL HSW ⊢
 rw [← hx0, ← hx1, ← hn1, ← hn2, ← hn3, ← hn4] at HMM
 simp only [hk] at HMAY HL HSW ⊢
 obtain ⟨HX0, HX1, HN1, HN2, HN3, HN4, HNB, HNK, HQN, HQB⟩ := zh10 hx0 hx1 hn1 hn2 hn3 hn4 hnb hnk hqn hqb
 clear h ho hm hg hmay hx0 hx1 hn1 hn2 hn3 hn4 hnb hnk hqn hqb hk
 go_enter Tryz.func14, Tryz.ntmps14
 go_upto_region 1 with fail
 refine wpn5 fun W5 B5 hBm hBo hBw hBr hBv hs5 => ?_
 obtain ⟨m0, m1, m2, m3, m4, m5⟩ := hBm.e6; have k0 := hBw.c0
 have HBo := zh hBo
 go_upto_region 4 with (first
  | (refine list_load_blk rfl 56 _ rfl (w.heap.size + 1) _ 56 hBo rfl Tryz.underlying56 (by kernel_rfl) ?_)
  | (go_at_call 12; (with_reducible refine (HMAY.out _ B5).mono ?_); rintro e w1 ⟨rfl, b1⟩; have z1 := b1.size; have B6 := below2 B5 b1; have hBm1 := hBm.below b1; have hBo1 := hBo.below b1; have hBw1 := hBw.below b1; have hBr1 := hBr.below b1; have hBv1 := hBv.below b1; clear m0 m1 m2 m3 m4 m5 k0; obtain ⟨m0, m1, m2, m3, m4, m5⟩ := hBm1.e6; have mf := hBm1.frozen; have ml := hBm1.lt; obtain ⟨o0, o1⟩ := hBo1.e2)
  | (go_at_call 39; (with_reducible refine (HL.out _ B6).mono ?_); rintro e w2 ⟨rfl, b2⟩; have z2 := b2.size; have B7 := below2 B6 b2; have hBm2 := hBm1.below b2; have hBo2 := hBo1.below b2; have hBw2 := hBw1.below b2; have hBr2 := hBr1.below b2; have hBv2 := hBv1.below b2; clear m0 m1 m2 m3 m4 m5 mf ml o0 o1))
 refine wpn1 fun W3 bW2 hBl3 hs3 => ?_
 have B8 := below2 B7 bW2
 have hBm3 := hBm2.below bW2
 have hBo3 := hBo2.below bW2
 have hBw3 := hBw2.below bW2
 have hBr3 := hBr2.below bW2
 have hBv3 := hBv2.below bW2
 have hz3 : w.heap.size + 1 + 1 + 1 + 1 + 1 ≤ w2.heap.size := by omega
 clear hBm1 hBo1 hBw1 hBr1 hBv1 hBm2 hBo2 hBw2 hBr2 hBv2 hBm hBw hBr hBv hBo
 obtain ⟨m0, m1, m2, m3, m4, m5⟩ := hBm3.e6; have mf := hBm3.frozen; have ml := hBm3.lt; obtain ⟨o0, o1⟩ := hBo3.e2; have k0 := hBw3.c0; obtain ⟨l0, l1⟩ := hBl3.e2; have lf := hBl3.frozen; have ll := hBl3.lt
 go_wp2_with (first
  | (refine list_load_blk rfl 56 _ rfl (w.heap.size + 1) _ 56 hBo3 rfl Tryz.underlying56 (by kernel_rfl) ?_)
  | (go_at_call 49; (with_reducible refine (HSW.out _ B8).mono ?_); unfold GivesMv; rintro e w7 ⟨m7, v7, rfl, hM7, hV7, p1, p2, b7⟩; have z7 := b7.size; have B9 := below2 (w := w) B8 b7; have hm9 := hM7 _ (HM.out _ (HG.out _ _ hb0 B9)); obtain ⟨d1, d2, d3, d4, g1, g2, g3, g4, u1, u2, u3, u4⟩ := mm_slices hm9; obtain ⟨y0, y1, ⟨y2, l2⟩, ⟨y3, l3⟩, ⟨y4, l4⟩, ⟨y5, l5⟩⟩ := m7; simp only at u1 u2 u3 u4; subst u1 u2 u3 u4; have hv9 := hV7 w7; obtain ⟨_, a8, c8, e8, _⟩ := ba_open hv9.1; obtain ⟨_, a9, c9, e9, _⟩ := ey_open hv9.2; obtain ⟨vn, vp, ⟨vb, vbl⟩, ⟨vk, vkl⟩⟩ := v7; simp only at e8 e9; subst e8 e9; obtain ⟨HM7, HV7, HP1, HP2⟩ := zh4 hM7 hV7 p1 p2; have hBr7 := hBr3.below b7; have hBv7 := hBv3.below b7; clear hM7 hV7 p1 p2 hm9 hv9)
  | (refine list_store_blk rfl 40 _ _ rfl (w.heap.size + 1 + 1 + 1) _ _ 40 hBr7 rfl rfl (by kernel_rfl) rfl (by simp [Value.oneCell']) w.heap.size w B9 (by omega) ?_; intro w20 hR20 hoth20 hsz20 bw20)
  | (refine list_store_blk rfl 54 _ _ rfl (w.heap.size + 1 + 1 + 1 + 1) _ _ 54 (hoth20 _ _ _ (by omega) hBv7) rfl rfl (by kernel_rfl) rfl (by simp [Value.oneCell']) w.heap.size w bw20 (by omega) ?_; intro w21 hV21 hoth21 hsz21 bw21))
 have hR21 := hoth21 _ _ _ (by omega) hR20
 obtain ⟨e90, e91, e92, e93, e94, e95⟩ := hR21.e6; obtain ⟨f90, f91, f92, f93, f94, f95, f96, f97, f98, f99, f910, f911, f912⟩ := hV21.e13
 exact bodyPost_ret (v := .tuple #[.agg #[.int .i64 y0, .int .i64 y1, .slice d1 l2.length g1, .slice d2 l3.length g2, .slice d3 l4.length g3, .slice d4 l5.length g4], .agg #[.int .i64 vn, .bool vp.en.ad.v6, .int .u64 vp.en.ad.hi, .int .u64 vp.en.ad.lo, .int .i64 vp.en.port, .bool vp.came, .int .i64 vp.since, .int .i64 vp.pts, .int .i64 vp.at_, .int .i64 vp.ping, .int .i64 vp.work, .slice a8 vbl.length c8, .slice a9 vkl.length c9]]) (by simp [results, Tryz.results14, go_sem, e90, e91, e92, e93, e94, e95, f90, f91, f92, f93, f94, f95, f96, f97, f98, f99, f910, f911, f912]) rfl ⟨⟨y0, y1, (.slice d1 l2.length g1, l2), (.slice d2 l3.length g2, l3), (.slice d3 l4.length g3, l4), (.slice d4 l5.length g4, l5)⟩, ⟨vn, vp, (.slice a8 vbl.length c8, vbl), (.slice a9 vkl.length c9, vkl)⟩, rfl, (Firm.old fun W hW => HM7.out W (HM.out W hW)), (Firm.old fun W _ => HV7.out W), HP1.out, HP2.out, bw21⟩
set_option maxHeartbeats 16000000 in
theorem memDo_8 (w0 : World → Prop) (hg : Grows w0) (B : Nat) (m : Mm) (o : Oq) (who : Int) (w : World) (hb0 : w0 w) (hB : B ≤ w.heap.size) (hm : ∀ W, w0 W → MmAt W m) (ho : OqAt w o) (hmay : mayP m.pl o = true) (hk : 1 ≤ o.kind → 8 ≤ o.kind) :
  DoC 14 w0 B m o who w := by
 unfold DoC
 have hres : doP m.pl o who = (m.pl, zeroVp) := by unfold doP; rw [if_neg (by rw [hmay]; simp), if_neg (by omega), if_neg (by omega), if_neg (by omega), if_neg (by omega), if_neg (by omega), if_neg (by omega), if_neg (by omega)]
 rw [hres]
 clear hres
 unfold GivesDo
 have h := hm w hb0
 obtain ⟨HM, HG⟩ := zh2 hm hg
 have HMAY := zh (fun (W : World) (hb : Below w.heap.size w W) => memMay_any m o who W (h.below hb) (ho.below hb))
 rw [hmay] at HMAY
 have HL := zh (fun (W : World) (hb : Below w.heap.size w W) => memLock_any m o.lock W (h.below hb))
 have HLK := zh (fun (W : World) (hW : w0 W) => lkOf_at (hm W hW) o.lock)
 have hk1 : o.kind ≠ 1 := (by omega); have hk2 : o.kind ≠ 2 := (by omega); have hk3 : o.kind ≠ 3 := (by omega); have hk4 : o.kind ≠ 4 := (by omega); have hk5 : o.kind ≠ 5 := (by omega); have hk6 : o.kind ≠ 6 := (by omega); have hk7 : o.kind ≠ 7 := (by omega)
 obtain ⟨_, qa, qc, eq, _⟩ := ins_open (lkOf_at h o.lock)
 obtain ⟨a1, a2, a3, a4, c1, c2, c3, c4, e1, e2, e3, e4⟩ := mm_slices h
 obtain ⟨_, oa, oc, eo, _⟩ := ba_open ho.1
 obtain ⟨_, ka, kc, ek, _⟩ := ey_open ho.2
 have hmm := zmm e1 e2 e3 e4
 have HMM := zh hmm
 obtain ⟨E1, E2, E3, E4, EQ, EO, EK⟩ := zh7 e1 e2 e3 e4 eq eo ek
 simp only [e1, e2, e3, e4, eo, ek, eq] at HMAY HL 
 rw [e1, e2, e3, e4, eo, ek]
 clear e1 e2 e3 e4 eo ek hmm eq
 obtain ⟨x0, hx0, x1, hx1, n1, hn1, n2, hn2, n3, hn3, n4, hn4, nb, hnb, nk, hnk, qn, hqn, qb, hqb⟩ := nz10 m.inn m.out m.bans.2.length m.book.2.length m.parts.2.length m.locks.2.length o.bans.2.length o.book.2.length ((lkOf m o.lock).l.length) ((lkOf m o.lock).b)
 simp only [← hx0, ← hx1, ← hn1, ← hn2, ← hn3, ← hn4, ← hnb, ← hnk, ← hqn, ← hqb] at HMAY HL  ⊢
 rw [← hx0, ← hx1, ← hn1, ← hn2, ← hn3, ← hn4] at HMM
 have f1 : (o.kind == 1) = false := beq_eq_false_iff_ne.2 hk1
 have f2 : (o.kind == 2) = false := beq_eq_false_iff_ne.2 hk2
 have f3 : (o.kind == 3) = false := beq_eq_false_iff_ne.2 hk3
 have f4 : (o.kind == 4) = false := beq_eq_false_iff_ne.2 hk4
 have f5 : (o.kind == 5) = false := beq_eq_false_iff_ne.2 hk5
 have f6 : (o.kind == 6) = false := beq_eq_false_iff_ne.2 hk6
 have f7 : (o.kind == 7) = false := beq_eq_false_iff_ne.2 hk7
 obtain ⟨HX0, HX1, HN1, HN2, HN3, HN4, HNB, HNK, HQN, HQB⟩ := zh10 hx0 hx1 hn1 hn2 hn3 hn4 hnb hnk hqn hqb
 clear h ho hm hg hmay hx0 hx1 hn1 hn2 hn3 hn4 hnb hnk hqn hqb hk hk1 hk2 hk3 hk4 hk5 hk6 hk7
 go_enter Tryz.func14, Tryz.ntmps14
 go_upto_region 1 with fail
 refine wpn5 fun W5 B5 hBm hBo hBw hBr hBv hs5 => ?_
 obtain ⟨m0, m1, m2, m3, m4, m5⟩ := hBm.e6; have k0 := hBw.c0
 have HBo := zh hBo
 go_upto_region 4 with (first
  | (refine list_load_blk rfl 56 _ rfl (w.heap.size + 1) _ 56 hBo rfl Tryz.underlying56 (by kernel_rfl) ?_)
  | (go_at_call 12; (with_reducible refine (HMAY.out _ B5).mono ?_); rintro e w1 ⟨rfl, b1⟩; have z1 := b1.size; have B6 := below2 B5 b1; have hBm1 := hBm.below b1; have hBo1 := hBo.below b1; have hBw1 := hBw.below b1; have hBr1 := hBr.below b1; have hBv1 := hBv.below b1; clear m0 m1 m2 m3 m4 m5 k0; obtain ⟨m0, m1, m2, m3, m4, m5⟩ := hBm1.e6; have mf := hBm1.frozen; have ml := hBm1.lt; obtain ⟨o0, o1⟩ := hBo1.e2)
  | (go_at_call 39; (with_reducible refine (HL.out _ B6).mono ?_); rintro e w2 ⟨rfl, b2⟩; have z2 := b2.size; have B7 := below2 B6 b2; have hBm2 := hBm1.below b2; have hBo2 := hBo1.below b2; have hBw2 := hBw1.below b2; have hBr2 := hBr1.below b2; have hBv2 := hBv1.below b2; clear m0 m1 m2 m3 m4 m5 mf ml o0 o1))
 refine wpn1 fun W3 bW2 hBl3 hs3 => ?_
 have B8 := below2 B7 bW2
 have hBm3 := hBm2.below bW2
 have hBo3 := hBo2.below bW2
 have hBw3 := hBw2.below bW2
 have hBr3 := hBr2.below bW2
 have hBv3 := hBv2.below bW2
 have hz3 : w.heap.size + 1 + 1 + 1 + 1 + 1 ≤ w2.heap.size := by omega
 clear hBm1 hBo1 hBw1 hBr1 hBv1 hBm2 hBo2 hBw2 hBr2 hBv2 hBm hBw hBr hBv hBo
 obtain ⟨m0, m1, m2, m3, m4, m5⟩ := hBm3.e6; have mf := hBm3.frozen; have ml := hBm3.lt; obtain ⟨o0, o1⟩ := hBo3.e2; have k0 := hBw3.c0; obtain ⟨l0, l1⟩ := hBl3.e2; have lf := hBl3.frozen; have ll := hBl3.lt
 go_wp2_with (first
  | (refine list_store_blk rfl 40 _ _ rfl (w.heap.size + 1 + 1 + 1) _ _ 40 hBr3 rfl rfl (by kernel_rfl) rfl (by simp [Value.oneCell']) w.heap.size w B8 (by omega) ?_; intro w20 hR20 hoth20 hsz20 bw20)
  | (refine list_store_blk rfl 54 _ _ rfl (w.heap.size + 1 + 1 + 1 + 1) _ _ 54 (hoth20 _ _ _ (by omega) hBv3) rfl rfl (by kernel_rfl) rfl (by simp [Value.oneCell']) w.heap.size w bw20 (by omega) ?_; intro w21 hV21 hoth21 hsz21 bw21))
 have hR21 := hoth21 _ _ _ (by omega) hR20
 obtain ⟨e90, e91, e92, e93, e94, e95⟩ := hR21.e6; obtain ⟨f90, f91, f92, f93, f94, f95, f96, f97, f98, f99, f910, f911, f912⟩ := hV21.e13
 exact bodyPost_ret (v := .tuple #[.agg #[.int .i64 x0, .int .i64 x1, .slice a1 n1 c1, .slice a2 n2 c2, .slice a3 n3 c3, .slice a4 n4 c4], .agg #[.int .i64 0, .bool false, .int .u64 0, .int .u64 0, .int .i64 0, .bool false, .int .i64 0, .int .i64 0, .int .i64 0, .int .i64 0, .int .i64 0, .slice none 0 0, .slice none 0 0]]) (by simp [results, Tryz.results14, go_sem, e90, e91, e92, e93, e94, e95, f90, f91, f92, f93, f94, f95, f96, f97, f98, f99, f910, f911, f912]) rfl ⟨m, zeroVm, (by rw [HMM.out]; rfl), (Firm.old HM.out), (Firm.old fun W _ => zeroVm_at W), rfl, rfl, bw21⟩
/-- what mem.Do wants of a memory -/
def DoOk (m : Mm) : Prop := m.locks.2.length = m.parts.2.length + 2 ∧ m.locks.2.length ≤ 1000 ∧ (∀ k ∈ m.locks.2, k.l.length ≤ 1000 ∧ k.l.Pairwise (· < ·)) ∧ (∀ s ∈ m.parts.2, s.l.length ≤ 100000) ∧ m.bans.2.length ≤ 1000 ∧ m.book.2.length ≤ 1000
theorem memDo_any (w0 : World → Prop) (hg : Grows w0) (B : Nat) (m : Mm) (o : Oq) (who : Int) (w : World) (hb0 : w0 w) (hB : B ≤ w.heap.size) (hm : ∀ W, w0 W → MmAt W m) (ho : OqAt w o) (hwho : 0 ≤ who ∧ who ≤ 100) (hd : DoOk m) (hob : o.bans.2.length ≤ 1000) (hok : o.book.2.length ≤ 1000) :
  DoC 14 w0 B m o who w := by
 unfold DoC
 obtain ⟨hll, hlen, hlk, hpt, hbn, hbk⟩ := hd
 have hsq : ∀ k ∈ m.pl.locks, k.2.Pairwise (· < ·) := fun k hk => by
  unfold Mm.pl at hk
  obtain ⟨q, hq, rfl⟩ := List.mem_map.1 hk
  exact (hlk q hq).2
 have hql : (lkOf m o.lock).l.length ≤ 1000 := by
  rcases getAt_mem (l := m.locks.2) (k := o.lock) (d := zeroLk) with e | e
  ·exact (hlk _ e).1
  ·unfold lkOf; rw [e]; exact Nat.zero_le _
 have hN : (shOf m o.ls).l.length ≤ 100000 := by
  rcases getAt_mem (l := m.parts.2) (k := o.ls) (d := ⟨0, .slice none 0 0, []⟩) with e | e
  ·exact hpt _ e
  ·unfold shOf; rw [e]; exact Nat.zero_le _
 cases hmay : mayP m.pl o with
 | false => exact memDo_no w0 hg B m o who w hb0 hB hm ho hmay
 | true =>
  by_cases h1 : o.kind = 1
  ·exact memDo_1 w0 hg B m o who w hb0 hB hm ho hwho hmay h1 hll hlen
  by_cases h2 : o.kind = 2
  ·exact memDo_2 w0 hg B m o who w hb0 hB hm ho hwho hmay h2 hll hlen hsq hql
  by_cases h3 : o.kind = 3
  ·by_cases hb : (lkOf m o.lock).b = who + 1
   ·exact memDo_3y w0 hg B m o who w hb0 hB hm ho hwho hmay h3 hll hlen hb
   ·exact memDo_3n w0 hg B m o who w hb0 hB hm ho hwho hmay h3 hll hlen hb
  by_cases h4 : o.kind = 4
  ·exact memDo_4 w0 hg B m o who w hb0 hB hm ho hwho hmay h4 hll hlen hql
  by_cases h5 : o.kind = 5
  ·exact memDo_5 w0 hg B m o who w hb0 hB hm ho hmay h5 hbn hbk
  by_cases h6 : o.kind = 6
  ·exact memDo_6 w0 hg B m o who w hb0 hB hm ho hmay h6 (by omega) hN hob hok
  by_cases h7 : o.kind = 7
  ·exact memDo_7 w0 hg B m o who w hb0 hB hm ho hmay h7
  ·exact memDo_8 w0 hg B m o who w hb0 hB hm ho hmay (by omega)
end Go.Proofs.YtnplgagaoeckoaaGreat
namespace Go.Proofs.YtnplgagaoeckoaaGreat
open Go.RowKit Go.Lib
def holdP (who : Int) (k : Int × List Int) : Bool := decide (k.1 = who + 1) || decide (who ∈ k.2)
def heldL (ks : List Lk) (who : Int) (n : Nat) : List Int := ((List.range n).filter fun i => holdP who (((ks[i]?).map fun k => (k.b, k.l)).getD (0, []))).map fun i : Nat => (i : Int)
theorem heldL_snoc (ks : List Lk) (who : Int) (n : Nat) (x : Lk) (hx : ks[n]? = some x) : heldL ks who (n + 1) = heldL ks who n ++ if holdP who (x.b, x.l) then [(n : Int)] else [] := by
 unfold heldL
 rw [List.range_succ, List.filter_append, List.map_append]
 congr 1
 simp only [List.filter_cons, List.filter_nil, hx, Option.map_some, Option.getD_some]
 split <;> rfl
theorem heldL_len (ks : List Lk) (who : Int) (n : Nat) : (heldL ks who n).length ≤ n := by
 unfold heldL
 rw [List.length_map]
 exact Nat.le_trans (List.length_filter_le _ _) (by simp)
theorem heldL_pl (m : Mm) (who : Int) : heldL m.locks.2 who m.locks.2.length = (heldP m.pl who).map fun i : Nat => (i : Int) := by
 unfold heldL heldP holdP
 have h1 : m.pl.locks = m.locks.2.map (fun k => (k.b, k.l)) := rfl
 rw [h1, List.length_map]
 simp only [List.getD_eq_getElem?_getD, List.getElem?_map]
theorem in_snoc (l : List Int) (x : Int) : (l ++ [x]).flatMap inV = l.flatMap inV ++ inV x := by rw [List.flatMap_append]; simp
set_option maxHeartbeats 8000000 in
theorem memHeld_any (m : Mm) (who : Int) (w : World) (h : MmAt w m) (hwho : 0 ≤ who ∧ who ≤ 100) (hl : m.locks.2.length ≤ 1000) :
  Calls Tryz.prog 18 #[.agg #[.int .i64 m.inn, .int .i64 m.out, m.bans.1, m.book.1, m.parts.1, m.locks.1], .int .i64 who] w fun e w' => ∃ a c, e = .returned (.slice a (heldP m.pl who).length c) ∧ ReadsL inV 1 w' (.slice a (heldP m.pl who).length c) ((heldP m.pl who).map fun i : Nat => (i : Int)) ∧ Below w.heap.size w w' := by
 have hpl := heldL_pl m who
 have hpn : (heldP m.pl who).length = (heldL m.locks.2 who m.locks.2.length).length := by rw [hpl, List.length_map]
 rw [← hpl, hpn]
 clear hpl hpn
 have HLK := zh h.2.2.2.2
 obtain ⟨a1, a2, a3, a4, c1, c2, c3, c4, e1, e2, e3, e4⟩ := mm_slices h
 obtain ⟨hm, p, c, e6, h3⟩ := lks_open h.2.2.2.1
 rw [e1, e2, e3, e6]
 rw [e4] at e6
 clear e1 e2 e3 e4 e6 h
 generalize m.inn = x0; generalize m.out = x1; generalize m.bans.2.length = n1; generalize m.book.2.length = n2; generalize m.parts.2.length = n3
 generalize m.locks.2 = L at *
 have hwr : IntKind.i64.wrap (who + 1) = who + 1 := by rw [IntKind.wrap_i64]; omega
 go_enter Tryz.func18, Tryz.ntmps18
 go_wp2_with fail
 go_name_world W2 hW2
 have HB2 : Hid (Below w.heap.size w W2) := by show Below _ _ _; subst hW2; exact bel
 clear hW2
 go_loopw [5, 11] (fun v' i' wr => ∃ k : Nat, k ≤ L.length ∧ i' = .int .i64 k ∧ Hid (wr.ownsRow w.heap.size 3 1 v' (heldL L who k).length ((heldL L who k).flatMap inV)) ∧ Hid (Below w.heap.size w wr)) (fun _ i' _ => L.length - (intOf i').toNat)
 case atStart => exact ⟨0, by omega, rfl, ⟨rfl, Or.inl ⟨rfl, rfl⟩⟩, HB2.out⟩
 case round =>
  obtain ⟨k, hk, rfl, HO, HB⟩ := hrel
  by_cases hlt : k < L.length
  ·obtain ⟨x, hx⟩ : ∃ x, L[k]? = some x := ⟨_, List.getElem?_eq_getElem hlt⟩
   obtain ⟨b, o, rfl, h4, h5, h6⟩ := h3 (by omega)
   obtain ⟨k0, k1⟩ := h6 k x hx
   have k0 := keep HB.out h5 k0; have k1 := keep HB.out h5 k1
   have q1 : (0 : Int) ≤ (k : Int) := by omega
   have q2 : (k : Int) < (L.length : Int) := by omega
   have hxl := HLK.out x (List.mem_of_getElem? hx)
   have HCN := zh (fun (W : World) (hb : Below w.heap.size w W) => intContains_any x.v x.l who W (ReadsL.below hxl hb))
   obtain ⟨_, xa, xc, ex, _⟩ := ins_open hxl
   have hS := heldL_snoc L who k x hx
   have hcl := heldL_len L who k
   rw [ex] at k1 HCN
   generalize hxn : x.l.length = xn at k1 HCN
   generalize hxb : x.b = xb at k0
   have HXB := zh hxb
   clear hx h6 hxl ex hxn hxb
   have b5 : Below wr.heap.size wr (wr.alloc (.cells #[.int .i64 xb, .slice xa xn xc] 90)) := (Below.refl _ _).alloc (Nat.le_refl _) _
   have HB5 := zh (HB.out.trans (b5.mono HB.out.size))
   have HO5 := zh (owns_below HO.out b5)
   have HS := zh hS
   clear hS b5
   by_cases hc : xb = who + 1
   ·have HS2 : Hid (heldL L who (k + 1) = heldL L who k ++ [(k : Int)]) := by show _ = _; rw [HS.out]; unfold holdP; rw [HXB.out, decide_eq_true hc]; rfl
    have f1 : (xb == who + 1) = true := by simpa using hc
    clear hc
    go_upto_region 6 with fail
    go_name_world w6 hw6
    have HB6 := HB5
    have HO6 := HO5
    rw [hw6] at HB6 HO6
    clear hw6
    go_wp2_with (at_builtin; refine list_app_reads_g inRow rfl _ _ rfl w.heap.size _ (heldL L who k).length _ rfl (HO6.out.alloc _) _ 1 (inV (k : Int)) rfl (reads_one (us := inV (k : Int)) rfl (Nat.succ_pos 0)) (inV_one1 _) (by omega) (by omega) (by have := HB6.out.size; simp; omega) ?_; intro v' w7 hO7 hg7)
    go_roundw
    case rel => exact ⟨k + 1, by omega, by go_num, (by rw [HS2.out, List.length_append, in_snoc]; exact hO7), below_grown (HO6.out.alloc _) ((HB6.out).alloc (HB6.out.size) _) (Nat.le_refl _) (by have := HB6.out.size; simp; omega) hg7⟩
    case measure => simp [intOf]; omega
   ·have f1 : (xb == who + 1) = false := by simpa using hc
    by_cases hi : who ∈ x.l
    ·have HS2 : Hid (heldL L who (k + 1) = heldL L who k ++ [(k : Int)]) := by show _ = _; rw [HS.out]; unfold holdP; rw [decide_eq_true hi, Bool.or_true]; rfl
     rw [decide_eq_true hi] at HCN
     clear hc hi
     go_upto_region 6 with (go_at_call 55; (with_reducible refine (HCN.out _ (by first | exact HB5.out | exact bel)).mono ?_); rintro e w6 ⟨rfl, b6⟩)
     have HB6 := zh (below2 HB5.out b6)
     have HO6 := zh (owns_below HO5.out b6)
     clear b6
     go_wp2_with (at_builtin; refine list_app_reads_g inRow rfl _ _ rfl w.heap.size _ (heldL L who k).length _ rfl (HO6.out.alloc _) _ 1 (inV (k : Int)) rfl (reads_one (us := inV (k : Int)) rfl (Nat.succ_pos 0)) (inV_one1 _) (by omega) (by omega) (by have := HB6.out.size; simp; omega) ?_; intro v' w7 hO7 hg7)
     go_roundw
     case rel => exact ⟨k + 1, by omega, by go_num, (by rw [HS2.out, List.length_append, in_snoc]; exact hO7), below_grown (HO6.out.alloc _) ((HB6.out).alloc (HB6.out.size) _) (Nat.le_refl _) (by have := HB6.out.size; simp; omega) hg7⟩
     case measure => simp [intOf]; omega
    ·have HS2 : Hid (heldL L who (k + 1) = heldL L who k) := by show _ = _; rw [HS.out]; unfold holdP; rw [decide_eq_false hi, HXB.out, decide_eq_false hc]; simp
     rw [decide_eq_false hi] at HCN
     clear hc hi
     go_wp2_with (go_at_call 55; (with_reducible refine (HCN.out _ (by first | exact HB5.out | exact bel)).mono ?_); rintro e w6 ⟨rfl, b6⟩)
     go_roundw
     case rel => exact ⟨k + 1, by omega, by go_num, (by rw [HS2.out]; exact owns_below HO5.out b6), below2 HB5.out b6⟩
     case measure => simp [intOf]; omega
  ·obtain rfl : k = L.length := by omega
   obtain ⟨a9, c9, e9⟩ := owns_slice HO.out
   subst e9
   have HR : Hid (ReadsL inV 1 wr (.slice a9 (heldL L who L.length).length c9) (heldL L who L.length)) := owns_readsL HO.out
   go_wp2_with fail
   go_ret
   exact ⟨_, _, rfl, HR.out, HB.out⟩
def woutL (l : List Int) (n : Int) : List Int := l.filter fun x => !decide (x = n)
theorem wout_snoc (l : List Int) (n x : Int) : woutL (l ++ [x]) n = woutL l n ++ if x = n then [] else [x] := by
 unfold woutL
 rw [List.filter_append]
 by_cases h : x = n <;> simp [h]
theorem wout_len (l : List Int) (n : Int) : (woutL l n).length ≤ l.length := List.length_filter_le _ _
set_option maxHeartbeats 8000000 in
theorem refWithout_any (v : Value) (l : List Int) (n : Int) (w : World) (h : ReadsL inV 1 w v l) (hl : l.length ≤ 1000000) :
  Calls Tryz.prog 52 #[v, .int .i64 n] w fun e w' => ∃ a c, e = .returned (.slice a (woutL l n).length c) ∧ w'.ownsRow w.heap.size 3 1 (.slice a (woutL l n).length c) (woutL l n).length ((woutL l n).flatMap inV) ∧ Below w.heap.size w w' := by
 obtain ⟨hm, p, c, rfl, h3⟩ := ins_open h
 clear h
 go_enter Tryz.func52, Tryz.ntmps52
 go_wp2_with fail
 go_name_world W2 hW2
 have HB2 : Hid (Below w.heap.size w W2) := by show Below _ _ _; subst hW2; exact bel
 have HO2 : Hid (W2.ownsRow w.heap.size 3 1 (.slice (some ⟨w.heap.size, 0, none⟩) 0 0) 0 []) := by show World.ownsRow _ _ _ _ _ _ _; subst hW2; exact own_made rfl (Nat.le_refl _)
 clear hW2
 go_loopw [5, 6] (fun v' i' wr => ∃ k : Nat, k ≤ l.length ∧ i' = .int .i64 k ∧ Hid (wr.ownsRow w.heap.size 3 1 v' (woutL (l.take k) n).length ((woutL (l.take k) n).flatMap inV)) ∧ Hid (Below w.heap.size w wr)) (fun _ i' _ => l.length - (intOf i').toNat)
 case atStart => exact ⟨0, by omega, rfl, HO2.out, HB2.out⟩
 case round =>
  obtain ⟨k, hk, rfl, HO, HB⟩ := hrel
  by_cases hlt : k < l.length
  ·obtain ⟨x, hx⟩ : ∃ x, l[k]? = some x := ⟨_, List.getElem?_eq_getElem hlt⟩
   obtain ⟨b, o, rfl, h4, h5, h6⟩ := h3 (by omega)
   have k0 := keep HB.out h5 (h6 k x hx)
   have q1 : (0 : Int) ≤ (k : Int) := by omega
   have q2 : (k : Int) < (l.length : Int) := by omega
   have hS := wout_snoc (l.take k) n x
   rw [← show l.take (k + 1) = l.take k ++ [x] by rw [List.take_add_one, hx, Option.toList_some]] at hS
   have hcl : (woutL (l.take k) n).length ≤ k := Nat.le_trans (wout_len _ _) (by rw [List.length_take]; omega)
   have HS := zh hS
   clear hx h6 hS
   by_cases hc : x = n
   ·have HS2 : Hid (woutL (l.take (k + 1)) n = woutL (l.take k) n) := by show _ = _; rw [HS.out, if_pos hc, List.append_nil]
    have f1 : (x == n) = true := by simpa using hc
    clear hc
    go_wp2_with fail
    go_roundw
    case rel => exact ⟨k + 1, by omega, by go_num, (by rw [HS2.out]; exact HO.out), HB.out⟩
    case measure => simp [intOf]; omega
   ·have HS2 : Hid (woutL (l.take (k + 1)) n = woutL (l.take k) n ++ [x]) := by show _ = _; rw [HS.out, if_neg hc]
    have f1 : (x == n) = false := by simpa using hc
    clear hc
    go_wp2_with (at_builtin; refine list_app_reads_g inRow rfl _ _ rfl w.heap.size _ (woutL (l.take k) n).length _ rfl (HO.out.alloc _) _ 1 (inV x) rfl (reads_one (us := inV x) rfl (Nat.succ_pos 0)) (inV_one1 _) (by omega) (by omega) (by have := HB.out.size; simp; omega) ?_; intro v' w7 hO7 hg7)
    go_roundw
    case rel => exact ⟨k + 1, by omega, by go_num, (by rw [HS2.out, List.length_append, in_snoc]; exact hO7), below_grown (HO.out.alloc _) ((HB.out).alloc (HB.out.size) _) (Nat.le_refl _) (by have := HB.out.size; simp; omega) hg7⟩
    case measure => simp [intOf]; omega
  ·obtain rfl : k = l.length := by omega
   rw [List.take_length] at HO
   obtain ⟨a9, c9, e9⟩ := owns_slice HO.out
   subst e9
   go_wp2_with fail
   go_ret
   exact ⟨_, _, rfl, HO.out, HB.out⟩
def anyR (l : List Int) (n : Int) : Bool := l.any fun x => decide (n ≤ x)
def riseK (l : List Int) (n : Int) : List Int := (l.filter fun x => decide (x < n)) ++ if anyR l n then n :: l.filter (fun x => decide (n < x)) else []
theorem anyR_no {l : List Int} {n x : Int} (hs : ∀ y ∈ l, y < x) (h : x ≤ n) : anyR l n = false := by
 unfold anyR
 rw [List.any_eq_false]
 intro y hy
 have := hs y hy
 simp; omega
theorem anyR_fil {l : List Int} {n : Int} (h : anyR l n = false) : l.filter (fun x => decide (n < x)) = [] := by
 unfold anyR at h
 rw [List.any_eq_false] at h
 rw [List.filter_eq_nil_iff]
 intro y hy
 have := h y hy
 simp at this ⊢; omega
theorem riseK_lt {l : List Int} {n x : Int} (hs : ∀ y ∈ l, y < x) (h : x < n) : anyR (l ++ [x]) n = false ∧ riseK (l ++ [x]) n = riseK l n ++ [x] := by
 have h1 := anyR_no hs (Int.le_of_lt h)
 have h2 : anyR (l ++ [x]) n = false := by unfold anyR at *; rw [List.any_append, h1]; simp; omega
 refine ⟨h2, ?_⟩
 unfold riseK
 rw [h1, h2, List.filter_append]
 simp [h]
theorem riseK_eq {l : List Int} {n : Int} (hs : ∀ y ∈ l, y < n) : anyR l n = false ∧ anyR (l ++ [n]) n = true ∧ riseK (l ++ [n]) n = riseK l n ++ [n] := by
 have h1 := anyR_no hs (Int.le_refl n)
 have h2 : anyR (l ++ [n]) n = true := by unfold anyR; rw [List.any_append]; simp
 refine ⟨h1, h2, ?_⟩
 unfold riseK
 rw [h1, h2, List.filter_append, List.filter_append, anyR_fil h1]
 simp
theorem riseK_gt0 {l : List Int} {n x : Int} (h : n < x) (ha : anyR l n = false) : anyR (l ++ [x]) n = true ∧ riseK (l ++ [x]) n = (riseK l n ++ [n]) ++ [x] := by
 have h2 : anyR (l ++ [x]) n = true := by unfold anyR; rw [List.any_append]; simp; right; omega
 refine ⟨h2, ?_⟩
 unfold riseK
 rw [ha, h2, List.filter_append, List.filter_append, anyR_fil ha]
 have : ¬ x < n := by omega
 simp [h, this]
theorem riseK_gt1 {l : List Int} {n x : Int} (h : n < x) (ha : anyR l n = true) : anyR (l ++ [x]) n = true ∧ riseK (l ++ [x]) n = riseK l n ++ [x] := by
 have h2 : anyR (l ++ [x]) n = true := by unfold anyR at *; rw [List.any_append, ha]; rfl
 refine ⟨h2, ?_⟩
 unfold riseK
 rw [ha, h2, List.filter_append, List.filter_append]
 have : ¬ x < n := by omega
 simp [h, this]
theorem riseK_len (l : List Int) (n : Int) : (riseK l n).length ≤ l.length + 1 := by
 have := riseP_len l n
 unfold riseP at this
 unfold riseK
 split
 ·exact this
 ·rw [List.append_nil]; have := List.length_filter_le (fun x => decide (x < n)) l; omega
theorem riseK_end (l : List Int) (n : Int) : riseP l n = if anyR l n then riseK l n else riseK l n ++ [n] := by
 unfold riseP riseK
 cases h : anyR l n with
 | true => rfl
 | false => rw [anyR_fil h]; simp
set_option maxHeartbeats 8000000 in
theorem refRising_any (v : Value) (l : List Int) (n : Int) (w : World) (h : ReadsL inV 1 w v l) (hs : l.Pairwise (· < ·)) (hl : l.length ≤ 1000000) :
  Calls Tryz.prog 51 #[v, .int .i64 n] w fun e w' => ∃ a c, e = .returned (.slice a (riseP l n).length c) ∧ w'.ownsRow w.heap.size 3 1 (.slice a (riseP l n).length c) (riseP l n).length ((riseP l n).flatMap inV) ∧ Below w.heap.size w w' := by
 obtain ⟨hm, p, c, rfl, h3⟩ := ins_open h
 have HSO := zh hs
 clear h hs
 go_enter Tryz.func51, Tryz.ntmps51
 go_wp2_with fail
 go_name_world W2 hW2
 have HB2 : Hid (Below w.heap.size w W2) := by show Below _ _ _; subst hW2; exact bel
 have HO2 : Hid (W2.ownsRow w.heap.size 3 1 (.slice (some ⟨w.heap.size, 0, none⟩) 0 0) 0 []) := by show World.ownsRow _ _ _ _ _ _ _; subst hW2; exact own_made rfl (Nat.le_refl _)
 clear hW2
 go_loopw [5, 6, 7] (fun v' d' i' wr => ∃ k : Nat, k ≤ l.length ∧ i' = .int .i64 k ∧ d' = .bool (anyR (l.take k) n) ∧ Hid (wr.ownsRow w.heap.size 3 1 v' (riseK (l.take k) n).length ((riseK (l.take k) n).flatMap inV)) ∧ Hid (Below w.heap.size w wr)) (fun _ _ i' _ => l.length - (intOf i').toNat)
 case atStart => exact ⟨0, by omega, rfl, rfl, HO2.out, HB2.out⟩
 case round =>
  obtain ⟨k, hk, rfl, rfl, HO, HB⟩ := hrel
  by_cases hlt : k < l.length
  ·obtain ⟨x, hx⟩ : ∃ x, l[k]? = some x := ⟨_, List.getElem?_eq_getElem hlt⟩
   obtain ⟨b, o, rfl, h4, h5, h6⟩ := h3 (by omega)
   have k0 := keep HB.out h5 (h6 k x hx)
   have q1 : (0 : Int) ≤ (k : Int) := by omega
   have q2 : (k : Int) < (l.length : Int) := by omega
   have hT : l.take (k + 1) = l.take k ++ [x] := by rw [List.take_add_one, hx, Option.toList_some]
   have hlt2 : ∀ y ∈ l.take k, y < x := fun y hy => by
    have := HSO.out
    rw [← List.take_append_drop (k + 1) l, hT, List.append_assoc, List.pairwise_append] at this
    exact this.2.2 y hy x (by simp)
   have hcl : (riseK (l.take k) n).length ≤ k + 1 := Nat.le_trans (riseK_len _ _) (by rw [List.length_take]; omega)
   obtain ⟨P, hP⟩ : ∃ P, P = l.take k := ⟨_, rfl⟩
   rw [← hP] at hT hlt2 hcl HO ⊢
   have HT := zh hT
   clear hx h6 hT hP
   rcases Int.lt_trichotomy x n with hc | hc | hc
   ·have hz := riseK_lt hlt2 hc
    have ha := anyR_no hlt2 (Int.le_of_lt hc)
    rw [ha]
    have f1 : decide (n ≤ x) = false := decide_eq_false (by omega)
    have f2 : (x == n) = false := by simp; omega
    obtain ⟨HA, HZ⟩ := zh2 ha hz
    clear ha hz hlt2 hc
    go_wp2_with (at_builtin; refine list_app_reads_g inRow rfl _ _ rfl w.heap.size _ (riseK P n).length _ rfl (HO.out.alloc _) _ 1 (inV x) rfl (reads_one (us := inV x) rfl (Nat.succ_pos 0)) (inV_one1 _) (by omega) (by omega) (by have := HB.out.size; simp; omega) ?_; intro v' w7 hO7 hg7)
    go_roundw
    case rel => exact ⟨k + 1, by omega, by go_num, by rw [HT.out, HZ.out.1], (by rw [HT.out, HZ.out.2, List.length_append, in_snoc]; exact hO7), below_grown (HO.out.alloc _) ((HB.out).alloc (HB.out.size) _) (Nat.le_refl _) (by have := HB.out.size; simp; omega) hg7⟩
    case measure => simp [intOf]; omega
   ·subst hc
    have hz := riseK_eq hlt2
    rw [hz.1]
    have f1 : decide (x ≤ x) = true := decide_eq_true (Int.le_refl _)
    have f2 : (x == x) = true := by simp
    have HZ := zh hz.2
    clear hz hlt2
    go_upto_region 9 with (at_builtin; refine list_app_reads_g inRow rfl _ _ rfl w.heap.size _ (riseK P x).length _ rfl (HO.out.alloc _) _ 1 (inV x) rfl (reads_one (us := inV x) rfl (Nat.succ_pos 0)) (inV_one1 _) (by omega) (by omega) (by have := HB.out.size; simp; omega) ?_; intro v' w7 hO7 hg7)
    have HB7 := zh (below_grown (HO.out.alloc _) ((HB.out).alloc (HB.out.size) _) (Nat.le_refl _) (by have := HB.out.size; simp; omega) hg7)
    have HO7 := zh hO7
    have k1 := keep HB7.out h5 ((HB.out.cell (p := ⟨b, o + k, none⟩) h5).symm.trans k0)
    clear k0 hO7 hg7
    go_wp2_with fail
    go_roundw
    case rel => exact ⟨k + 1, by omega, by go_num, by rw [HT.out, HZ.out.1], (by rw [HT.out, HZ.out.2, List.length_append, in_snoc]; exact HO7.out), HB7.out⟩
    case measure => simp [intOf]; omega
   ·have f1 : decide (n ≤ x) = true := decide_eq_true (by omega)
    have f2 : (x == n) = false := by simp; omega
    cases ha : anyR P n with
    | true =>
     have HZ := zh (riseK_gt1 hc ha)
     clear ha hlt2
     go_wp2_with (at_builtin; refine list_app_reads_g inRow rfl _ _ rfl w.heap.size _ (riseK P n).length _ rfl (HO.out.alloc _) _ 1 (inV x) rfl (reads_one (us := inV x) rfl (Nat.succ_pos 0)) (inV_one1 _) (by omega) (by omega) (by have := HB.out.size; simp; omega) ?_; intro v' w7 hO7 hg7)
     go_roundw
     case rel => exact ⟨k + 1, by omega, by go_num, by rw [HT.out, HZ.out.1], (by rw [HT.out, HZ.out.2, List.length_append, in_snoc]; exact hO7), below_grown (HO.out.alloc _) ((HB.out).alloc (HB.out.size) _) (Nat.le_refl _) (by have := HB.out.size; simp; omega) hg7⟩
     case measure => simp [intOf]; omega
    | false =>
     have HZ := zh (riseK_gt0 hc ha)
     clear ha hlt2
     go_upto_region 9 with (at_builtin; refine list_app_reads_g inRow rfl _ _ rfl w.heap.size _ (riseK P n).length _ rfl (HO.out.alloc _) _ 1 (inV n) rfl (reads_one (us := inV n) rfl (Nat.succ_pos 0)) (inV_one1 _) (by omega) (by omega) (by have := HB.out.size; simp; omega) ?_; intro v' w7 hO7 hg7)
     have HB7 := zh (below_grown (HO.out.alloc _) ((HB.out).alloc (HB.out.size) _) (Nat.le_refl _) (by have := HB.out.size; simp; omega) hg7)
     have HO7 : Hid (w7.ownsRow w.heap.size 3 1 v' (riseK P n ++ [n]).length ((riseK P n ++ [n]).flatMap inV)) := by show World.ownsRow _ _ _ _ _ _ _; rw [List.length_append, in_snoc]; exact hO7
     have hcl2 : (riseK P n ++ [n]).length ≤ k + 2 := by rw [List.length_append]; simp; omega
     have k1 := keep HB7.out h5 ((HB.out.cell (p := ⟨b, o + k, none⟩) h5).symm.trans k0)
     clear k0 hO7 hg7
     go_wp2_with (at_builtin; refine list_app_reads_g inRow rfl _ _ rfl w.heap.size _ (riseK P n ++ [n]).length _ rfl (HO7.out.alloc _) _ 1 (inV x) rfl (reads_one (us := inV x) rfl (Nat.succ_pos 0)) (inV_one1 _) (by omega) (by omega) (by have := HB7.out.size; simp; omega) ?_; intro v9 w9 hO9 hg9)
     go_roundw
     case rel => exact ⟨k + 1, by omega, by go_num, by rw [HT.out, HZ.out.1], (by rw [HT.out, HZ.out.2, List.length_append, in_snoc]; exact hO9), below_grown (HO7.out.alloc _) ((HB7.out).alloc (HB7.out.size) _) (Nat.le_refl _) (by have := HB7.out.size; simp; omega) hg9⟩
     case measure => simp [intOf]; omega
  ·obtain rfl : k = l.length := by omega
   rw [List.take_length] at HO
   rw [List.take_length]
   have hE := riseK_end l n
   have hcl : (riseK l n).length ≤ l.length + 1 := riseK_len l n
   cases ha : anyR l n with
   | true =>
    rw [ha, if_pos rfl] at hE
    have HE := zh hE
    obtain ⟨a9, c9, e9⟩ := owns_slice HO.out
    subst e9
    clear hE ha
    go_wp2_with fail
    go_ret
    exact ⟨a9, c9, by rw [HE.out]; rfl, by rw [HE.out]; exact HO.out, HB.out⟩
   | false =>
    rw [ha, if_neg (by decide)] at hE
    have HE := zh hE
    clear hE ha
    go_wp2_with (at_builtin; refine list_app_reads_g inRow rfl _ _ rfl w.heap.size _ (riseK l n).length _ rfl (HO.out.alloc _) _ 1 (inV n) rfl (reads_one (us := inV n) rfl (Nat.succ_pos 0)) (inV_one1 _) (by omega) (by omega) (by have := HB.out.size; simp; omega) ?_; intro v9 w9 hO9 hg9)
    have hO9' : w9.ownsRow w.heap.size 3 1 v9 (riseP l n).length ((riseP l n).flatMap inV) := by rw [HE.out, List.length_append, in_snoc]; exact hO9
    have HB9 := below_grown (HO.out.alloc _) ((HB.out).alloc (HB.out.size) _) (Nat.le_refl _) (by have := HB.out.size; simp; omega) hg9
    obtain ⟨a9, c9, e9⟩ := owns_slice hO9'
    subst e9
    go_ret
    exact ⟨a9, c9, rfl, hO9', HB9⟩
end Go.Proofs.YtnplgagaoeckoaaGreat
namespace Go.Proofs.YtnplgagaoeckoaaGreat
open Go.RowKit

set_option maxHeartbeats 8000000 in
theorem refLock_any (m : Mm) (k : Int) (w : World) (h : MmAt w m) :
  Calls Tryz.prog 41 #[.agg #[.int .i64 m.inn, .int .i64 m.out, m.bans.1, m.book.1, m.parts.1, m.locks.1], .int .i64 k] w fun e w' => e = .returned (.agg #[.int .i64 (lkOf m k).b, (lkOf m k).v]) ∧ Below w.heap.size w w' := by
 have hL := lkOf_at h k
 obtain ⟨a1, a2, a3, a4, c1, c2, c3, c4, e1, e2, e3, e4⟩ := mm_slices h
 obtain ⟨_, a5, c5, e5, _⟩ := ins_open hL
 obtain ⟨hm, p, c, e6, h3⟩ := lks_open h.2.2.2.1
 have hkk : lkOf m k = getAt m.locks.2 k zeroLk := rfl
 rw [e1, e2, e3, e6, e5]
 rw [e4] at e6
 clear e1 e2 e3 e4 e6 hL h
 generalize m.inn = x0; generalize m.out = x1; generalize m.bans.2.length = n1; generalize m.book.2.length = n2; generalize m.parts.2.length = n3
 generalize m.locks.2 = L at *
 by_cases hk : 0 ≤ k ∧ k < (L.length : Int)
 ·obtain ⟨j, rfl⟩ : ∃ j : Nat, k = (j : Int) := ⟨k.toNat, by omega⟩
  obtain ⟨x, hx⟩ : ∃ x, L[j]? = some x := ⟨_, List.getElem?_eq_getElem (by omega)⟩
  have hkx : lkOf m (j : Int) = x := by rw [hkk]; unfold getAt; rw [if_pos hk.1, Int.toNat_natCast, List.getD_eq_getElem?_getD, hx]; rfl
  rw [hkx] at e5 ⊢
  obtain ⟨b, o, rfl, h4, h5, h6⟩ := h3 (by omega)
  obtain ⟨k0, k1⟩ := h6 j x hx
  rw [e5] at k1
  have q1 : ¬ (j : Int) < 0 := by omega
  have q2 : ¬ (L.length : Int) ≤ (j : Int) := by omega
  have q3 : (j : Int) < (L.length : Int) := by omega
  have q4 : (0 : Int) ≤ (j : Int) := by omega
  generalize x.l.length = nx at *
  generalize x.b = xb at *
  clear e5 hkx hkk hx h3 h6
  go_enter Tryz.func41, Tryz.ntmps41
  go_wp2_with fail
  refine bodyPost_named fun W9 h9 => ?_
  have e90 : W9.cell? ⟨w.heap.size + 1, 0, none⟩ = some (.int .i64 xb) := by subst h9; (first | (simp [go_sem, *]; done) | (simp (disch := first | omega | (simp; omega) | (simp [go_sem, *]; done)) [go_sem, World.cell?_setCell_far, World.cell?_alloc_past, *]; done))
  have e91 : W9.cell? ⟨w.heap.size + 1, 1, none⟩ = some (.slice a5 nx c5) := by subst h9; (first | (simp [go_sem, *]; done) | (simp (disch := first | omega | (simp; omega) | (simp [go_sem, *]; done)) [go_sem, World.cell?_setCell_far, World.cell?_alloc_past, *]; done))
  have b9 : Below w.heap.size w W9 := by subst h9; exact bel
  clear h9
  refine bodyPost_ret (v := .agg #[.int .i64 xb, .slice a5 nx c5]) (by simp [results, Tryz.results41, go_sem, e90, e91]) rfl ⟨?_, b9⟩
  rfl
 ·have hkx : lkOf m k = zeroLk := by
   rw [hkk]; unfold getAt
   split
   ·rw [List.getD_eq_getElem?_getD, List.getElem?_eq_none (by omega)]; rfl
   ·rfl
  rw [hkx] at e5 ⊢
  unfold zeroLk at e5 ⊢
  simp only at e5 ⊢
  injection e5 with e5 e7 e8
  subst e5 e8
  clear e7
  simp only [List.length_nil]
  clear hkx hkk h3
  rcases Int.lt_or_le k 0 with q | q
  ·go_enter Tryz.func41, Tryz.ntmps41
   go_wp2_with fail
   refine bodyPost_named fun W9 h9 => ?_
   have e90 : W9.cell? ⟨w.heap.size + 1, 0, none⟩ = some (.int .i64 0) := by subst h9; (first | (simp [go_sem, *]; done) | (simp (disch := first | omega | (simp; omega) | (simp [go_sem, *]; done)) [go_sem, World.cell?_setCell_far, World.cell?_alloc_past, *]; done))
   have e91 : W9.cell? ⟨w.heap.size + 1, 1, none⟩ = some (.slice none 0 0) := by subst h9; (first | (simp [go_sem, *]; done) | (simp (disch := first | omega | (simp; omega) | (simp [go_sem, *]; done)) [go_sem, World.cell?_setCell_far, World.cell?_alloc_past, *]; done))
   have b9 : Below w.heap.size w W9 := by subst h9; exact bel
   clear h9
   refine bodyPost_ret (v := .agg #[.int .i64 0, .slice none 0 0]) (by simp [results, Tryz.results41, go_sem, e90, e91]) rfl ⟨?_, b9⟩
   rfl
  ·have q1 : ¬ k < 0 := by omega
   have q2 : (L.length : Int) ≤ k := by omega
   go_enter Tryz.func41, Tryz.ntmps41
   go_wp2_with fail
   refine bodyPost_named fun W9 h9 => ?_
   have e90 : W9.cell? ⟨w.heap.size + 1, 0, none⟩ = some (.int .i64 0) := by subst h9; (first | (simp [go_sem, *]; done) | (simp (disch := first | omega | (simp; omega) | (simp [go_sem, *]; done)) [go_sem, World.cell?_setCell_far, World.cell?_alloc_past, *]; done))
   have e91 : W9.cell? ⟨w.heap.size + 1, 1, none⟩ = some (.slice none 0 0) := by subst h9; (first | (simp [go_sem, *]; done) | (simp (disch := first | omega | (simp; omega) | (simp [go_sem, *]; done)) [go_sem, World.cell?_setCell_far, World.cell?_alloc_past, *]; done))
   have b9 : Below w.heap.size w W9 := by subst h9; exact bel
   clear h9
   refine bodyPost_ret (v := .agg #[.int .i64 0, .slice none 0 0]) (by simp [results, Tryz.results41, go_sem, e90, e91]) rfl ⟨?_, b9⟩
   rfl
set_option maxHeartbeats 64000000 in
theorem refMay_any (m : Mm) (o : Oq) (w : World) (h : MmAt w m) (ho : OqAt w o) :
  Calls Tryz.prog 13 #[.agg #[.int .i64 m.inn, .int .i64 m.out, m.bans.1, m.book.1, m.parts.1, m.locks.1], .agg #[.int .i64 o.kind, .int .i64 o.lock, .int .i64 o.lk, .int .i64 o.ls, .int .i64 o.lt, .int .i64 o.old, .int .i64 o.new, .int .i64 o.vn, .bool o.pe.en.ad.v6, .int .u64 o.pe.en.ad.hi, .int .u64 o.pe.en.ad.lo, .int .i64 o.pe.en.port, .bool o.pe.came, .int .i64 o.pe.since, .int .i64 o.pe.pts, .int .i64 o.pe.at_, .int .i64 o.pe.ping, .int .i64 o.pe.work, o.bans.1, o.book.1, .bool o.mark]] w fun e w' => e = .returned (.bool (mayP m.pl o)) ∧ Below w.heap.size w w' := by
 have HL := zh (fun (W : World) (hb : Below w.heap.size w W) => refLock_any m o.lock W (h.below hb))
 have hlr := lkOf_at h o.lock
 have HR := zh (fun (W : World) => refRight36_any o m.parts.2.length W)
 have hpl : m.pl.parts.length = m.parts.2.length := by unfold Mm.pl; simp
 have hlp := lkOf_pl m o.lock
 generalize lkOf m o.lock = q at *
 obtain ⟨qb, qv, ql⟩ := q
 simp only at hlr hlp HL
 obtain ⟨_, qa, qc, eq, _⟩ := ins_open hlr
 subst eq
 have hres : mayP m.pl o = (opRight o m.parts.2.length && (if o.kind = 1 then decide (qb = 0) && decide (ql = []) else if o.kind = 2 then decide (qb = 0) else true)) := by unfold mayP; rw [hpl, hlp]
 rw [hres]
 generalize opRight o m.parts.2.length = R at HR ⊢
 obtain ⟨a1, a2, a3, a4, c1, c2, c3, c4, e1, e2, e3, e4⟩ := mm_slices h
 obtain ⟨_, oa, oc, eo, _⟩ := ba_open ho.1
 obtain ⟨_, ka, kc, ek, _⟩ := ey_open ho.2
 obtain ⟨x0, x1, ⟨y1, z1⟩, ⟨y2, z2⟩, ⟨y3, z3⟩, ⟨y4, z4⟩⟩ := m
 obtain ⟨kind, lock, lk, ls, lt, old, new, vn, pe, ⟨ob, obl⟩, ⟨okv, okl⟩, mark⟩ := o
 simp only at e1 e2 e3 e4 eo ek
 subst e1 e2 e3 e4 eo ek
 clear hres hpl hlp hlr h ho
 simp only at *
 generalize z1.length = n1 at *; generalize z2.length = n2 at *; generalize z3.length = n3 at *; generalize z4.length = n4 at *; generalize obl.length = nb at *; generalize okl.length = nk at *
 have hl : ∀ b, decide (ql = []) = b → ((ql.length : Int) == 0) = b := fun b hb => by
  rw [← hb]; cases ql with
  | nil => rfl
  | cons a r => rw [decide_eq_false (by simp)]; exact beq_eq_false_iff_ne.2 (by simp; omega)
 have hb0 : ∀ b, decide (qb = 0) = b → (qb == 0) = b := fun b hb => by rw [← hb]; by_cases h : qb = 0 <;> simp [h]
 have hcase : (R = false ∧ (R && (if kind = 1 then decide (qb = 0) && decide (ql = []) else if kind = 2 then decide (qb = 0) else true)) = false) ∨
   (R = true ∧ kind = 1 ∧ (qb == 0) = true ∧ ((ql.length : Int) == 0) = true ∧ (R && (if kind = 1 then decide (qb = 0) && decide (ql = []) else if kind = 2 then decide (qb = 0) else true)) = true) ∨
   (R = true ∧ kind = 1 ∧ (qb == 0) = true ∧ ((ql.length : Int) == 0) = false ∧ (R && (if kind = 1 then decide (qb = 0) && decide (ql = []) else if kind = 2 then decide (qb = 0) else true)) = false) ∨
   (R = true ∧ kind = 1 ∧ (qb == 0) = false ∧ (R && (if kind = 1 then decide (qb = 0) && decide (ql = []) else if kind = 2 then decide (qb = 0) else true)) = false) ∨
   (R = true ∧ kind = 2 ∧ (qb == 0) = true ∧ (R && (if kind = 1 then decide (qb = 0) && decide (ql = []) else if kind = 2 then decide (qb = 0) else true)) = true) ∨
   (R = true ∧ kind = 2 ∧ (qb == 0) = false ∧ (R && (if kind = 1 then decide (qb = 0) && decide (ql = []) else if kind = 2 then decide (qb = 0) else true)) = false) ∨
   (R = true ∧ ((kind == 1) = false ∧ (kind == 2) = false ∧ (kind != 1) = true ∧ (kind != 2) = true ∧ (!decide (kind = 1)) = true ∧ (!decide (kind = 2)) = true ∧ decide (kind = 1) = false ∧ decide (kind = 2) = false) ∧ (R && (if kind = 1 then decide (qb = 0) && decide (ql = []) else if kind = 2 then decide (qb = 0) else true)) = true) := by
  cases R with
  | false => exact Or.inl ⟨rfl, rfl⟩
  | true =>
   right
   by_cases h1 : kind = 1
   ·subst h1
    cases hb : decide (qb = 0) with
    | true =>
     cases hs : decide (ql = []) with
     | true => exact Or.inl ⟨rfl, rfl, hb0 _ hb, hl _ hs, by simp⟩
     | false => exact Or.inr (Or.inl ⟨rfl, rfl, hb0 _ hb, hl _ hs, by simp⟩)
    | false => exact Or.inr (Or.inr (Or.inl ⟨rfl, rfl, hb0 _ hb, by simp⟩))
   ·by_cases h2 : kind = 2
    ·subst h2
     cases hb : decide (qb = 0) with
     | true => exact Or.inr (Or.inr (Or.inr (Or.inl ⟨rfl, rfl, hb0 _ hb, by simp⟩)))
     | false => exact Or.inr (Or.inr (Or.inr (Or.inr (Or.inl ⟨rfl, rfl, hb0 _ hb, by simp⟩))))
    ·exact Or.inr (Or.inr (Or.inr (Or.inr (Or.inr ⟨rfl, ⟨by simp [h1], by simp [h2], by simp [h1], by simp [h2], by simp [h1], by simp [h2], by simp [h1], by simp [h2]⟩, by simp [h1, h2]⟩))))
 clear hl hb0
 rcases hcase with ⟨rfl, hX⟩ | ⟨rfl, rfl, f1, f2, hX⟩ | ⟨rfl, rfl, f1, f2, hX⟩ | ⟨rfl, rfl, f1, hX⟩ | ⟨rfl, rfl, f1, hX⟩ | ⟨rfl, rfl, f1, hX⟩ | ⟨rfl, ⟨f1, f2, f3, f4, f5, f6, f7, f8⟩, hX⟩
 all_goals
  rw [hX]
  clear hX
  go_enter Tryz.func13, Tryz.ntmps13
  go_upto_region 1 with fail
  refine nmw2 fun W2 B2 hBm hBo hs2 => ?_
  obtain ⟨s0, s1, s2, s3, s4, s5⟩ := hBm.e6
  go_wp2_with (first
   | (with_reducible refine list_skipM (by rfl) ?_)
   | (refine list_load_blk rfl 56 _ rfl (w.heap.size + 1) _ 56 hBo rfl Tryz.underlying56 (by kernel_rfl) ?_)
   | (go_at_call 40; (with_reducible refine (HR.out _).mono ?_); rintro e w1 ⟨rfl, b1⟩; have z1 := b1.size; have b2 := below2 B2 b1; have hM1 := hBm.below b1; have hO1 := hBo.below b1; obtain ⟨p0, p1, p2, p3, p4, p5⟩ := hM1.e6; obtain ⟨o0, o1⟩ := hO1.e2)
   | (go_at_call 41; (with_reducible refine (HL.out _ b2).mono ?_); rintro e w3 ⟨rfl, b3⟩; have z3 := b3.size; have hO3 := (hO1.below b3).alloc' (.cells #[.int .i64 qb, .slice qa ql.length qc] 90); have hL3 : BlockIs (w3.alloc (.cells #[.int .i64 qb, .slice qa ql.length qc] 90)) w3.heap.size [.int .i64 qb, .slice qa ql.length qc] 90 := BlockIs.new w3 _ _; obtain ⟨t0, t1⟩ := hO3.e2; obtain ⟨q0, q1⟩ := hL3.e2))
  go_ret
  exact ⟨rfl, by first | exact (below2 b2 b3).alloc (below2 b2 b3).size _ | exact b2 | exact bel⟩

def GivesMs (w0 : World → Prop) (B : Nat) (w : World) (r : Pm) (e : Ending) (w' : World) : Prop := ∃ m : Mm, e = .returned (.agg #[.int .i64 m.inn, .int .i64 m.out, m.bans.1, m.book.1, m.parts.1, m.locks.1]) ∧ Firm w0 B w' (fun W => MmAt W m) ∧ m.pl = r ∧ Below w.heap.size w w'

set_option maxHeartbeats 8000000 in
theorem refStore_3 (w0 : World → Prop) (hg : Grows w0) (B : Nat) (m : Mm) (s t : Int) (v : Vm) (w : World) (hb0 : w0 w) (hB : B ≤ w.heap.size) (hm : ∀ W, w0 W → MmAt W m) (hv : ∀ W, w0 W → VmAt W v) :
  Calls Tryz.prog 54 #[.agg #[.int .i64 m.inn, .int .i64 m.out, m.bans.1, m.book.1, m.parts.1, m.locks.1], .agg #[.int .i64 3, .int .i64 s, .int .i64 t], .agg #[.int .i64 v.n, .bool v.pe.en.ad.v6, .int .u64 v.pe.en.ad.hi, .int .u64 v.pe.en.ad.lo, .int .i64 v.pe.en.port, .bool v.pe.came, .int .i64 v.pe.since, .int .i64 v.pe.pts, .int .i64 v.pe.at_, .int .i64 v.pe.ping, .int .i64 v.pe.work, v.bans.1, v.book.1]] w (GivesMs w0 B w (storeP m.pl 3 s t v.pl)) := by
 have hres : storeP m.pl 3 s t v.pl = { m.pl with bans := v.bans.2 } := by unfold storeP; rfl
 rw [hres]
 unfold GivesMs
 have h := hm w hb0
 have hvw := hv w hb0
 have HM := zh hm
 have HG := zh hg
 have HVV := zh hv
 skip
 obtain ⟨a1, a2, a3, a4, c1, c2, c3, c4, e1, e2, e3, e4⟩ := mm_slices h
 obtain ⟨_, oa, oc, eo, _⟩ := ba_open hvw.1
 obtain ⟨_, ka, kc, ek, _⟩ := ey_open hvw.2
 have hmm := zmm e1 e2 e3 e4
 have HMM := zh hmm
 obtain ⟨EO, EK⟩ := zh2 eo ek
 skip
 rw [e1, e2, e3, e4, eo, ek]
 clear hres e1 e2 e3 e4 eo ek hmm
 obtain ⟨x0, hx0, x1, hx1, n1, hn1, n2, hn2, n3, hn3, n4, hn4, nb, hnb, nk, hnk⟩ := nz8 m.inn m.out m.bans.2.length m.book.2.length m.parts.2.length m.locks.2.length v.bans.2.length v.book.2.length
 rw [← hx0, ← hx1, ← hn1, ← hn2, ← hn3, ← hn4, ← hnb, ← hnk]
 rw [← hx0, ← hx1, ← hn1, ← hn2, ← hn3, ← hn4] at HMM
 skip
 obtain ⟨HNB, HNK, HN3⟩ := zh3 hnb hnk hn3
 clear h hvw hv hm hg hx0 hx1 hn1 hn2 hn3 hn4 hnb hnk
 skip
 go_enter Tryz.func54, Tryz.ntmps54
 go_upto_region 1 with fail
 refine wpn4 fun W4 B4 hBm hBl hBv hBr hs4 => ?_
 obtain ⟨m0, m1, m2, m3, m4, m5⟩ := hBm.e6; have mf := hBm.frozen; have ml := hBm.lt; obtain ⟨l0, l1, l2⟩ := hBl.e3; obtain ⟨v0, v1, v2, v3, v4, v5, v6, v7, v8, v9, v10, v11, v12⟩ := hBv.e13; obtain ⟨r0, r1, r2, r3, r4, r5⟩ := hBr.e6; have rf := hBr.frozen; have rl := hBr.lt
 go_wp2_with fail
 refine bodyPost_named fun W9 h9 => ?_
 have hR9 : BlockIs W9 (w.heap.size + 1 + 1 + 1) [.int .i64 x0, .int .i64 x1, .slice oa nb oc, .slice a2 n2 c2, .slice a3 n3 c3, .slice a4 n4 c4] 40 := by subst h9; exact rcx hBr
 have b9 : Below w.heap.size w W9 := by subst h9; exact bel
 clear h9
 obtain ⟨e90, e91, e92, e93, e94, e95⟩ := hR9.e6
 exact bodyPost_ret (v := .agg #[.int .i64 x0, .int .i64 x1, .slice oa nb oc, .slice a2 n2 c2, .slice a3 n3 c3, .slice a4 n4 c4]) (by simp [results, Tryz.results54, go_sem, e90, e91, e92, e93, e94, e95]) rfl ⟨{ m with bans := (.slice oa nb oc, v.bans.2) }, (by rw [HMM.out]), (Firm.old fun W h0 => ⟨by (rw [HNB.out, ← EO.out]; exact (HVV.out W h0).1), (HM.out W h0).2⟩), rfl, b9⟩

set_option maxHeartbeats 8000000 in
theorem refStore_4 (w0 : World → Prop) (hg : Grows w0) (B : Nat) (m : Mm) (s t : Int) (v : Vm) (w : World) (hb0 : w0 w) (hB : B ≤ w.heap.size) (hm : ∀ W, w0 W → MmAt W m) (hv : ∀ W, w0 W → VmAt W v) :
  Calls Tryz.prog 54 #[.agg #[.int .i64 m.inn, .int .i64 m.out, m.bans.1, m.book.1, m.parts.1, m.locks.1], .agg #[.int .i64 4, .int .i64 s, .int .i64 t], .agg #[.int .i64 v.n, .bool v.pe.en.ad.v6, .int .u64 v.pe.en.ad.hi, .int .u64 v.pe.en.ad.lo, .int .i64 v.pe.en.port, .bool v.pe.came, .int .i64 v.pe.since, .int .i64 v.pe.pts, .int .i64 v.pe.at_, .int .i64 v.pe.ping, .int .i64 v.pe.work, v.bans.1, v.book.1]] w (GivesMs w0 B w (storeP m.pl 4 s t v.pl)) := by
 have hres : storeP m.pl 4 s t v.pl = { m.pl with book := v.book.2 } := by unfold storeP; rfl
 rw [hres]
 unfold GivesMs
 have h := hm w hb0
 have hvw := hv w hb0
 have HM := zh hm
 have HG := zh hg
 have HVV := zh hv
 skip
 obtain ⟨a1, a2, a3, a4, c1, c2, c3, c4, e1, e2, e3, e4⟩ := mm_slices h
 obtain ⟨_, oa, oc, eo, _⟩ := ba_open hvw.1
 obtain ⟨_, ka, kc, ek, _⟩ := ey_open hvw.2
 have hmm := zmm e1 e2 e3 e4
 have HMM := zh hmm
 obtain ⟨EO, EK⟩ := zh2 eo ek
 skip
 rw [e1, e2, e3, e4, eo, ek]
 clear hres e1 e2 e3 e4 eo ek hmm
 obtain ⟨x0, hx0, x1, hx1, n1, hn1, n2, hn2, n3, hn3, n4, hn4, nb, hnb, nk, hnk⟩ := nz8 m.inn m.out m.bans.2.length m.book.2.length m.parts.2.length m.locks.2.length v.bans.2.length v.book.2.length
 rw [← hx0, ← hx1, ← hn1, ← hn2, ← hn3, ← hn4, ← hnb, ← hnk]
 rw [← hx0, ← hx1, ← hn1, ← hn2, ← hn3, ← hn4] at HMM
 skip
 obtain ⟨HNB, HNK, HN3⟩ := zh3 hnb hnk hn3
 clear h hvw hv hm hg hx0 hx1 hn1 hn2 hn3 hn4 hnb hnk
 skip
 go_enter Tryz.func54, Tryz.ntmps54
 go_upto_region 1 with fail
 refine wpn4 fun W4 B4 hBm hBl hBv hBr hs4 => ?_
 obtain ⟨m0, m1, m2, m3, m4, m5⟩ := hBm.e6; have mf := hBm.frozen; have ml := hBm.lt; obtain ⟨l0, l1, l2⟩ := hBl.e3; obtain ⟨v0, v1, v2, v3, v4, v5, v6, v7, v8, v9, v10, v11, v12⟩ := hBv.e13; obtain ⟨r0, r1, r2, r3, r4, r5⟩ := hBr.e6; have rf := hBr.frozen; have rl := hBr.lt
 go_wp2_with fail
 refine bodyPost_named fun W9 h9 => ?_
 have hR9 : BlockIs W9 (w.heap.size + 1 + 1 + 1) [.int .i64 x0, .int .i64 x1, .slice a1 n1 c1, .slice ka nk kc, .slice a3 n3 c3, .slice a4 n4 c4] 40 := by subst h9; exact rcx hBr
 have b9 : Below w.heap.size w W9 := by subst h9; exact bel
 clear h9
 obtain ⟨e90, e91, e92, e93, e94, e95⟩ := hR9.e6
 exact bodyPost_ret (v := .agg #[.int .i64 x0, .int .i64 x1, .slice a1 n1 c1, .slice ka nk kc, .slice a3 n3 c3, .slice a4 n4 c4]) (by simp [results, Tryz.results54, go_sem, e90, e91, e92, e93, e94, e95]) rfl ⟨{ m with book := (.slice ka nk kc, v.book.2) }, (by rw [HMM.out]), (Firm.old fun W h0 => ⟨(HM.out W h0).1, by (rw [HNK.out, ← EK.out]; exact (HVV.out W h0).2), (HM.out W h0).2.2⟩), rfl, b9⟩
theorem sh_at {l : List Sh} {j : Nat} {x : Sh} (h : l[j]? = some x) : (l.flatMap shV)[j * 2]? = some (.int .i64 x.size) ∧ (l.flatMap shV)[j * 2 + 1]? = some x.v := by
 induction l generalizing j with
 | nil => simp at h
 | cons y l ih =>
  cases j with
  | zero => simp only [List.getElem?_cons_zero, Option.some.injEq] at h; subst h; exact ⟨rfl, rfl⟩
  | succ j =>
   have := ih (j := j) (by simpa using h)
   rw [List.flatMap_cons, show (j + 1) * 2 = (j * 2) + 2 by omega, show j * 2 + 2 + 1 = (j * 2 + 1) + 2 by omega]
   exact this

set_option maxHeartbeats 8000000 in
theorem refStore_5 (w0 : World → Prop) (hg : Grows w0) (B : Nat) (m : Mm) (s t : Int) (v : Vm) (w : World) (hb0 : w0 w) (hB : B ≤ w.heap.size) (hm : ∀ W, w0 W → MmAt W m) (hv : ∀ W, w0 W → VmAt W v) (hs : 0 ≤ s ∧ s < (m.parts.2.length : Int)) (hl : m.parts.2.length ≤ 1000) :
  Calls Tryz.prog 54 #[.agg #[.int .i64 m.inn, .int .i64 m.out, m.bans.1, m.book.1, m.parts.1, m.locks.1], .agg #[.int .i64 5, .int .i64 s, .int .i64 t], .agg #[.int .i64 v.n, .bool v.pe.en.ad.v6, .int .u64 v.pe.en.ad.hi, .int .u64 v.pe.en.ad.lo, .int .i64 v.pe.en.port, .bool v.pe.came, .int .i64 v.pe.since, .int .i64 v.pe.pts, .int .i64 v.pe.at_, .int .i64 v.pe.ping, .int .i64 v.pe.work, v.bans.1, v.book.1]] w (GivesMs w0 B w (storeP m.pl 5 s t v.pl)) := by
 have hres : storeP m.pl 5 s t v.pl = { m.pl with parts := setAt m.pl.parts s (v.n, (partP m.pl s).2) } := by unfold storeP; rfl
 rw [hres]
 unfold GivesMs
 have h := hm w hb0
 have hvw := hv w hb0
 have HM := zh hm
 have HG := zh hg
 have HVV := zh hv
 obtain ⟨j, rfl⟩ : ∃ j : Nat, s = (j : Int) := ⟨s.toNat, by omega⟩
 have hj : j < m.parts.2.length := by omega
 have hq0 := shOf_pl m (j : Int)
 obtain ⟨x, hx⟩ : ∃ x, m.parts.2[j]? = some x := ⟨_, List.getElem?_eq_getElem hj⟩
 have hsx : shOf m (j : Int) = x := by unfold shOf getAt; rw [if_pos hs.1, Int.toNat_natCast, List.getD_eq_getElem?_getD, hx]; rfl
 have hAt := shOf_at h (j : Int)
 rw [hsx] at hAt hq0
 obtain ⟨_, a5, c5, e5, hz5⟩ := pes_open hAt
 have HSR := zh (fun (W : World) (hb : Below w.heap.size w W) => ReadsL.below h.2.2.1.1 hb)
 have HSO := zh (shV_ones h.2.2.1.2)
 obtain ⟨_, p, c, e6, h3⟩ := shs_open h.2.2.1.1
 obtain ⟨b, o, rfl, h4, h5, h6⟩ := h3 (by omega)
 clear h6
 rw [hq0]
 obtain ⟨a1, a2, a3, a4, c1, c2, c3, c4, e1, e2, e3, e4⟩ := mm_slices h
 obtain ⟨_, oa, oc, eo, _⟩ := ba_open hvw.1
 obtain ⟨_, ka, kc, ek, _⟩ := ey_open hvw.2
 have hmm := zmm e1 e2 e3 e4
 have HMM := zh hmm
 obtain ⟨EO, EK⟩ := zh2 eo ek
 have ex := e3.symm.trans e6
 injection ex with ea en ec
 subst ea ec
 rw [e3] at HSR
 obtain ⟨E1, E2, E4⟩ := zh3 e1 e2 e4
 obtain ⟨xs, hxs, xn, hxn⟩ := nz2 x.size x.l.length
 rw [e1, e2, e3, e4, eo, ek]
 clear hres e1 e2 e3 e4 eo ek hmm
 obtain ⟨x0, hx0, x1, hx1, n1, hn1, n2, hn2, n3, hn3, n4, hn4, nb, hnb, nk, hnk⟩ := nz8 m.inn m.out m.bans.2.length m.book.2.length m.parts.2.length m.locks.2.length v.bans.2.length v.book.2.length
 rw [← hx0, ← hx1, ← hn1, ← hn2, ← hn3, ← hn4, ← hnb, ← hnk]
 rw [← hx0, ← hx1, ← hn1, ← hn2, ← hn3, ← hn4] at HMM
 have q1 : (j : Int) < (n3 : Int) := by omega
 have q2 : (0 : Int) ≤ (j : Int) := by omega
 obtain ⟨HX0, HX1, HN1, HN2, HN4, HXS, HXN, HAT⟩ := zh8 hx0 hx1 hn1 hn2 hn4 hxs hxn hAt; have HATK := zh (fun W hW => show ReadsL peV 10 W x.v x.l by (have hq := shOf_at (hm W hW) (j : Int); rw [hsx] at hq; exact hq)); obtain ⟨HE5, HJ⟩ := zh2 e5 hj
 have hpos : 0 < n3 := by omega
 have hl' : n3 ≤ 1000 := by omega
 rw [← hn3] at HSR
 have HX := zh (show ∀ cur : List Value, cur.take (n3 * 2) = m.parts.2.flatMap shV → cur[j * 2]? = some (.int .i64 xs) ∧ cur[j * 2 + 1]? = some (.slice a5 xn c5) from fun cur hc => (by
  have h1 := sh_at hx
  rw [hxs, hxn, ← e5]
  rw [← hc] at h1
  obtain ⟨h1, h2⟩ := h1
  rw [List.getElem?_take] at h1 h2
  split at h1
  ·split at h2
   ·exact ⟨h1, h2⟩
   ·cases h2
  ·cases h1))
 clear hxs hxn hq0 hx hsx hAt e5 e6 en h3 hs hl hj
 obtain ⟨HNB, HNK, HN3⟩ := zh3 hnb hnk hn3
 clear h hvw hv hm hg hx0 hx1 hn1 hn2 hn3 hn4 hnb hnk
 skip
 go_enter Tryz.func54, Tryz.ntmps54
 go_upto_region 1 with fail
 refine wpn4 fun W4 B4 hBm hBl hBv hBr hs4 => ?_
 obtain ⟨m0, m1, m2, m3, m4, m5⟩ := hBm.e6; have mf := hBm.frozen; have ml := hBm.lt; obtain ⟨l0, l1, l2⟩ := hBl.e3; obtain ⟨v0, v1, v2, v3, v4, v5, v6, v7, v8, v9, v10, v11, v12⟩ := hBv.e13; obtain ⟨r0, r1, r2, r3, r4, r5⟩ := hBr.e6; have rf := hBr.frozen; have rl := hBr.lt
 go_upto_region 9 with (at_builtin; refine list_app_reads_at rowSh rfl (.tmp 22) (.tmp 24) rfl W4.heap.size _ 0 [] rfl (own_made hs4.symm (Nat.le_refl _)) _ n3 (m.parts.2.flatMap shV) rfl (by (have hq := HSR.out (W4.alloc (.cells #[] 112)) (B4.alloc B4.size _); unfold ReadsL at hq; rw [← HN3.out] at hq; exact hq)) HSO.out (by omega) (by omega) (by simp) ?_; intro v7 w7 o7 g7 a7; have b7 : Below W4.heap.size W4 w7 := below_grown (own_made (e := 112) (size := 2) hs4.symm (Nat.le_refl _)) ((Below.refl _ _).alloc (Nat.le_refl _) _) (Nat.le_refl _) (by simp) g7; rw [Nat.zero_add, List.nil_append] at o7; obtain ⟨g, cap, cur, rfl, hBg, hgl, hnc, hcm, hR, hcur⟩ := owns_open2 hpos o7; have B7 := below2 B4 b7; have zz7 := b7.size; have hRB : BlockIs w7 g cur 112 := hR.1; have hcl := hR.2; obtain ⟨HR, HCUR⟩ := zh2 hR hcur; have hBm7 := hBm.below b7; have hBl7 := hBl.below b7; have hBv7 := hBv.below b7; have hBr7 := hBr.below b7; clear m0 m1 m2 m3 m4 m5 mf ml l0 l1 l2 v0 v1 v2 v3 v4 v5 v6 v7 v8 v9 v10 v11 v12 r0 r1 r2 r3 r4 r5 rf rl; obtain ⟨m0, m1, m2, m3, m4, m5⟩ := hBm7.e6; have mf := hBm7.frozen; have ml := hBm7.lt; obtain ⟨l0, l1, l2⟩ := hBl7.e3; obtain ⟨v0, v1, v2, v3, v4, v5, v6, v7, v8, v9, v10, v11, v12⟩ := hBv7.e13; obtain ⟨r0, r1, r2, r3, r4, r5⟩ := hBr7.e6; have rf := hBr7.frozen; have rl := hBr7.lt)
 obtain ⟨W8, hW8⟩ : ∃ W8, W8 = w7.setCell ⟨w.heap.size, 4, none⟩ (.slice (some ⟨g, 0, none⟩) n3 cap) := ⟨_, rfl⟩
 rw [← hW8]
 have B8 : Below w.heap.size w W8 := by subst hW8; exact B7.setCell (by first | exact Nat.le_refl _ | simp) _
 have nG : w.heap.size ≠ g := by omega
 have hBm8 : BlockIs W8 w.heap.size [.int .i64 x0, .int .i64 x1, .slice a1 n1 c1, .slice a2 n2 c2, .slice (some ⟨g, 0, none⟩) n3 cap, .slice a4 n4 c4] 40 := by subst hW8; exact hBm7.set 4 _
 have hBl8 : BlockIs W8 (w.heap.size + 1) [.int .i64 5, .int .i64 j, .int .i64 t] 44 := by subst hW8; exact hBl7.other (by simp) _
 have hBv8 : BlockIs W8 (w.heap.size + 1 + 1) [.int .i64 v.n, .bool v.pe.en.ad.v6, .int .u64 v.pe.en.ad.hi, .int .u64 v.pe.en.ad.lo, .int .i64 v.pe.en.port, .bool v.pe.came, .int .i64 v.pe.since, .int .i64 v.pe.pts, .int .i64 v.pe.at_, .int .i64 v.pe.ping, .int .i64 v.pe.work, .slice oa nb oc, .slice ka nk kc] 54 := by subst hW8; exact hBv7.other (by simp; omega) _
 have hBr8 : BlockIs W8 (w.heap.size + 1 + 1 + 1) [.int .i64 0, .int .i64 0, .slice none 0 0, .slice none 0 0, .slice none 0 0, .slice none 0 0] 40 := by subst hW8; exact hBr7.other (by simp; omega) _
 have hRB8 : BlockIs W8 g cur 112 := by subst hW8; exact hRB.other (by simpa using nG) _
 have HS8 : Hid (W8.heap.size = w7.heap.size) := by subst hW8; exact World.size_setCell _ _ _
 clear hW8 hBm7 hBl7 hBv7 hBr7 hRB m0 m1 m2 m3 m4 m5 mf ml l0 l1 l2 v0 v1 v2 v3 v4 v5 v6 v7 v8 v9 v10 v11 v12 r0 r1 r2 r3 r4 r5 rf rl
 obtain ⟨HX1a, HX2a⟩ := HX.out cur HCUR.out
 have g0 := hRB8.cell HX1a
 have g1 := hRB8.cell HX2a
 have y2 := hBm8.c4
 have y3 := hBl8.c1
 go_upto_region 10 with fail
 obtain ⟨W5, hW5⟩ : ∃ W5, W5 = W8.alloc (.cells #[.int .i64 xs, .slice a5 xn c5] 112) := ⟨_, rfl⟩
 rw [← hW5]
 obtain ⟨D, hD⟩ : ∃ D, D = W8.heap.size := ⟨_, rfl⟩
 have B5 : Below w.heap.size w W5 := by subst hW5; exact B8.alloc B8.size _
 have hBs : BlockIs W5 D [.int .i64 xs, .slice a5 xn c5] 112 := by subst hW5 hD; exact BlockIs.new W8 [.int .i64 xs, .slice a5 xn c5] _
 have hBm5 : BlockIs W5 w.heap.size [.int .i64 x0, .int .i64 x1, .slice a1 n1 c1, .slice a2 n2 c2, .slice (some ⟨g, 0, none⟩) n3 cap, .slice a4 n4 c4] 40 := by subst hW5; exact hBm8.alloc' _
 have hBl5 : BlockIs W5 (w.heap.size + 1) [.int .i64 5, .int .i64 j, .int .i64 t] 44 := by subst hW5; exact hBl8.alloc' _
 have hBv5 : BlockIs W5 (w.heap.size + 1 + 1) [.int .i64 v.n, .bool v.pe.en.ad.v6, .int .u64 v.pe.en.ad.hi, .int .u64 v.pe.en.ad.lo, .int .i64 v.pe.en.port, .bool v.pe.came, .int .i64 v.pe.since, .int .i64 v.pe.pts, .int .i64 v.pe.at_, .int .i64 v.pe.ping, .int .i64 v.pe.work, .slice oa nb oc, .slice ka nk kc] 54 := by subst hW5; exact hBv8.alloc' _
 have hBr5 : BlockIs W5 (w.heap.size + 1 + 1 + 1) [.int .i64 0, .int .i64 0, .slice none 0 0, .slice none 0 0, .slice none 0 0, .slice none 0 0] 40 := by subst hW5; exact hBr8.alloc' _
 have hRB5 : BlockIs W5 g cur 112 := by subst hW5; exact hRB8.alloc' _
 have hs5 : W5.heap.size = D + 1 := by subst hW5 hD; exact World.size_alloc _ _
 rw [← hD]
 have hs8 := HS8.out
 have nD : g < D := by omega
 have nD2 : w.heap.size + 1 + 1 + 1 < D := by omega
 clear hs8 hW5 hD hBm8 hBl8 hBv8 hBr8 hRB8 g0 g1 y2 y3
 obtain ⟨m0, m1, m2, m3, m4, m5⟩ := hBm5.e6; have mf := hBm5.frozen; have ml := hBm5.lt; obtain ⟨l0, l1, l2⟩ := hBl5.e3; obtain ⟨v0, v1, v2, v3, v4, v5, v6, v7, v8, v9, v10, v11, v12⟩ := hBv5.e13; obtain ⟨r0, r1, r2, r3, r4, r5⟩ := hBr5.e6; have rf := hBr5.frozen; have rl := hBr5.lt; obtain ⟨s0, s1⟩ := hBs.e2; have sf := hBs.frozen; have sl := hBs.lt; have g0 := hRB5.cell HX1a; have g1 := hRB5.cell HX2a; have gf := hRB5.frozen
 go_wp2_with fail
 refine bodyPost_named fun W9 h9 => ?_
 have hR9 : BlockIs W9 (w.heap.size + 1 + 1 + 1) [.int .i64 x0, .int .i64 x1, .slice a1 n1 c1, .slice a2 n2 c2, .slice (some ⟨g, 0, none⟩) n3 cap, .slice a4 n4 c4] 40 := by subst h9; exact rcx hBr5
 have b9 : Below w.heap.size w W9 := by subst h9; exact bel
 have hG9 : BlockIs W9 g ((cur.set (j * 2) (.int .i64 v.n)).set (j * 2 + 1) (.slice a5 xn c5)) 112 := by subst h9; exact rcx hRB5
 have HKE : Hid (∀ k arr u, D < k → BlockIs W5 k arr u → BlockIs W9 k arr u) := by
  subst h9
  unfold Hid
  intro k arr u hk hb
  have nB1 : w.heap.size + 1 + 1 + 1 ≠ k := by omega
  have nB2 : k ≠ w.heap.size + 1 + 1 + 1 := by omega
  have nB3 : g ≠ k := by omega
  have nB4 : k ≠ g := by omega
  have nB5 : D ≠ k := by omega
  have nB6 : k ≠ D := by omega
  exact rcx hb
 clear h9
 obtain ⟨e90, e91, e92, e93, e94, e95⟩ := hR9.e6
 exact bodyPost_ret (v := .agg #[.int .i64 x0, .int .i64 x1, .slice a1 n1 c1, .slice a2 n2 c2, .slice (some ⟨g, 0, none⟩) n3 cap, .slice a4 n4 c4]) (by simp [results, Tryz.results54, go_sem, e90, e91, e92, e93, e94, e95]) rfl ⟨⟨x0, x1, m.bans, m.book, (.slice (some ⟨g, 0, none⟩) n3 cap, m.parts.2.set j ⟨v.n, .slice a5 xn c5, x.l⟩), m.locks⟩, (by simp only [E1.out, E2.out, E4.out, ← HN1.out, ← HN2.out, ← HN4.out]), (fun W h0 hkp => by
  have hmm := HM.out W h0
  have hx : shV ⟨v.n, .slice a5 xn c5, x.l⟩ = [.int .i64 v.n, .slice a5 xn c5] := rfl
  have ho := owns_set2 shV_two hx (by exact HR.out) (by rw [← HN3.out]; exact HCUR.out) HJ.out (by rw [← HN3.out]; exact hnc) hcm (Nat.le_refl g) hG9
  have ho2 := owns_held ho fun g' arr hg hb => hkp g' arr _ (by omega) hb
  refine ⟨hmm.1, hmm.2.1, ⟨?_, fun q hq => ?_⟩, hmm.2.2.2⟩
  ·unfold ReadsL; rw [List.length_set]; rw [HN3.out]; exact owns_reads ho2
  ·rcases List.mem_or_eq_of_mem_set hq with hq | rfl
   ·exact hmm.2.2.1.2 q hq
   ·exact (by rw [HXN.out, ← HE5.out]; exact HATK.out W h0)), (by unfold Mm.pl setAt; simp only [if_pos q2, Int.toNat_natCast, List.map_set, HX0.out, HX1.out]), b9⟩

set_option maxHeartbeats 8000000 in
theorem refStore_6over (w0 : World → Prop) (hg : Grows w0) (B : Nat) (m : Mm) (s t : Int) (v : Vm) (w : World) (hb0 : w0 w) (hB : B ≤ w.heap.size) (hm : ∀ W, w0 W → MmAt W m) (hv : ∀ W, w0 W → VmAt W v) (hs : 0 ≤ s ∧ s < (m.parts.2.length : Int)) (hl : m.parts.2.length ≤ 1000) (ht : ((shOf m s).l.length : Int) < t) :
  Calls Tryz.prog 54 #[.agg #[.int .i64 m.inn, .int .i64 m.out, m.bans.1, m.book.1, m.parts.1, m.locks.1], .agg #[.int .i64 6, .int .i64 s, .int .i64 t], .agg #[.int .i64 v.n, .bool v.pe.en.ad.v6, .int .u64 v.pe.en.ad.hi, .int .u64 v.pe.en.ad.lo, .int .i64 v.pe.en.port, .bool v.pe.came, .int .i64 v.pe.since, .int .i64 v.pe.pts, .int .i64 v.pe.at_, .int .i64 v.pe.ping, .int .i64 v.pe.work, v.bans.1, v.book.1]] w (GivesMs w0 B w (storeP m.pl 6 s t v.pl)) := by
 have hres : storeP m.pl 6 s t v.pl = m.pl := by unfold storeP; exact storeP_over _ _ _ _ (by unfold Mm.pl; rw [List.length_map]; exact hs) (by rw [shOf_pl]; exact ht)
 rw [hres]
 unfold GivesMs
 have h := hm w hb0
 have hvw := hv w hb0
 have HM := zh hm
 have HG := zh hg
 have HVV := zh hv
 obtain ⟨j, rfl⟩ : ∃ j : Nat, s = (j : Int) := ⟨s.toNat, by omega⟩
 have hj : j < m.parts.2.length := by omega
 have hq0 := shOf_pl m (j : Int)
 obtain ⟨x, hx⟩ : ∃ x, m.parts.2[j]? = some x := ⟨_, List.getElem?_eq_getElem hj⟩
 have hsx : shOf m (j : Int) = x := by unfold shOf getAt; rw [if_pos hs.1, Int.toNat_natCast, List.getD_eq_getElem?_getD, hx]; rfl
 have hAt := shOf_at h (j : Int)
 rw [hsx] at hAt hq0 ht
 obtain ⟨_, a5, c5, e5, hz5⟩ := pes_open hAt
 have HSR := zh (fun (W : World) (hb : Below w.heap.size w W) => ReadsL.below h.2.2.1.1 hb)
 have HSO := zh (shV_ones h.2.2.1.2)
 obtain ⟨_, p, c, e6, h3⟩ := shs_open h.2.2.1.1
 obtain ⟨b, o, rfl, h4, h5, h6⟩ := h3 (by omega)
 clear h6
 obtain ⟨a1, a2, a3, a4, c1, c2, c3, c4, e1, e2, e3, e4⟩ := mm_slices h
 obtain ⟨_, oa, oc, eo, _⟩ := ba_open hvw.1
 obtain ⟨_, ka, kc, ek, _⟩ := ey_open hvw.2
 have hmm := zmm e1 e2 e3 e4
 have HMM := zh hmm
 obtain ⟨EO, EK⟩ := zh2 eo ek
 have ex := e3.symm.trans e6
 injection ex with ea en ec
 subst ea ec
 rw [e3] at HSR
 obtain ⟨E1, E2, E4⟩ := zh3 e1 e2 e4
 obtain ⟨xs, hxs, xn, hxn⟩ := nz2 x.size x.l.length
 rw [e1, e2, e3, e4, eo, ek]
 clear hres e1 e2 e3 e4 eo ek hmm
 obtain ⟨x0, hx0, x1, hx1, n1, hn1, n2, hn2, n3, hn3, n4, hn4, nb, hnb, nk, hnk⟩ := nz8 m.inn m.out m.bans.2.length m.book.2.length m.parts.2.length m.locks.2.length v.bans.2.length v.book.2.length
 rw [← hx0, ← hx1, ← hn1, ← hn2, ← hn3, ← hn4, ← hnb, ← hnk]
 rw [← hx0, ← hx1, ← hn1, ← hn2, ← hn3, ← hn4] at HMM
 have q1 : (j : Int) < (n3 : Int) := by omega
 have q2 : (0 : Int) ≤ (j : Int) := by omega
 obtain ⟨HX0, HX1, HN1, HN2, HN4, HXS, HXN, HAT⟩ := zh8 hx0 hx1 hn1 hn2 hn4 hxs hxn hAt; have HATK := zh (fun W hW => show ReadsL peV 10 W x.v x.l by (have hq := shOf_at (hm W hW) (j : Int); rw [hsx] at hq; exact hq)); obtain ⟨HE5, HJ⟩ := zh2 e5 hj
 have hpos : 0 < n3 := by omega
 have hl' : n3 ≤ 1000 := by omega
 rw [← hn3] at HSR
 have HX := zh (show ∀ cur : List Value, cur.take (n3 * 2) = m.parts.2.flatMap shV → cur[j * 2]? = some (.int .i64 xs) ∧ cur[j * 2 + 1]? = some (.slice a5 xn c5) from fun cur hc => (by
  have h1 := sh_at hx
  rw [hxs, hxn, ← e5]
  rw [← hc] at h1
  obtain ⟨h1, h2⟩ := h1
  rw [List.getElem?_take] at h1 h2
  split at h1
  ·split at h2
   ·exact ⟨h1, h2⟩
   ·cases h2
  ·cases h1))
 rw [← hxn] at ht
 have p1 : ¬ t < (xn : Int) := by omega
 have p2 : ¬ t = (xn : Int) := by omega
 have p3 : (t == (xn : Int)) = false := by simpa using p2
 have p4 : decide (t < (xn : Int)) = false := decide_eq_false p1
 have HSELF := zh (show m.parts.2.set j ⟨xs, .slice a5 xn c5, x.l⟩ = m.parts.2 by (rw [hxs, hxn, ← e5]; rw [List.getElem?_eq_some_iff] at hx; obtain ⟨hx1, hx2⟩ := hx; rw [← hx2]; exact List.set_getElem_self _))
 clear ht hxs hxn hq0 hx hsx hAt e5 e6 en h3 hs hl hj
 obtain ⟨HNB, HNK, HN3⟩ := zh3 hnb hnk hn3
 clear h hvw hv hm hg hx0 hx1 hn1 hn2 hn3 hn4 hnb hnk
 skip
 go_enter Tryz.func54, Tryz.ntmps54
 go_upto_region 1 with fail
 refine wpn4 fun W4 B4 hBm hBl hBv hBr hs4 => ?_
 obtain ⟨m0, m1, m2, m3, m4, m5⟩ := hBm.e6; have mf := hBm.frozen; have ml := hBm.lt; obtain ⟨l0, l1, l2⟩ := hBl.e3; obtain ⟨v0, v1, v2, v3, v4, v5, v6, v7, v8, v9, v10, v11, v12⟩ := hBv.e13; obtain ⟨r0, r1, r2, r3, r4, r5⟩ := hBr.e6; have rf := hBr.frozen; have rl := hBr.lt
 go_upto_region 9 with (at_builtin; refine list_app_reads_at rowSh rfl (.tmp 22) (.tmp 24) rfl W4.heap.size _ 0 [] rfl (own_made hs4.symm (Nat.le_refl _)) _ n3 (m.parts.2.flatMap shV) rfl (by (have hq := HSR.out (W4.alloc (.cells #[] 112)) (B4.alloc B4.size _); unfold ReadsL at hq; rw [← HN3.out] at hq; exact hq)) HSO.out (by omega) (by omega) (by simp) ?_; intro v7 w7 o7 g7 a7; have b7 : Below W4.heap.size W4 w7 := below_grown (own_made (e := 112) (size := 2) hs4.symm (Nat.le_refl _)) ((Below.refl _ _).alloc (Nat.le_refl _) _) (Nat.le_refl _) (by simp) g7; rw [Nat.zero_add, List.nil_append] at o7; obtain ⟨g, cap, cur, rfl, hBg, hgl, hnc, hcm, hR, hcur⟩ := owns_open2 hpos o7; have B7 := below2 B4 b7; have zz7 := b7.size; have hRB : BlockIs w7 g cur 112 := hR.1; have hcl := hR.2; obtain ⟨HR, HCUR⟩ := zh2 hR hcur; have hBm7 := hBm.below b7; have hBl7 := hBl.below b7; have hBv7 := hBv.below b7; have hBr7 := hBr.below b7; clear m0 m1 m2 m3 m4 m5 mf ml l0 l1 l2 v0 v1 v2 v3 v4 v5 v6 v7 v8 v9 v10 v11 v12 r0 r1 r2 r3 r4 r5 rf rl; obtain ⟨m0, m1, m2, m3, m4, m5⟩ := hBm7.e6; have mf := hBm7.frozen; have ml := hBm7.lt; obtain ⟨l0, l1, l2⟩ := hBl7.e3; obtain ⟨v0, v1, v2, v3, v4, v5, v6, v7, v8, v9, v10, v11, v12⟩ := hBv7.e13; obtain ⟨r0, r1, r2, r3, r4, r5⟩ := hBr7.e6; have rf := hBr7.frozen; have rl := hBr7.lt)
 obtain ⟨W8, hW8⟩ : ∃ W8, W8 = w7.setCell ⟨w.heap.size, 4, none⟩ (.slice (some ⟨g, 0, none⟩) n3 cap) := ⟨_, rfl⟩
 rw [← hW8]
 have B8 : Below w.heap.size w W8 := by subst hW8; exact B7.setCell (by first | exact Nat.le_refl _ | simp) _
 have nG : w.heap.size ≠ g := by omega
 have hBm8 : BlockIs W8 w.heap.size [.int .i64 x0, .int .i64 x1, .slice a1 n1 c1, .slice a2 n2 c2, .slice (some ⟨g, 0, none⟩) n3 cap, .slice a4 n4 c4] 40 := by subst hW8; exact hBm7.set 4 _
 have hBl8 : BlockIs W8 (w.heap.size + 1) [.int .i64 6, .int .i64 j, .int .i64 t] 44 := by subst hW8; exact hBl7.other (by simp) _
 have hBv8 : BlockIs W8 (w.heap.size + 1 + 1) [.int .i64 v.n, .bool v.pe.en.ad.v6, .int .u64 v.pe.en.ad.hi, .int .u64 v.pe.en.ad.lo, .int .i64 v.pe.en.port, .bool v.pe.came, .int .i64 v.pe.since, .int .i64 v.pe.pts, .int .i64 v.pe.at_, .int .i64 v.pe.ping, .int .i64 v.pe.work, .slice oa nb oc, .slice ka nk kc] 54 := by subst hW8; exact hBv7.other (by simp; omega) _
 have hBr8 : BlockIs W8 (w.heap.size + 1 + 1 + 1) [.int .i64 0, .int .i64 0, .slice none 0 0, .slice none 0 0, .slice none 0 0, .slice none 0 0] 40 := by subst hW8; exact hBr7.other (by simp; omega) _
 have hRB8 : BlockIs W8 g cur 112 := by subst hW8; exact hRB.other (by simpa using nG) _
 have HS8 : Hid (W8.heap.size = w7.heap.size) := by subst hW8; exact World.size_setCell _ _ _
 clear hW8 hBm7 hBl7 hBv7 hBr7 hRB m0 m1 m2 m3 m4 m5 mf ml l0 l1 l2 v0 v1 v2 v3 v4 v5 v6 v7 v8 v9 v10 v11 v12 r0 r1 r2 r3 r4 r5 rf rl
 obtain ⟨HX1a, HX2a⟩ := HX.out cur HCUR.out
 have g0 := hRB8.cell HX1a
 have g1 := hRB8.cell HX2a
 have y2 := hBm8.c4
 have y3 := hBl8.c1
 go_upto_region 10 with fail
 obtain ⟨W5, hW5⟩ : ∃ W5, W5 = W8.alloc (.cells #[.int .i64 xs, .slice a5 xn c5] 112) := ⟨_, rfl⟩
 rw [← hW5]
 obtain ⟨D, hD⟩ : ∃ D, D = W8.heap.size := ⟨_, rfl⟩
 have B5 : Below w.heap.size w W5 := by subst hW5; exact B8.alloc B8.size _
 have hBs : BlockIs W5 D [.int .i64 xs, .slice a5 xn c5] 112 := by subst hW5 hD; exact BlockIs.new W8 [.int .i64 xs, .slice a5 xn c5] _
 have hBm5 : BlockIs W5 w.heap.size [.int .i64 x0, .int .i64 x1, .slice a1 n1 c1, .slice a2 n2 c2, .slice (some ⟨g, 0, none⟩) n3 cap, .slice a4 n4 c4] 40 := by subst hW5; exact hBm8.alloc' _
 have hBl5 : BlockIs W5 (w.heap.size + 1) [.int .i64 6, .int .i64 j, .int .i64 t] 44 := by subst hW5; exact hBl8.alloc' _
 have hBv5 : BlockIs W5 (w.heap.size + 1 + 1) [.int .i64 v.n, .bool v.pe.en.ad.v6, .int .u64 v.pe.en.ad.hi, .int .u64 v.pe.en.ad.lo, .int .i64 v.pe.en.port, .bool v.pe.came, .int .i64 v.pe.since, .int .i64 v.pe.pts, .int .i64 v.pe.at_, .int .i64 v.pe.ping, .int .i64 v.pe.work, .slice oa nb oc, .slice ka nk kc] 54 := by subst hW5; exact hBv8.alloc' _
 have hBr5 : BlockIs W5 (w.heap.size + 1 + 1 + 1) [.int .i64 0, .int .i64 0, .slice none 0 0, .slice none 0 0, .slice none 0 0, .slice none 0 0] 40 := by subst hW5; exact hBr8.alloc' _
 have hRB5 : BlockIs W5 g cur 112 := by subst hW5; exact hRB8.alloc' _
 have hs5 : W5.heap.size = D + 1 := by subst hW5 hD; exact World.size_alloc _ _
 rw [← hD]
 have hs8 := HS8.out
 have nD : g < D := by omega
 have nD2 : w.heap.size + 1 + 1 + 1 < D := by omega
 clear hs8 hW5 hD hBm8 hBl8 hBv8 hBr8 hRB8 g0 g1 y2 y3
 obtain ⟨m0, m1, m2, m3, m4, m5⟩ := hBm5.e6; have mf := hBm5.frozen; have ml := hBm5.lt; obtain ⟨l0, l1, l2⟩ := hBl5.e3; obtain ⟨v0, v1, v2, v3, v4, v5, v6, v7, v8, v9, v10, v11, v12⟩ := hBv5.e13; obtain ⟨r0, r1, r2, r3, r4, r5⟩ := hBr5.e6; have rf := hBr5.frozen; have rl := hBr5.lt; obtain ⟨s0, s1⟩ := hBs.e2; have sf := hBs.frozen; have sl := hBs.lt; have g0 := hRB5.cell HX1a; have g1 := hRB5.cell HX2a; have gf := hRB5.frozen
 go_wp2_with fail
 refine bodyPost_named fun W9 h9 => ?_
 have hR9 : BlockIs W9 (w.heap.size + 1 + 1 + 1) [.int .i64 x0, .int .i64 x1, .slice a1 n1 c1, .slice a2 n2 c2, .slice (some ⟨g, 0, none⟩) n3 cap, .slice a4 n4 c4] 40 := by subst h9; exact rcx hBr5
 have b9 : Below w.heap.size w W9 := by subst h9; exact bel
 have hG9 : BlockIs W9 g ((cur.set (j * 2) (.int .i64 xs)).set (j * 2 + 1) (.slice a5 xn c5)) 112 := by subst h9; exact rcx hRB5
 have HKE : Hid (∀ k arr u, D < k → BlockIs W5 k arr u → BlockIs W9 k arr u) := by
  subst h9
  unfold Hid
  intro k arr u hk hb
  have nB1 : w.heap.size + 1 + 1 + 1 ≠ k := by omega
  have nB2 : k ≠ w.heap.size + 1 + 1 + 1 := by omega
  have nB3 : g ≠ k := by omega
  have nB4 : k ≠ g := by omega
  have nB5 : D ≠ k := by omega
  have nB6 : k ≠ D := by omega
  exact rcx hb
 clear h9
 obtain ⟨e90, e91, e92, e93, e94, e95⟩ := hR9.e6
 exact bodyPost_ret (v := .agg #[.int .i64 x0, .int .i64 x1, .slice a1 n1 c1, .slice a2 n2 c2, .slice (some ⟨g, 0, none⟩) n3 cap, .slice a4 n4 c4]) (by simp [results, Tryz.results54, go_sem, e90, e91, e92, e93, e94, e95]) rfl ⟨⟨x0, x1, m.bans, m.book, (.slice (some ⟨g, 0, none⟩) n3 cap, m.parts.2.set j ⟨xs, .slice a5 xn c5, x.l⟩), m.locks⟩, (by simp only [E1.out, E2.out, E4.out, ← HN1.out, ← HN2.out, ← HN4.out]), (fun W h0 hkp => by
  have hmm := HM.out W h0
  have hx : shV ⟨xs, .slice a5 xn c5, x.l⟩ = [.int .i64 xs, .slice a5 xn c5] := rfl
  have ho := owns_set2 shV_two hx (by exact HR.out) (by rw [← HN3.out]; exact HCUR.out) HJ.out (by rw [← HN3.out]; exact hnc) hcm (Nat.le_refl g) hG9
  have ho2 := owns_held ho fun g' arr hg hb => hkp g' arr _ (by omega) hb
  refine ⟨hmm.1, hmm.2.1, ⟨?_, fun q hq => ?_⟩, hmm.2.2.2⟩
  ·unfold ReadsL; rw [List.length_set]; rw [HN3.out]; exact owns_reads ho2
  ·rcases List.mem_or_eq_of_mem_set hq with hq | rfl
   ·exact hmm.2.2.1.2 q hq
   ·exact (by rw [HXN.out, ← HE5.out]; exact HATK.out W h0)), (by rw [HSELF.out]; unfold Mm.pl; simp only [HX0.out, HX1.out]), b9⟩

set_option maxHeartbeats 8000000 in
theorem refStore_6in (w0 : World → Prop) (hg : Grows w0) (B : Nat) (m : Mm) (s t : Int) (v : Vm) (w : World) (hb0 : w0 w) (hB : B ≤ w.heap.size) (hm : ∀ W, w0 W → MmAt W m) (hv : ∀ W, w0 W → VmAt W v) (hs : 0 ≤ s ∧ s < (m.parts.2.length : Int)) (hl : m.parts.2.length ≤ 1000) (ht : 0 ≤ t) (ho : t < ((shOf m s).l.length : Int)) (hsm : (shOf m s).l.length ≤ 100000) :
  Calls Tryz.prog 54 #[.agg #[.int .i64 m.inn, .int .i64 m.out, m.bans.1, m.book.1, m.parts.1, m.locks.1], .agg #[.int .i64 6, .int .i64 s, .int .i64 t], .agg #[.int .i64 v.n, .bool v.pe.en.ad.v6, .int .u64 v.pe.en.ad.hi, .int .u64 v.pe.en.ad.lo, .int .i64 v.pe.en.port, .bool v.pe.came, .int .i64 v.pe.since, .int .i64 v.pe.pts, .int .i64 v.pe.at_, .int .i64 v.pe.ping, .int .i64 v.pe.work, v.bans.1, v.book.1]] w (GivesMs w0 B w (storeP m.pl 6 s t v.pl)) := by
 have hres : storeP m.pl 6 s t v.pl = { m.pl with parts := setAt m.pl.parts s ((partP m.pl s).1, putP (partP m.pl s).2 t v.pe) } := by unfold storeP; rfl
 rw [hres]
 unfold GivesMs
 have h := hm w hb0
 have hvw := hv w hb0
 have HM := zh hm
 have HG := zh hg
 have HVV := zh hv
 obtain ⟨T, rfl⟩ : ∃ T : Nat, t = (T : Int) := ⟨t.toNat, by omega⟩
 obtain ⟨j, rfl⟩ : ∃ j : Nat, s = (j : Int) := ⟨s.toNat, by omega⟩
 have hj : j < m.parts.2.length := by omega
 have hq0 := shOf_pl m (j : Int)
 obtain ⟨x, hx⟩ : ∃ x, m.parts.2[j]? = some x := ⟨_, List.getElem?_eq_getElem hj⟩
 have hsx : shOf m (j : Int) = x := by unfold shOf getAt; rw [if_pos hs.1, Int.toNat_natCast, List.getD_eq_getElem?_getD, hx]; rfl
 have hAt := shOf_at h (j : Int)
 rw [hsx] at hAt hq0 ho hsm
 obtain ⟨_, a5, c5, e5, hz5⟩ := pes_open hAt
 have HSR := zh (fun (W : World) (hb : Below w.heap.size w W) => ReadsL.below h.2.2.1.1 hb)
 have HSO := zh (shV_ones h.2.2.1.2)
 obtain ⟨_, p, c, e6, h3⟩ := shs_open h.2.2.1.1
 obtain ⟨b, o, rfl, h4, h5, h6⟩ := h3 (by omega)
 clear h6
 have hput : putP x.l (T : Int) v.pe = x.l.set T v.pe := by unfold putP; rw [if_neg (by omega), Int.toNat_natCast, List.set_eq_take_append_cons_drop, if_pos (by omega)]
 rw [hq0]
 simp only [hput]
 obtain ⟨a1, a2, a3, a4, c1, c2, c3, c4, e1, e2, e3, e4⟩ := mm_slices h
 obtain ⟨_, oa, oc, eo, _⟩ := ba_open hvw.1
 obtain ⟨_, ka, kc, ek, _⟩ := ey_open hvw.2
 have hmm := zmm e1 e2 e3 e4
 have HMM := zh hmm
 obtain ⟨EO, EK⟩ := zh2 eo ek
 have ex := e3.symm.trans e6
 injection ex with ea en ec
 subst ea ec
 rw [e3] at HSR
 obtain ⟨E1, E2, E4⟩ := zh3 e1 e2 e4
 obtain ⟨xs, hxs, xn, hxn⟩ := nz2 x.size x.l.length
 rw [e1, e2, e3, e4, eo, ek]
 clear hres e1 e2 e3 e4 eo ek hmm
 obtain ⟨x0, hx0, x1, hx1, n1, hn1, n2, hn2, n3, hn3, n4, hn4, nb, hnb, nk, hnk⟩ := nz8 m.inn m.out m.bans.2.length m.book.2.length m.parts.2.length m.locks.2.length v.bans.2.length v.book.2.length
 rw [← hx0, ← hx1, ← hn1, ← hn2, ← hn3, ← hn4, ← hnb, ← hnk]
 rw [← hx0, ← hx1, ← hn1, ← hn2, ← hn3, ← hn4] at HMM
 have q1 : (j : Int) < (n3 : Int) := by omega
 have q2 : (0 : Int) ≤ (j : Int) := by omega
 obtain ⟨HX0, HX1, HN1, HN2, HN4, HXS, HXN, HAT⟩ := zh8 hx0 hx1 hn1 hn2 hn4 hxs hxn hAt; have HATK := zh (fun W hW => show ReadsL peV 10 W x.v x.l by (have hq := shOf_at (hm W hW) (j : Int); rw [hsx] at hq; exact hq)); obtain ⟨HE5, HJ⟩ := zh2 e5 hj
 have hpos : 0 < n3 := by omega
 have hl' : n3 ≤ 1000 := by omega
 rw [← hn3] at HSR
 have HX := zh (show ∀ cur : List Value, cur.take (n3 * 2) = m.parts.2.flatMap shV → cur[j * 2]? = some (.int .i64 xs) ∧ cur[j * 2 + 1]? = some (.slice a5 xn c5) from fun cur hc => (by
  have h1 := sh_at hx
  rw [hxs, hxn, ← e5]
  rw [← hc] at h1
  obtain ⟨h1, h2⟩ := h1
  rw [List.getElem?_take] at h1 h2
  split at h1
  ·split at h2
   ·exact ⟨h1, h2⟩
   ·cases h2
  ·cases h1))
 rw [← hxn] at ho hsm
 have p1 : (T : Int) < (xn : Int) := by omega
 have p4 : decide ((T : Int) < (xn : Int)) = true := decide_eq_true p1
 have p5 : (0 : Int) ≤ (T : Int) := by omega
 have HTL := zh (show T < x.l.length by omega)
 have hxp : 0 < xn := by omega
 clear hput ho hxs hxn hq0 hx hsx hAt e5 e6 en h3 hs hl hj
 obtain ⟨HNB, HNK, HN3⟩ := zh3 hnb hnk hn3
 clear h hvw hv hm hg hx0 hx1 hn1 hn2 hn3 hn4 hnb hnk
 skip
 go_enter Tryz.func54, Tryz.ntmps54
 go_upto_region 1 with fail
 refine wpn4 fun W4 B4 hBm hBl hBv hBr hs4 => ?_
 obtain ⟨m0, m1, m2, m3, m4, m5⟩ := hBm.e6; have mf := hBm.frozen; have ml := hBm.lt; obtain ⟨l0, l1, l2⟩ := hBl.e3; obtain ⟨v0, v1, v2, v3, v4, v5, v6, v7, v8, v9, v10, v11, v12⟩ := hBv.e13; obtain ⟨r0, r1, r2, r3, r4, r5⟩ := hBr.e6; have rf := hBr.frozen; have rl := hBr.lt
 go_upto_region 9 with (at_builtin; refine list_app_reads_at rowSh rfl (.tmp 22) (.tmp 24) rfl W4.heap.size _ 0 [] rfl (own_made hs4.symm (Nat.le_refl _)) _ n3 (m.parts.2.flatMap shV) rfl (by (have hq := HSR.out (W4.alloc (.cells #[] 112)) (B4.alloc B4.size _); unfold ReadsL at hq; rw [← HN3.out] at hq; exact hq)) HSO.out (by omega) (by omega) (by simp) ?_; intro v7 w7 o7 g7 a7; have b7 : Below W4.heap.size W4 w7 := below_grown (own_made (e := 112) (size := 2) hs4.symm (Nat.le_refl _)) ((Below.refl _ _).alloc (Nat.le_refl _) _) (Nat.le_refl _) (by simp) g7; rw [Nat.zero_add, List.nil_append] at o7; obtain ⟨g, cap, cur, rfl, hBg, hgl, hnc, hcm, hR, hcur⟩ := owns_open2 hpos o7; have B7 := below2 B4 b7; have zz7 := b7.size; have hRB : BlockIs w7 g cur 112 := hR.1; have hcl := hR.2; obtain ⟨HR, HCUR⟩ := zh2 hR hcur; have hBm7 := hBm.below b7; have hBl7 := hBl.below b7; have hBv7 := hBv.below b7; have hBr7 := hBr.below b7; clear m0 m1 m2 m3 m4 m5 mf ml l0 l1 l2 v0 v1 v2 v3 v4 v5 v6 v7 v8 v9 v10 v11 v12 r0 r1 r2 r3 r4 r5 rf rl; obtain ⟨m0, m1, m2, m3, m4, m5⟩ := hBm7.e6; have mf := hBm7.frozen; have ml := hBm7.lt; obtain ⟨l0, l1, l2⟩ := hBl7.e3; obtain ⟨v0, v1, v2, v3, v4, v5, v6, v7, v8, v9, v10, v11, v12⟩ := hBv7.e13; obtain ⟨r0, r1, r2, r3, r4, r5⟩ := hBr7.e6; have rf := hBr7.frozen; have rl := hBr7.lt)
 obtain ⟨W8, hW8⟩ : ∃ W8, W8 = w7.setCell ⟨w.heap.size, 4, none⟩ (.slice (some ⟨g, 0, none⟩) n3 cap) := ⟨_, rfl⟩
 rw [← hW8]
 have B8 : Below w.heap.size w W8 := by subst hW8; exact B7.setCell (by first | exact Nat.le_refl _ | simp) _
 have nG : w.heap.size ≠ g := by omega
 have hBm8 : BlockIs W8 w.heap.size [.int .i64 x0, .int .i64 x1, .slice a1 n1 c1, .slice a2 n2 c2, .slice (some ⟨g, 0, none⟩) n3 cap, .slice a4 n4 c4] 40 := by subst hW8; exact hBm7.set 4 _
 have hBl8 : BlockIs W8 (w.heap.size + 1) [.int .i64 6, .int .i64 j, .int .i64 T] 44 := by subst hW8; exact hBl7.other (by simp) _
 have hBv8 : BlockIs W8 (w.heap.size + 1 + 1) [.int .i64 v.n, .bool v.pe.en.ad.v6, .int .u64 v.pe.en.ad.hi, .int .u64 v.pe.en.ad.lo, .int .i64 v.pe.en.port, .bool v.pe.came, .int .i64 v.pe.since, .int .i64 v.pe.pts, .int .i64 v.pe.at_, .int .i64 v.pe.ping, .int .i64 v.pe.work, .slice oa nb oc, .slice ka nk kc] 54 := by subst hW8; exact hBv7.other (by simp; omega) _
 have hBr8 : BlockIs W8 (w.heap.size + 1 + 1 + 1) [.int .i64 0, .int .i64 0, .slice none 0 0, .slice none 0 0, .slice none 0 0, .slice none 0 0] 40 := by subst hW8; exact hBr7.other (by simp; omega) _
 have hRB8 : BlockIs W8 g cur 112 := by subst hW8; exact hRB.other (by simpa using nG) _
 have HS8 : Hid (W8.heap.size = w7.heap.size) := by subst hW8; exact World.size_setCell _ _ _
 clear hW8 hBm7 hBl7 hBv7 hBr7 hRB m0 m1 m2 m3 m4 m5 mf ml l0 l1 l2 v0 v1 v2 v3 v4 v5 v6 v7 v8 v9 v10 v11 v12 r0 r1 r2 r3 r4 r5 rf rl
 obtain ⟨HX1a, HX2a⟩ := HX.out cur HCUR.out
 have g0 := hRB8.cell HX1a
 have g1 := hRB8.cell HX2a
 have y2 := hBm8.c4
 have y3 := hBl8.c1
 go_upto_region 10 with fail
 obtain ⟨W5, hW5⟩ : ∃ W5, W5 = W8.alloc (.cells #[.int .i64 xs, .slice a5 xn c5] 112) := ⟨_, rfl⟩
 rw [← hW5]
 obtain ⟨D, hD⟩ : ∃ D, D = W8.heap.size := ⟨_, rfl⟩
 have B5 : Below w.heap.size w W5 := by subst hW5; exact B8.alloc B8.size _
 have hBs : BlockIs W5 D [.int .i64 xs, .slice a5 xn c5] 112 := by subst hW5 hD; exact BlockIs.new W8 [.int .i64 xs, .slice a5 xn c5] _
 have hBm5 : BlockIs W5 w.heap.size [.int .i64 x0, .int .i64 x1, .slice a1 n1 c1, .slice a2 n2 c2, .slice (some ⟨g, 0, none⟩) n3 cap, .slice a4 n4 c4] 40 := by subst hW5; exact hBm8.alloc' _
 have hBl5 : BlockIs W5 (w.heap.size + 1) [.int .i64 6, .int .i64 j, .int .i64 T] 44 := by subst hW5; exact hBl8.alloc' _
 have hBv5 : BlockIs W5 (w.heap.size + 1 + 1) [.int .i64 v.n, .bool v.pe.en.ad.v6, .int .u64 v.pe.en.ad.hi, .int .u64 v.pe.en.ad.lo, .int .i64 v.pe.en.port, .bool v.pe.came, .int .i64 v.pe.since, .int .i64 v.pe.pts, .int .i64 v.pe.at_, .int .i64 v.pe.ping, .int .i64 v.pe.work, .slice oa nb oc, .slice ka nk kc] 54 := by subst hW5; exact hBv8.alloc' _
 have hBr5 : BlockIs W5 (w.heap.size + 1 + 1 + 1) [.int .i64 0, .int .i64 0, .slice none 0 0, .slice none 0 0, .slice none 0 0, .slice none 0 0] 40 := by subst hW5; exact hBr8.alloc' _
 have hRB5 : BlockIs W5 g cur 112 := by subst hW5; exact hRB8.alloc' _
 have hs5 : W5.heap.size = D + 1 := by subst hW5 hD; exact World.size_alloc _ _
 rw [← hD]
 have hs8 := HS8.out
 have nD : g < D := by omega
 have nD2 : w.heap.size + 1 + 1 + 1 < D := by omega
 clear hs8 hW5 hD hBm8 hBl8 hBv8 hBr8 hRB8 g0 g1 y2 y3
 obtain ⟨m0, m1, m2, m3, m4, m5⟩ := hBm5.e6; have mf := hBm5.frozen; have ml := hBm5.lt; obtain ⟨l0, l1, l2⟩ := hBl5.e3; obtain ⟨v0, v1, v2, v3, v4, v5, v6, v7, v8, v9, v10, v11, v12⟩ := hBv5.e13; obtain ⟨r0, r1, r2, r3, r4, r5⟩ := hBr5.e6; have rf := hBr5.frozen; have rl := hBr5.lt; obtain ⟨s0, s1⟩ := hBs.e2; have sf := hBs.frozen; have sl := hBs.lt; have g0 := hRB5.cell HX1a; have g1 := hRB5.cell HX2a; have gf := hRB5.frozen
 have HRD := zh (fun (W : World) (hb : Below w.heap.size w W) => (by (have q := ReadsL.below HAT.out hb; rw [HE5.out] at q; unfold ReadsL at q; rw [← HXN.out] at q; exact q) : Reads W (.slice a5 xn c5) xn 10 (x.l.flatMap peV)))
 go_upto_region 14 with (at_builtin; refine list_app_reads_at peRow rfl (.tmp 45) (.tmp 47) rfl W5.heap.size _ 0 [] rfl (own_made hs5.symm (Nat.le_refl _)) _ xn (x.l.flatMap peV) rfl (HRD.out _ (B5.alloc B5.size _)) (peV_ones _) (by omega) (by omega) (by simp) ?_; intro v8w w8 o8 g8 a8; have b8 : Below W5.heap.size W5 w8 := below_grown (own_made (e := 52) (size := 10) hs5.symm (Nat.le_refl _)) ((Below.refl _ _).alloc (Nat.le_refl _) _) (Nat.le_refl _) (by simp) g8; rw [Nat.zero_add, List.nil_append] at o8; obtain ⟨g2, cap2, rfl⟩ := owns_sliceP o8 hxp; have zz8 := b8.size; have hBm6 := hBm5.below b8; have hBl6 := hBl5.below b8; have hBv6 := hBv5.below b8; have hBr6 := hBr5.below b8; have hBs6 := hBs.below b8; have hRB6 := hRB5.below b8; have hg2 := o8.lt g2 rfl; clear m0 m1 m2 m3 m4 m5 mf ml l0 l1 l2 v0 v1 v2 v3 v4 v5 v6 v7 v8 v9 v10 v11 v12 r0 r1 r2 r3 r4 r5 rf rl s0 s1 sf sl g0 g1 gf; obtain ⟨m0, m1, m2, m3, m4, m5⟩ := hBm6.e6; have mf := hBm6.frozen; have ml := hBm6.lt; obtain ⟨l0, l1, l2⟩ := hBl6.e3; obtain ⟨v0, v1, v2, v3, v4, v5, v6, v7, v8, v9, v10, v11, v12⟩ := hBv6.e13; obtain ⟨r0, r1, r2, r3, r4, r5⟩ := hBr6.e6; have rf := hBr6.frozen; have rl := hBr6.lt; obtain ⟨s0, s1⟩ := hBs6.e2; have sf := hBs6.frozen; have sl := hBs6.lt; have g0 := hRB6.cell HX1a; have g1 := hRB6.cell HX2a; have gf := hRB6.frozen)
 obtain ⟨W10, hW10⟩ : ∃ W10, W10 = w8.setCell ⟨D, 1, none⟩ (.slice (some ⟨g2, 0, none⟩) xn cap2) := ⟨_, rfl⟩
 try rw [← hW10]
 have hbD : D < W5.heap.size := hBs.lt
 have B10 : Below w.heap.size w W10 := by subst hW10; exact (B5.trans (b8.mono (by omega))).setCell (by show _ ≤ D; omega) _
 have hBm10 : BlockIs W10 w.heap.size [.int .i64 x0, .int .i64 x1, .slice a1 n1 c1, .slice a2 n2 c2, .slice (some ⟨g, 0, none⟩) n3 cap, .slice a4 n4 c4] 40 := by subst hW10; exact hBm6.other (by simp; omega) _
 have hBl10 : BlockIs W10 (w.heap.size + 1) [.int .i64 6, .int .i64 j, .int .i64 T] 44 := by subst hW10; exact hBl6.other (by simp; omega) _
 have hBv10 : BlockIs W10 (w.heap.size + 1 + 1) [.int .i64 v.n, .bool v.pe.en.ad.v6, .int .u64 v.pe.en.ad.hi, .int .u64 v.pe.en.ad.lo, .int .i64 v.pe.en.port, .bool v.pe.came, .int .i64 v.pe.since, .int .i64 v.pe.pts, .int .i64 v.pe.at_, .int .i64 v.pe.ping, .int .i64 v.pe.work, .slice oa nb oc, .slice ka nk kc] 54 := by subst hW10; exact hBv6.other (by simp; omega) _
 have hBr10 : BlockIs W10 (w.heap.size + 1 + 1 + 1) [.int .i64 0, .int .i64 0, .slice none 0 0, .slice none 0 0, .slice none 0 0, .slice none 0 0] 40 := by subst hW10; exact hBr6.other (by simp; omega) _
 have hBs10 : BlockIs W10 D [.int .i64 xs, .slice (some ⟨g2, 0, none⟩) xn cap2] 112 := by subst hW10; exact hBs6.set 1 _
 have hRB10 : BlockIs W10 g cur 112 := by subst hW10; exact hRB6.other (by simp; omega) _
 have hO10 : W10.ownsRow W5.heap.size 52 10 (.slice (some ⟨g2, 0, none⟩) xn cap2) xn (x.l.flatMap peV) := by subst hW10; exact owns_setB o8 hBs6 (fun e => by simp only [Value.ownBlock, Option.some.injEq] at e; omega)
 have hs10 : W10.heap.size = w8.heap.size := by subst hW10; exact World.size_setCell _ _ _
 have HO10 := zh hO10
 obtain ⟨arr, hA⟩ := own_blk hO10
 have hfz := hA.frozen
 obtain ⟨q, hq⟩ : ∃ q, x.l[T]? = some q := ⟨_, List.getElem?_eq_getElem HTL.out⟩
 have Y := own_pe hO10 hq
 obtain ⟨y0, y1, y2, y3, y4, y5, y6, y7, y8, y9⟩ := Y
 have HG2 := zh (show g2 < W10.heap.size by omega)
 have HS10 := zh hs10
 clear hq hA hO10 hW10 hs10
 obtain ⟨m0, m1, m2, m3, m4, m5⟩ := hBm10.e6; have mf := hBm10.frozen; have ml := hBm10.lt; obtain ⟨l0, l1, l2⟩ := hBl10.e3; obtain ⟨v0, v1, v2, v3, v4, v5, v6, v7, v8, v9, v10, v11, v12⟩ := hBv10.e13; obtain ⟨r0, r1, r2, r3, r4, r5⟩ := hBr10.e6; have rf := hBr10.frozen; have rl := hBr10.lt; obtain ⟨s0, s1⟩ := hBs10.e2; have sf := hBs10.frozen; have sl := hBs10.lt; have g0 := hRB10.cell HX1a; have g1 := hRB10.cell HX2a; have gf := hRB10.frozen
 go_upto_region 17 with fail
 go_name_world W11 hW11
 obtain ⟨hO11, hG11⟩ := own_setP HO10.out T v.pe HTL.out
 rw [hW11] at hO11 hG11
 have B11 := below_far B10 hG11 (by omega) HG2.out
 have hBm11 := blk_far hBm10 hG11 (by omega); have hBl11 := blk_far hBl10 hG11 (by omega); have hBv11 := blk_far hBv10 hG11 (by omega); have hBr11 := blk_far hBr10 hG11 (by omega); have hBs11 := blk_far hBs10 hG11 (by omega); have hRB11 := blk_far hRB10 hG11 (by omega)
 have hO12 : W11.ownsRow (D + 1) 52 10 (.slice (some ⟨g2, 0, none⟩) xn cap2) (x.l.set T v.pe).length ((x.l.set T v.pe).flatMap peV) := by rw [List.length_set, ← HXN.out, ← hs5]; exact hO11
 have HO12 := zh hO12
 clear hO11 hG11 hW11 hO12 y0 y1 y2 y3 y4 y5 y6 y7 y8 y9 hfz
 clear m0 m1 m2 m3 m4 m5 mf ml l0 l1 l2 v0 v1 v2 v3 v4 v5 v6 v7 v8 v9 v10 v11 v12 r0 r1 r2 r3 r4 r5 rf rl s0 s1 sf sl g0 g1 gf
 obtain ⟨m0, m1, m2, m3, m4, m5⟩ := hBm11.e6; have mf := hBm11.frozen; have ml := hBm11.lt; obtain ⟨l0, l1, l2⟩ := hBl11.e3; obtain ⟨v0, v1, v2, v3, v4, v5, v6, v7, v8, v9, v10, v11, v12⟩ := hBv11.e13; obtain ⟨r0, r1, r2, r3, r4, r5⟩ := hBr11.e6; have rf := hBr11.frozen; have rl := hBr11.lt; obtain ⟨s0, s1⟩ := hBs11.e2; have sf := hBs11.frozen; have sl := hBs11.lt; have g0 := hRB11.cell HX1a; have g1 := hRB11.cell HX2a; have gf := hRB11.frozen
 go_wp2_with fail
 refine bodyPost_named fun W9 h9 => ?_
 have hR9 : BlockIs W9 (w.heap.size + 1 + 1 + 1) [.int .i64 x0, .int .i64 x1, .slice a1 n1 c1, .slice a2 n2 c2, .slice (some ⟨g, 0, none⟩) n3 cap, .slice a4 n4 c4] 40 := by subst h9; exact rcx hBr11
 have b9 : Below w.heap.size w W9 := by subst h9; exact bel
 have hG9 : BlockIs W9 g ((cur.set (j * 2) (.int .i64 xs)).set (j * 2 + 1) (.slice (some ⟨g2, 0, none⟩) xn cap2)) 112 := by subst h9; exact rcx hRB11
 have HKE : Hid (∀ k arr u, D < k → BlockIs W11 k arr u → BlockIs W9 k arr u) := by
  subst h9
  unfold Hid
  intro k arr u hk hb
  have nB1 : w.heap.size + 1 + 1 + 1 ≠ k := by omega
  have nB2 : k ≠ w.heap.size + 1 + 1 + 1 := by omega
  have nB3 : g ≠ k := by omega
  have nB4 : k ≠ g := by omega
  have nB5 : D ≠ k := by omega
  have nB6 : k ≠ D := by omega
  exact rcx hb
 clear h9
 obtain ⟨e90, e91, e92, e93, e94, e95⟩ := hR9.e6
 exact bodyPost_ret (v := .agg #[.int .i64 x0, .int .i64 x1, .slice a1 n1 c1, .slice a2 n2 c2, .slice (some ⟨g, 0, none⟩) n3 cap, .slice a4 n4 c4]) (by simp [results, Tryz.results54, go_sem, e90, e91, e92, e93, e94, e95]) rfl ⟨⟨x0, x1, m.bans, m.book, (.slice (some ⟨g, 0, none⟩) n3 cap, m.parts.2.set j ⟨xs, .slice (some ⟨g2, 0, none⟩) xn cap2, x.l.set T v.pe⟩), m.locks⟩, (by simp only [E1.out, E2.out, E4.out, ← HN1.out, ← HN2.out, ← HN4.out]), (fun W h0 hkp => by
  have hmm := HM.out W h0
  have hx : shV ⟨xs, .slice (some ⟨g2, 0, none⟩) xn cap2, x.l.set T v.pe⟩ = [.int .i64 xs, .slice (some ⟨g2, 0, none⟩) xn cap2] := rfl
  have ho := owns_set2 shV_two hx (by exact HR.out) (by rw [← HN3.out]; exact HCUR.out) HJ.out (by rw [← HN3.out]; exact hnc) hcm (Nat.le_refl g) hG9
  have ho2 := owns_held ho fun g' arr hg hb => hkp g' arr _ (by omega) hb
  refine ⟨hmm.1, hmm.2.1, ⟨?_, fun q hq => ?_⟩, hmm.2.2.2⟩
  ·unfold ReadsL; rw [List.length_set]; rw [HN3.out]; exact owns_reads ho2
  ·rcases List.mem_or_eq_of_mem_set hq with hq | rfl
   ·exact hmm.2.2.1.2 q hq
   ·exact (owns_readsL (owns_held HO12.out fun g' arr hg hb => hkp g' arr _ (by omega) (HKE.out g' arr _ (by omega) hb)))), (by unfold Mm.pl setAt; simp only [if_pos q2, Int.toNat_natCast, List.map_set, HX0.out, HX1.out, HXS.out]), b9⟩

theorem rangeAt_belowS {w w' : World} {b o : Nat} {cs : List Value} (h : w.rangeAt b o cs) (hb : Below w.heap.size w w') (hlt : b < w.heap.size) : w'.rangeAt b o cs := fun j u hj => keep hb hlt (h j u hj)

set_option maxHeartbeats 8000000 in
theorem refStore_6end (w0 : World → Prop) (hg : Grows w0) (B : Nat) (m : Mm) (s t : Int) (v : Vm) (w : World) (hb0 : w0 w) (hB : B ≤ w.heap.size) (hm : ∀ W, w0 W → MmAt W m) (hv : ∀ W, w0 W → VmAt W v) (hs : 0 ≤ s ∧ s < (m.parts.2.length : Int)) (hl : m.parts.2.length ≤ 1000) (ht : 0 ≤ t) (ho : t = ((shOf m s).l.length : Int)) (hsm : (shOf m s).l.length ≤ 100000) :
  Calls Tryz.prog 54 #[.agg #[.int .i64 m.inn, .int .i64 m.out, m.bans.1, m.book.1, m.parts.1, m.locks.1], .agg #[.int .i64 6, .int .i64 s, .int .i64 t], .agg #[.int .i64 v.n, .bool v.pe.en.ad.v6, .int .u64 v.pe.en.ad.hi, .int .u64 v.pe.en.ad.lo, .int .i64 v.pe.en.port, .bool v.pe.came, .int .i64 v.pe.since, .int .i64 v.pe.pts, .int .i64 v.pe.at_, .int .i64 v.pe.ping, .int .i64 v.pe.work, v.bans.1, v.book.1]] w (GivesMs w0 B w (storeP m.pl 6 s t v.pl)) := by
 have hres : storeP m.pl 6 s t v.pl = { m.pl with parts := setAt m.pl.parts s ((partP m.pl s).1, putP (partP m.pl s).2 t v.pe) } := by unfold storeP; rfl
 rw [hres]
 unfold GivesMs
 have h := hm w hb0
 have hvw := hv w hb0
 have HM := zh hm
 have HG := zh hg
 have HVV := zh hv
 obtain ⟨T, rfl⟩ : ∃ T : Nat, t = (T : Int) := ⟨t.toNat, by omega⟩
 obtain ⟨j, rfl⟩ : ∃ j : Nat, s = (j : Int) := ⟨s.toNat, by omega⟩
 have hj : j < m.parts.2.length := by omega
 have hq0 := shOf_pl m (j : Int)
 obtain ⟨x, hx⟩ : ∃ x, m.parts.2[j]? = some x := ⟨_, List.getElem?_eq_getElem hj⟩
 have hsx : shOf m (j : Int) = x := by unfold shOf getAt; rw [if_pos hs.1, Int.toNat_natCast, List.getD_eq_getElem?_getD, hx]; rfl
 have hAt := shOf_at h (j : Int)
 rw [hsx] at hAt hq0 ho hsm
 obtain ⟨_, a5, c5, e5, hz5⟩ := pes_open hAt
 have HSR := zh (fun (W : World) (hb : Below w.heap.size w W) => ReadsL.below h.2.2.1.1 hb)
 have HSO := zh (shV_ones h.2.2.1.2)
 obtain ⟨_, p, c, e6, h3⟩ := shs_open h.2.2.1.1
 obtain ⟨b, o, rfl, h4, h5, h6⟩ := h3 (by omega)
 clear h6
 have hput : putP x.l (T : Int) v.pe = x.l ++ [v.pe] := by unfold putP; rw [if_neg (by omega), Int.toNat_natCast, List.take_of_length_le (by omega), List.drop_eq_nil_of_le (by omega)]
 rw [hq0]
 simp only [hput]
 obtain ⟨a1, a2, a3, a4, c1, c2, c3, c4, e1, e2, e3, e4⟩ := mm_slices h
 obtain ⟨_, oa, oc, eo, _⟩ := ba_open hvw.1
 obtain ⟨_, ka, kc, ek, _⟩ := ey_open hvw.2
 have hmm := zmm e1 e2 e3 e4
 have HMM := zh hmm
 obtain ⟨EO, EK⟩ := zh2 eo ek
 have ex := e3.symm.trans e6
 injection ex with ea en ec
 subst ea ec
 rw [e3] at HSR
 obtain ⟨E1, E2, E4⟩ := zh3 e1 e2 e4
 obtain ⟨xs, hxs, xn, hxn⟩ := nz2 x.size x.l.length
 rw [e1, e2, e3, e4, eo, ek]
 clear hres e1 e2 e3 e4 eo ek hmm
 obtain ⟨x0, hx0, x1, hx1, n1, hn1, n2, hn2, n3, hn3, n4, hn4, nb, hnb, nk, hnk⟩ := nz8 m.inn m.out m.bans.2.length m.book.2.length m.parts.2.length m.locks.2.length v.bans.2.length v.book.2.length
 rw [← hx0, ← hx1, ← hn1, ← hn2, ← hn3, ← hn4, ← hnb, ← hnk]
 rw [← hx0, ← hx1, ← hn1, ← hn2, ← hn3, ← hn4] at HMM
 have q1 : (j : Int) < (n3 : Int) := by omega
 have q2 : (0 : Int) ≤ (j : Int) := by omega
 obtain ⟨HX0, HX1, HN1, HN2, HN4, HXS, HXN, HAT⟩ := zh8 hx0 hx1 hn1 hn2 hn4 hxs hxn hAt; have HATK := zh (fun W hW => show ReadsL peV 10 W x.v x.l by (have hq := shOf_at (hm W hW) (j : Int); rw [hsx] at hq; exact hq)); obtain ⟨HE5, HJ⟩ := zh2 e5 hj
 have hpos : 0 < n3 := by omega
 have hl' : n3 ≤ 1000 := by omega
 rw [← hn3] at HSR
 have HX := zh (show ∀ cur : List Value, cur.take (n3 * 2) = m.parts.2.flatMap shV → cur[j * 2]? = some (.int .i64 xs) ∧ cur[j * 2 + 1]? = some (.slice a5 xn c5) from fun cur hc => (by
  have h1 := sh_at hx
  rw [hxs, hxn, ← e5]
  rw [← hc] at h1
  obtain ⟨h1, h2⟩ := h1
  rw [List.getElem?_take] at h1 h2
  split at h1
  ·split at h2
   ·exact ⟨h1, h2⟩
   ·cases h2
  ·cases h1))
 rw [← hxn] at ho hsm
 obtain rfl : T = xn := by omega
 have p1 : ¬ (T : Int) < (T : Int) := by omega
 have p4 : decide ((T : Int) < (T : Int)) = false := decide_eq_false p1
 have p3 : ((T : Int) == (T : Int)) = true := by simp
 clear hput ho hxs hxn hq0 hx hsx hAt e5 e6 en h3 hs hl hj
 obtain ⟨HNB, HNK, HN3⟩ := zh3 hnb hnk hn3
 clear h hvw hv hm hg hx0 hx1 hn1 hn2 hn3 hn4 hnb hnk
 skip
 go_enter Tryz.func54, Tryz.ntmps54
 go_upto_region 1 with fail
 refine wpn4 fun W4 B4 hBm hBl hBv hBr hs4 => ?_
 obtain ⟨m0, m1, m2, m3, m4, m5⟩ := hBm.e6; have mf := hBm.frozen; have ml := hBm.lt; obtain ⟨l0, l1, l2⟩ := hBl.e3; obtain ⟨v0, v1, v2, v3, v4, v5, v6, v7, v8, v9, v10, v11, v12⟩ := hBv.e13; obtain ⟨r0, r1, r2, r3, r4, r5⟩ := hBr.e6; have rf := hBr.frozen; have rl := hBr.lt
 go_upto_region 9 with (at_builtin; refine list_app_reads_at rowSh rfl (.tmp 22) (.tmp 24) rfl W4.heap.size _ 0 [] rfl (own_made hs4.symm (Nat.le_refl _)) _ n3 (m.parts.2.flatMap shV) rfl (by (have hq := HSR.out (W4.alloc (.cells #[] 112)) (B4.alloc B4.size _); unfold ReadsL at hq; rw [← HN3.out] at hq; exact hq)) HSO.out (by omega) (by omega) (by simp) ?_; intro v7 w7 o7 g7 a7; have b7 : Below W4.heap.size W4 w7 := below_grown (own_made (e := 112) (size := 2) hs4.symm (Nat.le_refl _)) ((Below.refl _ _).alloc (Nat.le_refl _) _) (Nat.le_refl _) (by simp) g7; rw [Nat.zero_add, List.nil_append] at o7; obtain ⟨g, cap, cur, rfl, hBg, hgl, hnc, hcm, hR, hcur⟩ := owns_open2 hpos o7; have B7 := below2 B4 b7; have zz7 := b7.size; have hRB : BlockIs w7 g cur 112 := hR.1; have hcl := hR.2; obtain ⟨HR, HCUR⟩ := zh2 hR hcur; have hBm7 := hBm.below b7; have hBl7 := hBl.below b7; have hBv7 := hBv.below b7; have hBr7 := hBr.below b7; clear m0 m1 m2 m3 m4 m5 mf ml l0 l1 l2 v0 v1 v2 v3 v4 v5 v6 v7 v8 v9 v10 v11 v12 r0 r1 r2 r3 r4 r5 rf rl; obtain ⟨m0, m1, m2, m3, m4, m5⟩ := hBm7.e6; have mf := hBm7.frozen; have ml := hBm7.lt; obtain ⟨l0, l1, l2⟩ := hBl7.e3; obtain ⟨v0, v1, v2, v3, v4, v5, v6, v7, v8, v9, v10, v11, v12⟩ := hBv7.e13; obtain ⟨r0, r1, r2, r3, r4, r5⟩ := hBr7.e6; have rf := hBr7.frozen; have rl := hBr7.lt)
 obtain ⟨W8, hW8⟩ : ∃ W8, W8 = w7.setCell ⟨w.heap.size, 4, none⟩ (.slice (some ⟨g, 0, none⟩) n3 cap) := ⟨_, rfl⟩
 rw [← hW8]
 have B8 : Below w.heap.size w W8 := by subst hW8; exact B7.setCell (by first | exact Nat.le_refl _ | simp) _
 have nG : w.heap.size ≠ g := by omega
 have hBm8 : BlockIs W8 w.heap.size [.int .i64 x0, .int .i64 x1, .slice a1 n1 c1, .slice a2 n2 c2, .slice (some ⟨g, 0, none⟩) n3 cap, .slice a4 n4 c4] 40 := by subst hW8; exact hBm7.set 4 _
 have hBl8 : BlockIs W8 (w.heap.size + 1) [.int .i64 6, .int .i64 j, .int .i64 T] 44 := by subst hW8; exact hBl7.other (by simp) _
 have hBv8 : BlockIs W8 (w.heap.size + 1 + 1) [.int .i64 v.n, .bool v.pe.en.ad.v6, .int .u64 v.pe.en.ad.hi, .int .u64 v.pe.en.ad.lo, .int .i64 v.pe.en.port, .bool v.pe.came, .int .i64 v.pe.since, .int .i64 v.pe.pts, .int .i64 v.pe.at_, .int .i64 v.pe.ping, .int .i64 v.pe.work, .slice oa nb oc, .slice ka nk kc] 54 := by subst hW8; exact hBv7.other (by simp; omega) _
 have hBr8 : BlockIs W8 (w.heap.size + 1 + 1 + 1) [.int .i64 0, .int .i64 0, .slice none 0 0, .slice none 0 0, .slice none 0 0, .slice none 0 0] 40 := by subst hW8; exact hBr7.other (by simp; omega) _
 have hRB8 : BlockIs W8 g cur 112 := by subst hW8; exact hRB.other (by simpa using nG) _
 have HS8 : Hid (W8.heap.size = w7.heap.size) := by subst hW8; exact World.size_setCell _ _ _
 clear hW8 hBm7 hBl7 hBv7 hBr7 hRB m0 m1 m2 m3 m4 m5 mf ml l0 l1 l2 v0 v1 v2 v3 v4 v5 v6 v7 v8 v9 v10 v11 v12 r0 r1 r2 r3 r4 r5 rf rl
 obtain ⟨HX1a, HX2a⟩ := HX.out cur HCUR.out
 have g0 := hRB8.cell HX1a
 have g1 := hRB8.cell HX2a
 have y2 := hBm8.c4
 have y3 := hBl8.c1
 go_upto_region 10 with fail
 obtain ⟨W5, hW5⟩ : ∃ W5, W5 = W8.alloc (.cells #[.int .i64 xs, .slice a5 T c5] 112) := ⟨_, rfl⟩
 rw [← hW5]
 obtain ⟨D, hD⟩ : ∃ D, D = W8.heap.size := ⟨_, rfl⟩
 have B5 : Below w.heap.size w W5 := by subst hW5; exact B8.alloc B8.size _
 have hBs : BlockIs W5 D [.int .i64 xs, .slice a5 T c5] 112 := by subst hW5 hD; exact BlockIs.new W8 [.int .i64 xs, .slice a5 T c5] _
 have hBm5 : BlockIs W5 w.heap.size [.int .i64 x0, .int .i64 x1, .slice a1 n1 c1, .slice a2 n2 c2, .slice (some ⟨g, 0, none⟩) n3 cap, .slice a4 n4 c4] 40 := by subst hW5; exact hBm8.alloc' _
 have hBl5 : BlockIs W5 (w.heap.size + 1) [.int .i64 6, .int .i64 j, .int .i64 T] 44 := by subst hW5; exact hBl8.alloc' _
 have hBv5 : BlockIs W5 (w.heap.size + 1 + 1) [.int .i64 v.n, .bool v.pe.en.ad.v6, .int .u64 v.pe.en.ad.hi, .int .u64 v.pe.en.ad.lo, .int .i64 v.pe.en.port, .bool v.pe.came, .int .i64 v.pe.since, .int .i64 v.pe.pts, .int .i64 v.pe.at_, .int .i64 v.pe.ping, .int .i64 v.pe.work, .slice oa nb oc, .slice ka nk kc] 54 := by subst hW5; exact hBv8.alloc' _
 have hBr5 : BlockIs W5 (w.heap.size + 1 + 1 + 1) [.int .i64 0, .int .i64 0, .slice none 0 0, .slice none 0 0, .slice none 0 0, .slice none 0 0] 40 := by subst hW5; exact hBr8.alloc' _
 have hRB5 : BlockIs W5 g cur 112 := by subst hW5; exact hRB8.alloc' _
 have hs5 : W5.heap.size = D + 1 := by subst hW5 hD; exact World.size_alloc _ _
 rw [← hD]
 have hs8 := HS8.out
 have nD : g < D := by omega
 have nD2 : w.heap.size + 1 + 1 + 1 < D := by omega
 clear hs8 hW5 hD hBm8 hBl8 hBv8 hBr8 hRB8 g0 g1 y2 y3
 obtain ⟨m0, m1, m2, m3, m4, m5⟩ := hBm5.e6; have mf := hBm5.frozen; have ml := hBm5.lt; obtain ⟨l0, l1, l2⟩ := hBl5.e3; obtain ⟨v0, v1, v2, v3, v4, v5, v6, v7, v8, v9, v10, v11, v12⟩ := hBv5.e13; obtain ⟨r0, r1, r2, r3, r4, r5⟩ := hBr5.e6; have rf := hBr5.frozen; have rl := hBr5.lt; obtain ⟨s0, s1⟩ := hBs.e2; have sf := hBs.frozen; have sl := hBs.lt; have g0 := hRB5.cell HX1a; have g1 := hRB5.cell HX2a; have gf := hRB5.frozen
 have HRD := zh (fun (W : World) (hb : Below w.heap.size w W) => (by (have q := ReadsL.below HAT.out hb; rw [HE5.out] at q; unfold ReadsL at q; rw [← HXN.out] at q; exact q) : Reads W (.slice a5 T c5) T 10 (x.l.flatMap peV)))
 go_upto_region 16 with fail
 refine wp_region_noPanic ?_
 have hS0 : (fun wq => wq.cell? ⟨D, 1, none⟩ = some (.slice a5 T c5) ∧ wq.rangeAt (w.heap.size + 1 + 1) 1 [.bool v.pe.en.ad.v6, .int .u64 v.pe.en.ad.hi, .int .u64 v.pe.en.ad.lo, .int .i64 v.pe.en.port, .bool v.pe.came, .int .i64 v.pe.since, .int .i64 v.pe.pts, .int .i64 v.pe.at_, .int .i64 v.pe.ping, .int .i64 v.pe.work]) W5.drew := ⟨s1, fun jj u hj => by
  rcases jj with _ | _ | _ | _ | _ | _ | _ | _ | _ | _ | jj
  ·cases hj; exact v1
  ·cases hj; exact v2
  ·cases hj; exact v3
  ·cases hj; exact v4
  ·cases hj; exact v5
  ·cases hj; exact v6
  ·cases hj; exact v7
  ·cases hj; exact v8
  ·cases hj; exact v9
  ·cases hj; exact v10
  ·simp at hj⟩
 refine wp_region_headH (fun wq => wq.cell? ⟨D, 1, none⟩ = some (.slice a5 T c5) ∧ wq.rangeAt (w.heap.size + 1 + 1) 1 [.bool v.pe.en.ad.v6, .int .u64 v.pe.en.ad.hi, .int .u64 v.pe.en.ad.lo, .int .i64 v.pe.en.port, .bool v.pe.came, .int .i64 v.pe.since, .int .i64 v.pe.pts, .int .i64 v.pe.at_, .int .i64 v.pe.ping, .int .i64 v.pe.work]) 7 (by kernel_rfl) (by kernel_rfl) ?_
 have hbW : Below w.heap.size w W5.drew := B5.drew
 have hdm : BlockIs W5.drew w.heap.size [.int .i64 x0, .int .i64 x1, .slice a1 n1 c1, .slice a2 n2 c2, .slice (some ⟨g, 0, none⟩) n3 cap, .slice a4 n4 c4] 40 := BlockIs.drew' hBm5
 have hdl : BlockIs W5.drew (w.heap.size + 1) [.int .i64 6, .int .i64 j, .int .i64 T] 44 := BlockIs.drew' hBl5
 have hdv : BlockIs W5.drew (w.heap.size + 1 + 1) [.int .i64 v.n, .bool v.pe.en.ad.v6, .int .u64 v.pe.en.ad.hi, .int .u64 v.pe.en.ad.lo, .int .i64 v.pe.en.port, .bool v.pe.came, .int .i64 v.pe.since, .int .i64 v.pe.pts, .int .i64 v.pe.at_, .int .i64 v.pe.ping, .int .i64 v.pe.work, .slice oa nb oc, .slice ka nk kc] 54 := BlockIs.drew' hBv5
 have hdr : BlockIs W5.drew (w.heap.size + 1 + 1 + 1) [.int .i64 0, .int .i64 0, .slice none 0 0, .slice none 0 0, .slice none 0 0, .slice none 0 0] 40 := BlockIs.drew' hBr5
 have hds : BlockIs W5.drew D [.int .i64 xs, .slice a5 T c5] 112 := BlockIs.drew' hBs
 have hdg : BlockIs W5.drew g cur 112 := BlockIs.drew' hRB5
 have hdz : W5.drew.heap.size = D + 1 := hs5
 clear m0 m1 m2 m3 m4 m5 mf ml l0 l1 l2 v0 v1 v2 v3 v4 v5 v6 v7 v8 v9 v10 v11 v12 r0 r1 r2 r3 r4 r5 rf rl s0 s1 sf sl g0 g1 gf
 clear hBm5 hBl5 hBv5 hBr5 hBs hRB5 hs5 B5
 generalize W5.drew = Wd at *
 have HSK := zh (show ∀ W, Below Wd.heap.size Wd W → (fun wq => wq.cell? ⟨D, 1, none⟩ = some (.slice a5 T c5) ∧ wq.rangeAt (w.heap.size + 1 + 1) 1 [.bool v.pe.en.ad.v6, .int .u64 v.pe.en.ad.hi, .int .u64 v.pe.en.ad.lo, .int .i64 v.pe.en.port, .bool v.pe.came, .int .i64 v.pe.since, .int .i64 v.pe.pts, .int .i64 v.pe.at_, .int .i64 v.pe.ping, .int .i64 v.pe.work]) W from fun W hb => ⟨keep hb (by show D < _; omega) hS0.1, rangeAt_belowS hS0.2 hb (by omega)⟩)
 have HDZ := zh hdz
 clear hdz
 have HRW := zh (fun (W : World) (hb : Below Wd.heap.size Wd W) => HRD.out W (below2 hbW hb))
 refine hP 1 rfl ?_
 refine hP 2 rfl ?_
 refine hP 4 rfl ?_
 refine hQ 5 rfl (yieldsIf_load_mid (by rfl) _ _ rfl _ _ rfl _ _ (fun wq hq => hq.2) Tryz.underlying52 rfl (by kernel_rfl)) ?_
 have hKEY := zh hds
 refine headH_two (i := 0) (j := 6) rfl rfl (by kernel_rfl) (by kernel_rfl) (by kernel_rfl) (fun K hK => ?_) (fun K hK => ?_)
 ·go_simp
  refine hK.out _ _ (HSK.out _ (by exact bel)) (fun hS9 => ?_)
  clear hK K
  try simp only [Act.put, zg1, zg2, zg3, zs1, zs2, zs3]
  refine headH_two (i := 3) (j := 6) rfl rfl (by kernel_rfl) (by kernel_rfl) (by kernel_rfl) (fun K hK => ?_) (fun K hK => ?_)
  ·have hown : World.ownsRow (Wd.alloc (.cells #[] 52)) Wd.heap.size 52 10 (.slice (some ⟨Wd.heap.size, 0, none⟩) 0 0) 0 [] := own_made rfl (Nat.le_refl _)
   have bq : Below Wd.heap.size Wd (Wd.alloc (.cells #[] 52)) := by exact bel
   refine step_app_reads_at peRow (by rfl) (.tmp 63) (.tmp 65) (by rfl) Wd.heap.size (.slice (some ⟨Wd.heap.size, 0, none⟩) 0 0) 0 [] (by rfl) hown _ T (x.l.flatMap peV) (by rfl) (HRW.out _ bq) (peV_ones _) (by omega) (by omega) (by first | omega | (simp; done) | (simp; omega)) ?_
   intro u1 w1 o1 gr1 a1'
   have bb1 : Below Wd.heap.size Wd w1 := below_grown hown bq (Nat.le_refl _) (by first | omega | (simp; done) | (simp; omega)) gr1
   rw [Nat.zero_add, List.nil_append] at o1
   refine hK.out _ _ (HSK.out _ bb1) (fun hS9 => ?_)
   clear hK K
   try simp only [Act.put, zg1, zg2, zg3, zs1, zs2, zs3]
   refine headH_one (i := 6) rfl rfl (by kernel_rfl) (fun K hK => ?_)
   go_simp
   obtain ⟨w3, hw3⟩ : ∃ w3, w3 = w1.alloc (.cells #[.bool v.pe.en.ad.v6, .int .u64 v.pe.en.ad.hi, .int .u64 v.pe.en.ad.lo, .int .i64 v.pe.en.port, .bool v.pe.came, .int .i64 v.pe.since, .int .i64 v.pe.pts, .int .i64 v.pe.at_, .int .i64 v.pe.ping, .int .i64 v.pe.work] 52) := ⟨_, rfl⟩
   have hP3 : BlockIs w3 w1.heap.size [.bool v.pe.en.ad.v6, .int .u64 v.pe.en.ad.hi, .int .u64 v.pe.en.ad.lo, .int .i64 v.pe.en.port, .bool v.pe.came, .int .i64 v.pe.since, .int .i64 v.pe.pts, .int .i64 v.pe.at_, .int .i64 v.pe.ping, .int .i64 v.pe.work] 52 := by subst hw3; exact BlockIs.newAt' _ _ _ rfl
   have o3 : w3.ownsRow Wd.heap.size 52 10 u1 T (x.l.flatMap peV) := by subst hw3; exact o1.alloc _
   have bb3 : Below Wd.heap.size Wd w3 := by subst hw3; exact bb1.alloc bb1.size _
   rw [← hw3]
   clear hw3
   refine hK.out _ _ (HSK.out _ bb3) (fun hS9 => ?_)
   clear hK K
   try simp only [Act.put, zg1, zg2, zg3, zs1, zs2, zs3]
   have o3' := o3; have HP3 := zh hP3
   refine headH_done (by kernel_rfl) ?_
   simp only [List.drop_succ_cons, List.drop_zero]
   have hBm6 := hdm.below bb3; have hBl6 := hdl.below bb3; have hBv6 := hdv.below bb3; have hBr6 := hdr.below bb3; have hBs6 := hds.below bb3; have hRB6 := hdg.below bb3
   have zz3 := bb3.size
   obtain ⟨m0, m1, m2, m3, m4, m5⟩ := hBm6.e6; have mf := hBm6.frozen; have ml := hBm6.lt; obtain ⟨l0, l1, l2⟩ := hBl6.e3; obtain ⟨v0, v1, v2, v3, v4, v5, v6, v7, v8, v9, v10, v11, v12⟩ := hBv6.e13; obtain ⟨r0, r1, r2, r3, r4, r5⟩ := hBr6.e6; have rf := hBr6.frozen; have rl := hBr6.lt; obtain ⟨s0, s1⟩ := hBs6.e2; have sf := hBs6.frozen; have sl := hBs6.lt; have g0 := hRB6.cell HX1a; have g1 := hRB6.cell HX2a; have gf := hRB6.frozen
   go_wp2_with (at_builtin; refine list_app_reads_at peRow rfl (.tmp 66) (.tmp 69) rfl Wd.heap.size u1 T (x.l.flatMap peV) rfl o3 _ 1 (peV v.pe) rfl (reads_blk (T := 52) HP3.out rfl (Nat.succ_pos 9)) (peV_one1 _) (by omega) (by omega) zz3 ?_; intro v8w w8 o8 g8 a8; have b8 : Below Wd.heap.size Wd w8 := below_grown o3 bb3 (Nat.le_refl _) zz3 g8; obtain ⟨g2, cap2, rfl⟩ := owns_sliceP o8 (Nat.succ_pos _); have zz8 := b8.size; have hBm7 := hdm.below b8; have hBl7 := hdl.below b8; have hBv7 := hdv.below b8; have hBr7 := hdr.below b8; have hBs7 := hds.below b8; have hRB7 := hdg.below b8; have hg2 := o8.lt g2 rfl; clear m0 m1 m2 m3 m4 m5 mf ml l0 l1 l2 v0 v1 v2 v3 v4 v5 v6 v7 v8 v9 v10 v11 v12 r0 r1 r2 r3 r4 r5 rf rl s0 s1 sf sl g0 g1 gf; obtain ⟨m0, m1, m2, m3, m4, m5⟩ := hBm7.e6; have mf := hBm7.frozen; have ml := hBm7.lt; obtain ⟨l0, l1, l2⟩ := hBl7.e3; obtain ⟨v0, v1, v2, v3, v4, v5, v6, v7, v8, v9, v10, v11, v12⟩ := hBv7.e13; obtain ⟨r0, r1, r2, r3, r4, r5⟩ := hBr7.e6; have rf := hBr7.frozen; have rl := hBr7.lt; obtain ⟨s0, s1⟩ := hBs7.e2; have sf := hBs7.frozen; have sl := hBs7.lt; have g0 := hRB7.cell HX1a; have g1 := hRB7.cell HX2a; have gf := hRB7.frozen)
   refine NoPanic.normal ?_
   obtain ⟨W11, hW11⟩ : ∃ W11, W11 = w8.setCell ⟨D, 1, none⟩ (.slice (some ⟨g2, 0, none⟩) (T + 1) cap2) := ⟨_, rfl⟩
   try rw [← hW11]
   have B11 : Below w.heap.size w W11 := by subst hW11; exact (hbW.trans (b8.mono (by have hdz := HDZ.out; omega))).setCell (by show _ ≤ D; omega) _
   have hBm11 : BlockIs W11 w.heap.size [.int .i64 x0, .int .i64 x1, .slice a1 n1 c1, .slice a2 n2 c2, .slice (some ⟨g, 0, none⟩) n3 cap, .slice a4 n4 c4] 40 := by subst hW11; exact hBm7.other (by have hdz := HDZ.out; simp; omega) _
   have hBl11 : BlockIs W11 (w.heap.size + 1) [.int .i64 6, .int .i64 j, .int .i64 T] 44 := by subst hW11; exact hBl7.other (by have hdz := HDZ.out; simp; omega) _
   have hBv11 : BlockIs W11 (w.heap.size + 1 + 1) [.int .i64 v.n, .bool v.pe.en.ad.v6, .int .u64 v.pe.en.ad.hi, .int .u64 v.pe.en.ad.lo, .int .i64 v.pe.en.port, .bool v.pe.came, .int .i64 v.pe.since, .int .i64 v.pe.pts, .int .i64 v.pe.at_, .int .i64 v.pe.ping, .int .i64 v.pe.work, .slice oa nb oc, .slice ka nk kc] 54 := by subst hW11; exact hBv7.other (by have hdz := HDZ.out; simp; omega) _
   have hBr11 : BlockIs W11 (w.heap.size + 1 + 1 + 1) [.int .i64 0, .int .i64 0, .slice none 0 0, .slice none 0 0, .slice none 0 0, .slice none 0 0] 40 := by subst hW11; exact hBr7.other (by have hdz := HDZ.out; simp; omega) _
   have hBs11 : BlockIs W11 D [.int .i64 xs, .slice (some ⟨g2, 0, none⟩) (T + 1) cap2] 112 := by subst hW11; exact hBs7.set 1 _
   have hRB11 : BlockIs W11 g cur 112 := by subst hW11; exact hRB7.other (by have hdz := HDZ.out; simp; omega) _
   have hO12 : W11.ownsRow (D + 1) 52 10 (.slice (some ⟨g2, 0, none⟩) (T + 1) cap2) (x.l ++ [v.pe]).length ((x.l ++ [v.pe]).flatMap peV) := by
    rw [List.length_append, ← HXN.out, List.flatMap_append, show [v.pe].flatMap peV = peV v.pe by simp, ← HDZ.out]
    subst hW11
    exact owns_setB o8 hBs7 (fun e => by simp only [Value.ownBlock, Option.some.injEq] at e; have hdz := HDZ.out; omega)
   have HO12 := zh hO12
   clear hW11 hO12
   clear m0 m1 m2 m3 m4 m5 mf ml l0 l1 l2 v0 v1 v2 v3 v4 v5 v6 v7 v8 v9 v10 v11 v12 r0 r1 r2 r3 r4 r5 rf rl s0 s1 sf sl g0 g1 gf
   obtain ⟨m0, m1, m2, m3, m4, m5⟩ := hBm11.e6; have mf := hBm11.frozen; have ml := hBm11.lt; obtain ⟨l0, l1, l2⟩ := hBl11.e3; obtain ⟨v0, v1, v2, v3, v4, v5, v6, v7, v8, v9, v10, v11, v12⟩ := hBv11.e13; obtain ⟨r0, r1, r2, r3, r4, r5⟩ := hBr11.e6; have rf := hBr11.frozen; have rl := hBr11.lt; obtain ⟨s0, s1⟩ := hBs11.e2; have sf := hBs11.frozen; have sl := hBs11.lt; have g0 := hRB11.cell HX1a; have g1 := hRB11.cell HX2a; have gf := hRB11.frozen
   go_wp2_with fail
   refine bodyPost_named fun W9 h9 => ?_
   have hR9 : BlockIs W9 (w.heap.size + 1 + 1 + 1) [.int .i64 x0, .int .i64 x1, .slice a1 n1 c1, .slice a2 n2 c2, .slice (some ⟨g, 0, none⟩) n3 cap, .slice a4 n4 c4] 40 := by subst h9; exact rcx hBr11
   have b9 : Below w.heap.size w W9 := by subst h9; exact bel
   have hG9 : BlockIs W9 g ((cur.set (j * 2) (.int .i64 xs)).set (j * 2 + 1) (.slice (some ⟨g2, 0, none⟩) (T + 1) cap2)) 112 := by subst h9; exact rcx hRB11
   have HKE : Hid (∀ k arr u, D < k → BlockIs W11 k arr u → BlockIs W9 k arr u) := by
    subst h9
    unfold Hid
    intro k arr u hk hb
    have nB1 : w.heap.size + 1 + 1 + 1 ≠ k := by omega
    have nB2 : k ≠ w.heap.size + 1 + 1 + 1 := by omega
    have nB3 : g ≠ k := by omega
    have nB4 : k ≠ g := by omega
    have nB5 : D ≠ k := by omega
    have nB6 : k ≠ D := by omega
    exact rcx hb
   clear h9
   obtain ⟨e90, e91, e92, e93, e94, e95⟩ := hR9.e6
   exact bodyPost_ret (v := .agg #[.int .i64 x0, .int .i64 x1, .slice a1 n1 c1, .slice a2 n2 c2, .slice (some ⟨g, 0, none⟩) n3 cap, .slice a4 n4 c4]) (by simp [results, Tryz.results54, go_sem, e90, e91, e92, e93, e94, e95]) rfl ⟨⟨x0, x1, m.bans, m.book, (.slice (some ⟨g, 0, none⟩) n3 cap, m.parts.2.set j ⟨xs, .slice (some ⟨g2, 0, none⟩) (T + 1) cap2, x.l ++ [v.pe]⟩), m.locks⟩, (by simp only [E1.out, E2.out, E4.out, ← HN1.out, ← HN2.out, ← HN4.out]), (fun W h0 hkp => by
    have hmm := HM.out W h0
    have hx : shV ⟨xs, .slice (some ⟨g2, 0, none⟩) (T + 1) cap2, x.l ++ [v.pe]⟩ = [.int .i64 xs, .slice (some ⟨g2, 0, none⟩) (T + 1) cap2] := rfl
    have ho := owns_set2 shV_two hx (by exact HR.out) (by rw [← HN3.out]; exact HCUR.out) HJ.out (by rw [← HN3.out]; exact hnc) hcm (Nat.le_refl g) hG9
    have ho2 := owns_held ho fun g' arr hg hb => hkp g' arr _ (by omega) hb
    refine ⟨hmm.1, hmm.2.1, ⟨?_, fun q hq => ?_⟩, hmm.2.2.2⟩
    ·unfold ReadsL; rw [List.length_set]; rw [HN3.out]; exact owns_reads ho2
    ·rcases List.mem_or_eq_of_mem_set hq with hq | rfl
     ·exact hmm.2.2.1.2 q hq
     ·exact (owns_readsL (owns_held HO12.out fun g' arr hg hb => hkp g' arr _ (by have hdz := HDZ.out; omega) (HKE.out g' arr _ (by omega) hb)))), (by unfold Mm.pl setAt; simp only [if_pos q2, Int.toNat_natCast, List.map_set, HX0.out, HX1.out, HXS.out]), b9⟩
  ·go_simp
   refine hK.out _ _ (HSK.out _ (by exact bel)) (fun hS9 => ?_)
   clear hK K
   try simp only [Act.put, zg1, zg2, zg3, zs1, zs2, zs3]
   refine headH_one (i := 3) rfl rfl (by kernel_rfl) (fun K hK => ?_)
   have hown : World.ownsRow ((Wd.alloc (.cells #[] 52)).alloc (.cells #[.bool v.pe.en.ad.v6, .int .u64 v.pe.en.ad.hi, .int .u64 v.pe.en.ad.lo, .int .i64 v.pe.en.port, .bool v.pe.came, .int .i64 v.pe.since, .int .i64 v.pe.pts, .int .i64 v.pe.at_, .int .i64 v.pe.ping, .int .i64 v.pe.work] 52)) Wd.heap.size 52 10 (.slice (some ⟨Wd.heap.size, 0, none⟩) 0 0) 0 [] := (own_made rfl (Nat.le_refl _)).alloc _
   have bq : Below Wd.heap.size Wd ((Wd.alloc (.cells #[] 52)).alloc (.cells #[.bool v.pe.en.ad.v6, .int .u64 v.pe.en.ad.hi, .int .u64 v.pe.en.ad.lo, .int .i64 v.pe.en.port, .bool v.pe.came, .int .i64 v.pe.since, .int .i64 v.pe.pts, .int .i64 v.pe.at_, .int .i64 v.pe.ping, .int .i64 v.pe.work] 52)) := by exact bel
   refine step_app_reads_at peRow (by rfl) (.tmp 63) (.tmp 65) (by rfl) Wd.heap.size (.slice (some ⟨Wd.heap.size, 0, none⟩) 0 0) 0 [] (by rfl) hown _ T (x.l.flatMap peV) (by rfl) (HRW.out _ bq) (peV_ones _) (by omega) (by omega) (by first | omega | (simp; done) | (simp; omega)) ?_
   intro u1 w1 o1 gr1 a1'
   have bb1 : Below Wd.heap.size Wd w1 := below_grown hown bq (Nat.le_refl _) (by first | omega | (simp; done) | (simp; omega)) gr1
   rw [Nat.zero_add, List.nil_append] at o1
   obtain ⟨w3, hw3⟩ : ∃ w3, w3 = w1 := ⟨_, rfl⟩
   have hP3 : BlockIs w3 (Wd.heap.size + 1) [.bool v.pe.en.ad.v6, .int .u64 v.pe.en.ad.hi, .int .u64 v.pe.en.ad.lo, .int .i64 v.pe.en.port, .bool v.pe.came, .int .i64 v.pe.since, .int .i64 v.pe.pts, .int .i64 v.pe.at_, .int .i64 v.pe.ping, .int .i64 v.pe.work] 52 := by subst hw3; exact blk_grown (show BlockIs _ (Wd.heap.size + 1) [.bool v.pe.en.ad.v6, .int .u64 v.pe.en.ad.hi, .int .u64 v.pe.en.ad.lo, .int .i64 v.pe.en.port, .bool v.pe.came, .int .i64 v.pe.since, .int .i64 v.pe.pts, .int .i64 v.pe.at_, .int .i64 v.pe.ping, .int .i64 v.pe.work] 52 from BlockIs.newAt' _ _ _ (by simp)) gr1 (by simp [Value.ownBlock])
   have o3 : w3.ownsRow Wd.heap.size 52 10 u1 T (x.l.flatMap peV) := by subst hw3; exact o1
   have bb3 : Below Wd.heap.size Wd w3 := by subst hw3; exact bb1
   rw [← hw3]
   clear hw3
   refine hK.out _ _ (HSK.out _ bb3) (fun hS9 => ?_)
   clear hK K
   try simp only [Act.put, zg1, zg2, zg3, zs1, zs2, zs3]
   have o3' := o3; have HP3 := zh hP3
   refine headH_done (by kernel_rfl) ?_
   simp only [List.drop_succ_cons, List.drop_zero]
   have hBm6 := hdm.below bb3; have hBl6 := hdl.below bb3; have hBv6 := hdv.below bb3; have hBr6 := hdr.below bb3; have hBs6 := hds.below bb3; have hRB6 := hdg.below bb3
   have zz3 := bb3.size
   obtain ⟨m0, m1, m2, m3, m4, m5⟩ := hBm6.e6; have mf := hBm6.frozen; have ml := hBm6.lt; obtain ⟨l0, l1, l2⟩ := hBl6.e3; obtain ⟨v0, v1, v2, v3, v4, v5, v6, v7, v8, v9, v10, v11, v12⟩ := hBv6.e13; obtain ⟨r0, r1, r2, r3, r4, r5⟩ := hBr6.e6; have rf := hBr6.frozen; have rl := hBr6.lt; obtain ⟨s0, s1⟩ := hBs6.e2; have sf := hBs6.frozen; have sl := hBs6.lt; have g0 := hRB6.cell HX1a; have g1 := hRB6.cell HX2a; have gf := hRB6.frozen
   go_wp2_with (at_builtin; refine list_app_reads_at peRow rfl (.tmp 66) (.tmp 69) rfl Wd.heap.size u1 T (x.l.flatMap peV) rfl o3 _ 1 (peV v.pe) rfl (reads_blk (T := 52) HP3.out rfl (Nat.succ_pos 9)) (peV_one1 _) (by omega) (by omega) zz3 ?_; intro v8w w8 o8 g8 a8; have b8 : Below Wd.heap.size Wd w8 := below_grown o3 bb3 (Nat.le_refl _) zz3 g8; obtain ⟨g2, cap2, rfl⟩ := owns_sliceP o8 (Nat.succ_pos _); have zz8 := b8.size; have hBm7 := hdm.below b8; have hBl7 := hdl.below b8; have hBv7 := hdv.below b8; have hBr7 := hdr.below b8; have hBs7 := hds.below b8; have hRB7 := hdg.below b8; have hg2 := o8.lt g2 rfl; clear m0 m1 m2 m3 m4 m5 mf ml l0 l1 l2 v0 v1 v2 v3 v4 v5 v6 v7 v8 v9 v10 v11 v12 r0 r1 r2 r3 r4 r5 rf rl s0 s1 sf sl g0 g1 gf; obtain ⟨m0, m1, m2, m3, m4, m5⟩ := hBm7.e6; have mf := hBm7.frozen; have ml := hBm7.lt; obtain ⟨l0, l1, l2⟩ := hBl7.e3; obtain ⟨v0, v1, v2, v3, v4, v5, v6, v7, v8, v9, v10, v11, v12⟩ := hBv7.e13; obtain ⟨r0, r1, r2, r3, r4, r5⟩ := hBr7.e6; have rf := hBr7.frozen; have rl := hBr7.lt; obtain ⟨s0, s1⟩ := hBs7.e2; have sf := hBs7.frozen; have sl := hBs7.lt; have g0 := hRB7.cell HX1a; have g1 := hRB7.cell HX2a; have gf := hRB7.frozen)
   refine NoPanic.normal ?_
   obtain ⟨W11, hW11⟩ : ∃ W11, W11 = w8.setCell ⟨D, 1, none⟩ (.slice (some ⟨g2, 0, none⟩) (T + 1) cap2) := ⟨_, rfl⟩
   try rw [← hW11]
   have B11 : Below w.heap.size w W11 := by subst hW11; exact (hbW.trans (b8.mono (by have hdz := HDZ.out; omega))).setCell (by show _ ≤ D; omega) _
   have hBm11 : BlockIs W11 w.heap.size [.int .i64 x0, .int .i64 x1, .slice a1 n1 c1, .slice a2 n2 c2, .slice (some ⟨g, 0, none⟩) n3 cap, .slice a4 n4 c4] 40 := by subst hW11; exact hBm7.other (by have hdz := HDZ.out; simp; omega) _
   have hBl11 : BlockIs W11 (w.heap.size + 1) [.int .i64 6, .int .i64 j, .int .i64 T] 44 := by subst hW11; exact hBl7.other (by have hdz := HDZ.out; simp; omega) _
   have hBv11 : BlockIs W11 (w.heap.size + 1 + 1) [.int .i64 v.n, .bool v.pe.en.ad.v6, .int .u64 v.pe.en.ad.hi, .int .u64 v.pe.en.ad.lo, .int .i64 v.pe.en.port, .bool v.pe.came, .int .i64 v.pe.since, .int .i64 v.pe.pts, .int .i64 v.pe.at_, .int .i64 v.pe.ping, .int .i64 v.pe.work, .slice oa nb oc, .slice ka nk kc] 54 := by subst hW11; exact hBv7.other (by have hdz := HDZ.out; simp; omega) _
   have hBr11 : BlockIs W11 (w.heap.size + 1 + 1 + 1) [.int .i64 0, .int .i64 0, .slice none 0 0, .slice none 0 0, .slice none 0 0, .slice none 0 0] 40 := by subst hW11; exact hBr7.other (by have hdz := HDZ.out; simp; omega) _
   have hBs11 : BlockIs W11 D [.int .i64 xs, .slice (some ⟨g2, 0, none⟩) (T + 1) cap2] 112 := by subst hW11; exact hBs7.set 1 _
   have hRB11 : BlockIs W11 g cur 112 := by subst hW11; exact hRB7.other (by have hdz := HDZ.out; simp; omega) _
   have hO12 : W11.ownsRow (D + 1) 52 10 (.slice (some ⟨g2, 0, none⟩) (T + 1) cap2) (x.l ++ [v.pe]).length ((x.l ++ [v.pe]).flatMap peV) := by
    rw [List.length_append, ← HXN.out, List.flatMap_append, show [v.pe].flatMap peV = peV v.pe by simp, ← HDZ.out]
    subst hW11
    exact owns_setB o8 hBs7 (fun e => by simp only [Value.ownBlock, Option.some.injEq] at e; have hdz := HDZ.out; omega)
   have HO12 := zh hO12
   clear hW11 hO12
   clear m0 m1 m2 m3 m4 m5 mf ml l0 l1 l2 v0 v1 v2 v3 v4 v5 v6 v7 v8 v9 v10 v11 v12 r0 r1 r2 r3 r4 r5 rf rl s0 s1 sf sl g0 g1 gf
   obtain ⟨m0, m1, m2, m3, m4, m5⟩ := hBm11.e6; have mf := hBm11.frozen; have ml := hBm11.lt; obtain ⟨l0, l1, l2⟩ := hBl11.e3; obtain ⟨v0, v1, v2, v3, v4, v5, v6, v7, v8, v9, v10, v11, v12⟩ := hBv11.e13; obtain ⟨r0, r1, r2, r3, r4, r5⟩ := hBr11.e6; have rf := hBr11.frozen; have rl := hBr11.lt; obtain ⟨s0, s1⟩ := hBs11.e2; have sf := hBs11.frozen; have sl := hBs11.lt; have g0 := hRB11.cell HX1a; have g1 := hRB11.cell HX2a; have gf := hRB11.frozen
   go_wp2_with fail
   refine bodyPost_named fun W9 h9 => ?_
   have hR9 : BlockIs W9 (w.heap.size + 1 + 1 + 1) [.int .i64 x0, .int .i64 x1, .slice a1 n1 c1, .slice a2 n2 c2, .slice (some ⟨g, 0, none⟩) n3 cap, .slice a4 n4 c4] 40 := by subst h9; exact rcx hBr11
   have b9 : Below w.heap.size w W9 := by subst h9; exact bel
   have hG9 : BlockIs W9 g ((cur.set (j * 2) (.int .i64 xs)).set (j * 2 + 1) (.slice (some ⟨g2, 0, none⟩) (T + 1) cap2)) 112 := by subst h9; exact rcx hRB11
   have HKE : Hid (∀ k arr u, D < k → BlockIs W11 k arr u → BlockIs W9 k arr u) := by
    subst h9
    unfold Hid
    intro k arr u hk hb
    have nB1 : w.heap.size + 1 + 1 + 1 ≠ k := by omega
    have nB2 : k ≠ w.heap.size + 1 + 1 + 1 := by omega
    have nB3 : g ≠ k := by omega
    have nB4 : k ≠ g := by omega
    have nB5 : D ≠ k := by omega
    have nB6 : k ≠ D := by omega
    exact rcx hb
   clear h9
   obtain ⟨e90, e91, e92, e93, e94, e95⟩ := hR9.e6
   exact bodyPost_ret (v := .agg #[.int .i64 x0, .int .i64 x1, .slice a1 n1 c1, .slice a2 n2 c2, .slice (some ⟨g, 0, none⟩) n3 cap, .slice a4 n4 c4]) (by simp [results, Tryz.results54, go_sem, e90, e91, e92, e93, e94, e95]) rfl ⟨⟨x0, x1, m.bans, m.book, (.slice (some ⟨g, 0, none⟩) n3 cap, m.parts.2.set j ⟨xs, .slice (some ⟨g2, 0, none⟩) (T + 1) cap2, x.l ++ [v.pe]⟩), m.locks⟩, (by simp only [E1.out, E2.out, E4.out, ← HN1.out, ← HN2.out, ← HN4.out]), (fun W h0 hkp => by
    have hmm := HM.out W h0
    have hx : shV ⟨xs, .slice (some ⟨g2, 0, none⟩) (T + 1) cap2, x.l ++ [v.pe]⟩ = [.int .i64 xs, .slice (some ⟨g2, 0, none⟩) (T + 1) cap2] := rfl
    have ho := owns_set2 shV_two hx (by exact HR.out) (by rw [← HN3.out]; exact HCUR.out) HJ.out (by rw [← HN3.out]; exact hnc) hcm (Nat.le_refl g) hG9
    have ho2 := owns_held ho fun g' arr hg hb => hkp g' arr _ (by omega) hb
    refine ⟨hmm.1, hmm.2.1, ⟨?_, fun q hq => ?_⟩, hmm.2.2.2⟩
    ·unfold ReadsL; rw [List.length_set]; rw [HN3.out]; exact owns_reads ho2
    ·rcases List.mem_or_eq_of_mem_set hq with hq | rfl
     ·exact hmm.2.2.1.2 q hq
     ·exact (owns_readsL (owns_held HO12.out fun g' arr hg hb => hkp g' arr _ (by have hdz := HDZ.out; omega) (HKE.out g' arr _ (by omega) hb)))), (by unfold Mm.pl setAt; simp only [if_pos q2, Int.toNat_natCast, List.map_set, HX0.out, HX1.out, HXS.out]), b9⟩
 ·go_simp
  refine hK.out _ _ (HSK.out _ (by exact bel)) (fun hS9 => ?_)
  clear hK K
  try simp only [Act.put, zg1, zg2, zg3, zs1, zs2, zs3]
  refine headH_one (i := 0) rfl rfl (by kernel_rfl) (fun K hK => ?_)
  go_simp
  refine hK.out _ _ (HSK.out _ (by exact bel)) (fun hS9 => ?_)
  clear hK K
  try simp only [Act.put, zg1, zg2, zg3, zs1, zs2, zs3]
  refine headH_one (i := 3) rfl rfl (by kernel_rfl) (fun K hK => ?_)
  have hown : World.ownsRow ((Wd.alloc (.cells #[.bool v.pe.en.ad.v6, .int .u64 v.pe.en.ad.hi, .int .u64 v.pe.en.ad.lo, .int .i64 v.pe.en.port, .bool v.pe.came, .int .i64 v.pe.since, .int .i64 v.pe.pts, .int .i64 v.pe.at_, .int .i64 v.pe.ping, .int .i64 v.pe.work] 52)).alloc (.cells #[] 52)) Wd.heap.size 52 10 (.slice (some ⟨Wd.heap.size + 1, 0, none⟩) 0 0) 0 [] := own_made (by simp) (by simp)
  have bq : Below Wd.heap.size Wd ((Wd.alloc (.cells #[.bool v.pe.en.ad.v6, .int .u64 v.pe.en.ad.hi, .int .u64 v.pe.en.ad.lo, .int .i64 v.pe.en.port, .bool v.pe.came, .int .i64 v.pe.since, .int .i64 v.pe.pts, .int .i64 v.pe.at_, .int .i64 v.pe.ping, .int .i64 v.pe.work] 52)).alloc (.cells #[] 52)) := by exact bel
  refine step_app_reads_at peRow (by rfl) (.tmp 63) (.tmp 65) (by rfl) Wd.heap.size (.slice (some ⟨Wd.heap.size + 1, 0, none⟩) 0 0) 0 [] (by rfl) hown _ T (x.l.flatMap peV) (by rfl) (HRW.out _ bq) (peV_ones _) (by omega) (by omega) (by first | omega | (simp; done) | (simp; omega)) ?_
  intro u1 w1 o1 gr1 a1'
  have bb1 : Below Wd.heap.size Wd w1 := below_grown hown bq (Nat.le_refl _) (by first | omega | (simp; done) | (simp; omega)) gr1
  rw [Nat.zero_add, List.nil_append] at o1
  obtain ⟨w3, hw3⟩ : ∃ w3, w3 = w1 := ⟨_, rfl⟩
  have hP3 : BlockIs w3 Wd.heap.size [.bool v.pe.en.ad.v6, .int .u64 v.pe.en.ad.hi, .int .u64 v.pe.en.ad.lo, .int .i64 v.pe.en.port, .bool v.pe.came, .int .i64 v.pe.since, .int .i64 v.pe.pts, .int .i64 v.pe.at_, .int .i64 v.pe.ping, .int .i64 v.pe.work] 52 := by subst hw3; exact blk_grown (show BlockIs _ Wd.heap.size [.bool v.pe.en.ad.v6, .int .u64 v.pe.en.ad.hi, .int .u64 v.pe.en.ad.lo, .int .i64 v.pe.en.port, .bool v.pe.came, .int .i64 v.pe.since, .int .i64 v.pe.pts, .int .i64 v.pe.at_, .int .i64 v.pe.ping, .int .i64 v.pe.work] 52 from (BlockIs.new Wd [.bool v.pe.en.ad.v6, .int .u64 v.pe.en.ad.hi, .int .u64 v.pe.en.ad.lo, .int .i64 v.pe.en.port, .bool v.pe.came, .int .i64 v.pe.since, .int .i64 v.pe.pts, .int .i64 v.pe.at_, .int .i64 v.pe.ping, .int .i64 v.pe.work] _).alloc' _) gr1 (by simp [Value.ownBlock])
  have o3 : w3.ownsRow Wd.heap.size 52 10 u1 T (x.l.flatMap peV) := by subst hw3; exact o1
  have bb3 : Below Wd.heap.size Wd w3 := by subst hw3; exact bb1
  rw [← hw3]
  clear hw3
  refine hK.out _ _ (HSK.out _ bb3) (fun hS9 => ?_)
  clear hK K
  try simp only [Act.put, zg1, zg2, zg3, zs1, zs2, zs3]
  have o3' := o3; have HP3 := zh hP3
  refine headH_done (by kernel_rfl) ?_
  simp only [List.drop_succ_cons, List.drop_zero]
  have hBm6 := hdm.below bb3; have hBl6 := hdl.below bb3; have hBv6 := hdv.below bb3; have hBr6 := hdr.below bb3; have hBs6 := hds.below bb3; have hRB6 := hdg.below bb3
  have zz3 := bb3.size
  obtain ⟨m0, m1, m2, m3, m4, m5⟩ := hBm6.e6; have mf := hBm6.frozen; have ml := hBm6.lt; obtain ⟨l0, l1, l2⟩ := hBl6.e3; obtain ⟨v0, v1, v2, v3, v4, v5, v6, v7, v8, v9, v10, v11, v12⟩ := hBv6.e13; obtain ⟨r0, r1, r2, r3, r4, r5⟩ := hBr6.e6; have rf := hBr6.frozen; have rl := hBr6.lt; obtain ⟨s0, s1⟩ := hBs6.e2; have sf := hBs6.frozen; have sl := hBs6.lt; have g0 := hRB6.cell HX1a; have g1 := hRB6.cell HX2a; have gf := hRB6.frozen
  go_wp2_with (at_builtin; refine list_app_reads_at peRow rfl (.tmp 66) (.tmp 69) rfl Wd.heap.size u1 T (x.l.flatMap peV) rfl o3 _ 1 (peV v.pe) rfl (reads_blk (T := 52) HP3.out rfl (Nat.succ_pos 9)) (peV_one1 _) (by omega) (by omega) zz3 ?_; intro v8w w8 o8 g8 a8; have b8 : Below Wd.heap.size Wd w8 := below_grown o3 bb3 (Nat.le_refl _) zz3 g8; obtain ⟨g2, cap2, rfl⟩ := owns_sliceP o8 (Nat.succ_pos _); have zz8 := b8.size; have hBm7 := hdm.below b8; have hBl7 := hdl.below b8; have hBv7 := hdv.below b8; have hBr7 := hdr.below b8; have hBs7 := hds.below b8; have hRB7 := hdg.below b8; have hg2 := o8.lt g2 rfl; clear m0 m1 m2 m3 m4 m5 mf ml l0 l1 l2 v0 v1 v2 v3 v4 v5 v6 v7 v8 v9 v10 v11 v12 r0 r1 r2 r3 r4 r5 rf rl s0 s1 sf sl g0 g1 gf; obtain ⟨m0, m1, m2, m3, m4, m5⟩ := hBm7.e6; have mf := hBm7.frozen; have ml := hBm7.lt; obtain ⟨l0, l1, l2⟩ := hBl7.e3; obtain ⟨v0, v1, v2, v3, v4, v5, v6, v7, v8, v9, v10, v11, v12⟩ := hBv7.e13; obtain ⟨r0, r1, r2, r3, r4, r5⟩ := hBr7.e6; have rf := hBr7.frozen; have rl := hBr7.lt; obtain ⟨s0, s1⟩ := hBs7.e2; have sf := hBs7.frozen; have sl := hBs7.lt; have g0 := hRB7.cell HX1a; have g1 := hRB7.cell HX2a; have gf := hRB7.frozen)
  refine NoPanic.normal ?_
  obtain ⟨W11, hW11⟩ : ∃ W11, W11 = w8.setCell ⟨D, 1, none⟩ (.slice (some ⟨g2, 0, none⟩) (T + 1) cap2) := ⟨_, rfl⟩
  try rw [← hW11]
  have B11 : Below w.heap.size w W11 := by subst hW11; exact (hbW.trans (b8.mono (by have hdz := HDZ.out; omega))).setCell (by show _ ≤ D; omega) _
  have hBm11 : BlockIs W11 w.heap.size [.int .i64 x0, .int .i64 x1, .slice a1 n1 c1, .slice a2 n2 c2, .slice (some ⟨g, 0, none⟩) n3 cap, .slice a4 n4 c4] 40 := by subst hW11; exact hBm7.other (by have hdz := HDZ.out; simp; omega) _
  have hBl11 : BlockIs W11 (w.heap.size + 1) [.int .i64 6, .int .i64 j, .int .i64 T] 44 := by subst hW11; exact hBl7.other (by have hdz := HDZ.out; simp; omega) _
  have hBv11 : BlockIs W11 (w.heap.size + 1 + 1) [.int .i64 v.n, .bool v.pe.en.ad.v6, .int .u64 v.pe.en.ad.hi, .int .u64 v.pe.en.ad.lo, .int .i64 v.pe.en.port, .bool v.pe.came, .int .i64 v.pe.since, .int .i64 v.pe.pts, .int .i64 v.pe.at_, .int .i64 v.pe.ping, .int .i64 v.pe.work, .slice oa nb oc, .slice ka nk kc] 54 := by subst hW11; exact hBv7.other (by have hdz := HDZ.out; simp; omega) _
  have hBr11 : BlockIs W11 (w.heap.size + 1 + 1 + 1) [.int .i64 0, .int .i64 0, .slice none 0 0, .slice none 0 0, .slice none 0 0, .slice none 0 0] 40 := by subst hW11; exact hBr7.other (by have hdz := HDZ.out; simp; omega) _
  have hBs11 : BlockIs W11 D [.int .i64 xs, .slice (some ⟨g2, 0, none⟩) (T + 1) cap2] 112 := by subst hW11; exact hBs7.set 1 _
  have hRB11 : BlockIs W11 g cur 112 := by subst hW11; exact hRB7.other (by have hdz := HDZ.out; simp; omega) _
  have hO12 : W11.ownsRow (D + 1) 52 10 (.slice (some ⟨g2, 0, none⟩) (T + 1) cap2) (x.l ++ [v.pe]).length ((x.l ++ [v.pe]).flatMap peV) := by
   rw [List.length_append, ← HXN.out, List.flatMap_append, show [v.pe].flatMap peV = peV v.pe by simp, ← HDZ.out]
   subst hW11
   exact owns_setB o8 hBs7 (fun e => by simp only [Value.ownBlock, Option.some.injEq] at e; have hdz := HDZ.out; omega)
  have HO12 := zh hO12
  clear hW11 hO12
  clear m0 m1 m2 m3 m4 m5 mf ml l0 l1 l2 v0 v1 v2 v3 v4 v5 v6 v7 v8 v9 v10 v11 v12 r0 r1 r2 r3 r4 r5 rf rl s0 s1 sf sl g0 g1 gf
  obtain ⟨m0, m1, m2, m3, m4, m5⟩ := hBm11.e6; have mf := hBm11.frozen; have ml := hBm11.lt; obtain ⟨l0, l1, l2⟩ := hBl11.e3; obtain ⟨v0, v1, v2, v3, v4, v5, v6, v7, v8, v9, v10, v11, v12⟩ := hBv11.e13; obtain ⟨r0, r1, r2, r3, r4, r5⟩ := hBr11.e6; have rf := hBr11.frozen; have rl := hBr11.lt; obtain ⟨s0, s1⟩ := hBs11.e2; have sf := hBs11.frozen; have sl := hBs11.lt; have g0 := hRB11.cell HX1a; have g1 := hRB11.cell HX2a; have gf := hRB11.frozen
  go_wp2_with fail
  refine bodyPost_named fun W9 h9 => ?_
  have hR9 : BlockIs W9 (w.heap.size + 1 + 1 + 1) [.int .i64 x0, .int .i64 x1, .slice a1 n1 c1, .slice a2 n2 c2, .slice (some ⟨g, 0, none⟩) n3 cap, .slice a4 n4 c4] 40 := by subst h9; exact rcx hBr11
  have b9 : Below w.heap.size w W9 := by subst h9; exact bel
  have hG9 : BlockIs W9 g ((cur.set (j * 2) (.int .i64 xs)).set (j * 2 + 1) (.slice (some ⟨g2, 0, none⟩) (T + 1) cap2)) 112 := by subst h9; exact rcx hRB11
  have HKE : Hid (∀ k arr u, D < k → BlockIs W11 k arr u → BlockIs W9 k arr u) := by
   subst h9
   unfold Hid
   intro k arr u hk hb
   have nB1 : w.heap.size + 1 + 1 + 1 ≠ k := by omega
   have nB2 : k ≠ w.heap.size + 1 + 1 + 1 := by omega
   have nB3 : g ≠ k := by omega
   have nB4 : k ≠ g := by omega
   have nB5 : D ≠ k := by omega
   have nB6 : k ≠ D := by omega
   exact rcx hb
  clear h9
  obtain ⟨e90, e91, e92, e93, e94, e95⟩ := hR9.e6
  exact bodyPost_ret (v := .agg #[.int .i64 x0, .int .i64 x1, .slice a1 n1 c1, .slice a2 n2 c2, .slice (some ⟨g, 0, none⟩) n3 cap, .slice a4 n4 c4]) (by simp [results, Tryz.results54, go_sem, e90, e91, e92, e93, e94, e95]) rfl ⟨⟨x0, x1, m.bans, m.book, (.slice (some ⟨g, 0, none⟩) n3 cap, m.parts.2.set j ⟨xs, .slice (some ⟨g2, 0, none⟩) (T + 1) cap2, x.l ++ [v.pe]⟩), m.locks⟩, (by simp only [E1.out, E2.out, E4.out, ← HN1.out, ← HN2.out, ← HN4.out]), (fun W h0 hkp => by
   have hmm := HM.out W h0
   have hx : shV ⟨xs, .slice (some ⟨g2, 0, none⟩) (T + 1) cap2, x.l ++ [v.pe]⟩ = [.int .i64 xs, .slice (some ⟨g2, 0, none⟩) (T + 1) cap2] := rfl
   have ho := owns_set2 shV_two hx (by exact HR.out) (by rw [← HN3.out]; exact HCUR.out) HJ.out (by rw [← HN3.out]; exact hnc) hcm (Nat.le_refl g) hG9
   have ho2 := owns_held ho fun g' arr hg hb => hkp g' arr _ (by omega) hb
   refine ⟨hmm.1, hmm.2.1, ⟨?_, fun q hq => ?_⟩, hmm.2.2.2⟩
   ·unfold ReadsL; rw [List.length_set]; rw [HN3.out]; exact owns_reads ho2
   ·rcases List.mem_or_eq_of_mem_set hq with hq | rfl
    ·exact hmm.2.2.1.2 q hq
    ·exact (owns_readsL (owns_held HO12.out fun g' arr hg hb => hkp g' arr _ (by have hdz := HDZ.out; omega) (HKE.out g' arr _ (by omega) hb)))), (by unfold Mm.pl setAt; simp only [if_pos q2, Int.toNat_natCast, List.map_set, HX0.out, HX1.out, HXS.out]), b9⟩
theorem opRight_store {o : Oq} {n : Nat} (h : opRight o n = true) (hk : o.kind = 6) : 2 < o.lk := by
 unfold opRight at h
 rw [Bool.and_eq_true] at h
 simp [hk] at h
 omega
theorem refStore_any (w0 : World → Prop) (hg : Grows w0) (B : Nat) (m : Mm) (k s t : Int) (v : Vm) (w : World) (hb0 : w0 w) (hB : B ≤ w.heap.size) (hm : ∀ W, w0 W → MmAt W m) (hv : ∀ W, w0 W → VmAt W v) (hk : 2 < k ∧ k ≤ 6) (hl : m.parts.2.length ≤ 1000)
  (hs : k = 5 ∨ k = 6 → 0 ≤ s ∧ s < (m.parts.2.length : Int)) (ht : k = 6 → 0 ≤ t) (hN : (shOf m s).l.length ≤ 100000) :
  Calls Tryz.prog 54 #[.agg #[.int .i64 m.inn, .int .i64 m.out, m.bans.1, m.book.1, m.parts.1, m.locks.1], .agg #[.int .i64 k, .int .i64 s, .int .i64 t], .agg #[.int .i64 v.n, .bool v.pe.en.ad.v6, .int .u64 v.pe.en.ad.hi, .int .u64 v.pe.en.ad.lo, .int .i64 v.pe.en.port, .bool v.pe.came, .int .i64 v.pe.since, .int .i64 v.pe.pts, .int .i64 v.pe.at_, .int .i64 v.pe.ping, .int .i64 v.pe.work, v.bans.1, v.book.1]] w (GivesMs w0 B w (storeP m.pl k s t v.pl)) := by
 rcases (show k = 3 ∨ k = 4 ∨ k = 5 ∨ k = 6 by omega) with rfl | rfl | rfl | rfl
 ·exact refStore_3 w0 hg B m s t v w hb0 hB hm hv
 ·exact refStore_4 w0 hg B m s t v w hb0 hB hm hv
 ·exact refStore_5 w0 hg B m s t v w hb0 hB hm hv (hs (Or.inl rfl)) hl
 ·have hs := hs (Or.inr rfl)
  have ht := ht rfl
  rcases Int.lt_trichotomy t ((shOf m s).l.length : Int) with ho | ho | ho
  ·exact refStore_6in w0 hg B m s t v w hb0 hB hm hv hs hl ht ho hN
  ·exact refStore_6end w0 hg B m s t v w hb0 hB hm hv hs hl ht ho hN
  ·exact refStore_6over w0 hg B m s t v w hb0 hB hm hv hs hl ho
set_option maxHeartbeats 16000000 in
theorem refDo_no (w0 : World → Prop) (hg : Grows w0) (B : Nat) (m : Mm) (o : Oq) (who : Int) (w : World) (hb0 : w0 w) (hB : B ≤ w.heap.size) (hm : ∀ W, w0 W → MmAt W m) (hok : ∀ W, w0 W → OqAt W o) (hmay : mayP m.pl o = false) :
  DoC 15 w0 B m o who w := by
 unfold DoC
 have hres : doP m.pl o who = (m.pl, zeroVp) := by unfold doP; exact if_pos hmay
 rw [hres]
 clear hres
 unfold GivesDo
 have h := hm w hb0
 have ho := hok w hb0
 obtain ⟨HM, HG, HOK⟩ := zh3 hm hg hok
 have HMAY := zh (fun (W : World) (hb : Below w.heap.size w W) => refMay_any m o W (h.below hb) (ho.below hb))
 rw [hmay] at HMAY
 have HL := zh (fun (W : World) (hb : Below w.heap.size w W) => refLock_any m o.lock W (h.below hb))
 have HLK := zh (fun (W : World) (hW : w0 W) => lkOf_at (hm W hW) o.lock)
 skip
 obtain ⟨_, qa, qc, eq, _⟩ := ins_open (lkOf_at h o.lock)
 obtain ⟨a1, a2, a3, a4, c1, c2, c3, c4, e1, e2, e3, e4⟩ := mm_slices h
 obtain ⟨_, oa, oc, eo, _⟩ := ba_open ho.1
 obtain ⟨_, ka, kc, ek, _⟩ := ey_open ho.2
 have hmm := zmm e1 e2 e3 e4
 have HMM := zh hmm
 obtain ⟨E1, E2, E3, E4, EQ, EO, EK⟩ := zh7 e1 e2 e3 e4 eq eo ek
 simp only [e1, e2, e3, e4, eo, ek, eq] at HMAY HL 
 rw [e1, e2, e3, e4, eo, ek]
 clear e1 e2 e3 e4 eo ek hmm eq
 obtain ⟨x0, hx0, x1, hx1, n1, hn1, n2, hn2, n3, hn3, n4, hn4, nb, hnb, nk, hnk, qn, hqn, qb, hqb⟩ := nz10 m.inn m.out m.bans.2.length m.book.2.length m.parts.2.length m.locks.2.length o.bans.2.length o.book.2.length ((lkOf m o.lock).l.length) ((lkOf m o.lock).b)
 simp only [← hx0, ← hx1, ← hn1, ← hn2, ← hn3, ← hn4, ← hnb, ← hnk, ← hqn, ← hqb] at HMAY HL  ⊢
 rw [← hx0, ← hx1, ← hn1, ← hn2, ← hn3, ← hn4] at HMM
 skip
 obtain ⟨HX0, HX1, HN1, HN2, HN3, HN4, HNB, HNK, HQN, HQB⟩ := zh10 hx0 hx1 hn1 hn2 hn3 hn4 hnb hnk hqn hqb
 clear h ho hm hok hg hmay hx0 hx1 hn1 hn2 hn3 hn4 hnb hnk hqn hqb 
 go_enter Tryz.func15, Tryz.ntmps15
 go_upto_region 1 with fail
 refine wpn4 fun W5 B5 hBm hBo hBr hBv hs5 => ?_
 obtain ⟨m0, m1, m2, m3, m4, m5⟩ := hBm.e6
 have HBo := zh hBo
 go_wp2_with (first
  | (refine list_load_blk rfl 56 _ rfl (w.heap.size + 1) _ 56 hBo rfl Tryz.underlying56 (by kernel_rfl) ?_)
  | (go_at_call 13; (with_reducible refine (HMAY.out _ B5).mono ?_); rintro e w1 ⟨rfl, b1⟩; have z1 := b1.size; have B6 := below2 B5 b1; have hBm1 := hBm.below b1; have hBo1 := hBo.below b1; have hBr1 := hBr.below b1; have hBv1 := hBv.below b1; clear m0 m1 m2 m3 m4 m5; obtain ⟨m0, m1, m2, m3, m4, m5⟩ := hBm1.e6; have mf := hBm1.frozen; have ml := hBm1.lt)
  | (refine list_store_blk rfl 40 _ _ rfl (w.heap.size + 1 + 1) _ _ 40 hBr1 rfl rfl (by kernel_rfl) rfl (by simp [Value.oneCell']) w.heap.size w B6 (by omega) ?_; intro w20 hR20 hoth20 hsz20 bw20)
  | (refine list_store_blk rfl 54 _ _ rfl (w.heap.size + 1 + 1 + 1) _ _ 54 (hoth20 _ _ _ (by omega) hBv1) rfl rfl (by kernel_rfl) rfl (by simp [Value.oneCell']) w.heap.size w bw20 (by omega) ?_; intro w21 hV21 hoth21 hsz21 bw21))
 have hR21 := hoth21 _ _ _ (by omega) hR20
 obtain ⟨e90, e91, e92, e93, e94, e95⟩ := hR21.e6; obtain ⟨f90, f91, f92, f93, f94, f95, f96, f97, f98, f99, f910, f911, f912⟩ := hV21.e13
 exact bodyPost_ret (v := .tuple #[.agg #[.int .i64 x0, .int .i64 x1, .slice a1 n1 c1, .slice a2 n2 c2, .slice a3 n3 c3, .slice a4 n4 c4], .agg #[.int .i64 0, .bool false, .int .u64 0, .int .u64 0, .int .i64 0, .bool false, .int .i64 0, .int .i64 0, .int .i64 0, .int .i64 0, .int .i64 0, .slice none 0 0, .slice none 0 0]]) (by simp [results, Tryz.results15, go_sem, e90, e91, e92, e93, e94, e95, f90, f91, f92, f93, f94, f95, f96, f97, f98, f99, f910, f911, f912]) rfl ⟨m, zeroVm, (by rw [HMM.out]; rfl), (Firm.old HM.out), (Firm.old fun W _ => zeroVm_at W), rfl, rfl, bw21⟩

set_option maxHeartbeats 16000000 in
theorem refDo_1 (w0 : World → Prop) (hg : Grows w0) (B : Nat) (m : Mm) (o : Oq) (who : Int) (w : World) (hb0 : w0 w) (hB : B ≤ w.heap.size) (hm : ∀ W, w0 W → MmAt W m) (hok : ∀ W, w0 W → OqAt W o) (hwho : 0 ≤ who ∧ who ≤ 100) (hmay : mayP m.pl o = true) (hk : o.kind = 1) (hll : m.locks.2.length = m.parts.2.length + 2) (hlen : m.locks.2.length ≤ 1000) :
  DoC 15 w0 B m o who w := by
 unfold DoC
 have hres : doP m.pl o who = (lockedP m.pl o.lock (who + 1, (lockP m.pl o.lock).2), zeroVp) := by unfold doP; rw [if_neg (by rw [hmay]; simp), if_pos hk]
 rw [hres]
 clear hres
 unfold GivesDo
 have h := hm w hb0
 have ho := hok w hb0
 obtain ⟨HM, HG, HOK⟩ := zh3 hm hg hok
 have HMAY := zh (fun (W : World) (hb : Below w.heap.size w W) => refMay_any m o W (h.below hb) (ho.below hb))
 rw [hmay] at HMAY
 have HL := zh (fun (W : World) (hb : Below w.heap.size w W) => refLock_any m o.lock W (h.below hb))
 have HLK := zh (fun (W : World) (hW : w0 W) => lkOf_at (hm W hW) o.lock)
 obtain ⟨n, hln, hn⟩ := lock_nat hmay (by omega) hll
 have HLD := zh (fun (B' : Nat) (W : World) (k : Lk) (hW : B' ≤ W.heap.size) (hK : Firm w0 B' W fun W => ReadsL inV 1 W k.v k.l) (hb : Below w.heap.size w W) => ref_with_in w0 hg B' m n k W (hg _ _ hb0 hb) hW hm hK hn hlen)
 have HN := zh hn
 obtain ⟨_, qa, qc, eq, _⟩ := ins_open (lkOf_at h o.lock)
 obtain ⟨a1, a2, a3, a4, c1, c2, c3, c4, e1, e2, e3, e4⟩ := mm_slices h
 obtain ⟨_, oa, oc, eo, _⟩ := ba_open ho.1
 obtain ⟨_, ka, kc, ek, _⟩ := ey_open ho.2
 have hmm := zmm e1 e2 e3 e4
 have HMM := zh hmm
 obtain ⟨E1, E2, E3, E4, EQ, EO, EK⟩ := zh7 e1 e2 e3 e4 eq eo ek
 simp only [e1, e2, e3, e4, eo, ek, eq] at HMAY HL HLD
 rw [e1, e2, e3, e4, eo, ek]
 clear e1 e2 e3 e4 eo ek hmm eq
 obtain ⟨x0, hx0, x1, hx1, n1, hn1, n2, hn2, n3, hn3, n4, hn4, nb, hnb, nk, hnk, qn, hqn, qb, hqb⟩ := nz10 m.inn m.out m.bans.2.length m.book.2.length m.parts.2.length m.locks.2.length o.bans.2.length o.book.2.length ((lkOf m o.lock).l.length) ((lkOf m o.lock).b)
 simp only [← hx0, ← hx1, ← hn1, ← hn2, ← hn3, ← hn4, ← hnb, ← hnk, ← hqn, ← hqb] at HMAY HL HLD ⊢
 rw [← hx0, ← hx1, ← hn1, ← hn2, ← hn3, ← hn4] at HMM
 simp only [hln, hk] at HMAY HL ⊢
 have HLN := zh hln
 have hwr : IntKind.i64.wrap (who + 1) = who + 1 := by rw [IntKind.wrap_i64]; omega
 obtain ⟨HX0, HX1, HN1, HN2, HN3, HN4, HNB, HNK, HQN, HQB⟩ := zh10 hx0 hx1 hn1 hn2 hn3 hn4 hnb hnk hqn hqb
 clear h ho hm hok hg hmay hx0 hx1 hn1 hn2 hn3 hn4 hnb hnk hqn hqb hk hll hlen hn hln hwho
 go_enter Tryz.func15, Tryz.ntmps15
 go_upto_region 1 with fail
 refine wpn4 fun W5 B5 hBm hBo hBr hBv hs5 => ?_
 obtain ⟨m0, m1, m2, m3, m4, m5⟩ := hBm.e6
 have HBo := zh hBo
 go_upto_region 4 with (first
  | (refine list_load_blk rfl 56 _ rfl (w.heap.size + 1) _ 56 hBo rfl Tryz.underlying56 (by kernel_rfl) ?_)
  | (go_at_call 13; (with_reducible refine (HMAY.out _ B5).mono ?_); rintro e w1 ⟨rfl, b1⟩; have z1 := b1.size; have B6 := below2 B5 b1; have hBm1 := hBm.below b1; have hBo1 := hBo.below b1; have hBr1 := hBr.below b1; have hBv1 := hBv.below b1; clear m0 m1 m2 m3 m4 m5; obtain ⟨m0, m1, m2, m3, m4, m5⟩ := hBm1.e6; have mf := hBm1.frozen; have ml := hBm1.lt; obtain ⟨o0, o1⟩ := hBo1.e2)
  | (go_at_call 41; (with_reducible refine (HL.out _ B6).mono ?_); rintro e w2 ⟨rfl, b2⟩; have z2 := b2.size; have B7 := below2 B6 b2; have hBm2 := hBm1.below b2; have hBo2 := hBo1.below b2; have hBr2 := hBr1.below b2; have hBv2 := hBv1.below b2; clear m0 m1 m2 m3 m4 m5 mf ml o0 o1))
 refine wpn1 fun W3 bW2 hBl3 hs3 => ?_
 have B8 := below2 B7 bW2
 have hBm3 := hBm2.below bW2
 have hBo3 := hBo2.below bW2
 have hBr3 := hBr2.below bW2
 have hBv3 := hBv2.below bW2
 have hz3 : w.heap.size + 1 + 1 + 1 + 1 ≤ w2.heap.size := by omega
 clear hBm1 hBo1 hBr1 hBv1 hBm2 hBo2 hBr2 hBv2 hBm hBr hBv hBo
 obtain ⟨m0, m1, m2, m3, m4, m5⟩ := hBm3.e6; have mf := hBm3.frozen; have ml := hBm3.lt; obtain ⟨o0, o1⟩ := hBo3.e2; obtain ⟨l0, l1⟩ := hBl3.e2; have lf := hBl3.frozen; have ll := hBl3.lt
 go_wp2_with (first
  | (go_at_call 50; (with_reducible refine (HLD.out (w2.heap.size + 1) _ ⟨who + 1, .slice qa qn qc, (lkOf m o.lock).l⟩ (by first | omega | (simp; omega)) (by rw [HQN.out, ← EQ.out]; exact Firm.old fun W hW => HLK.out W hW) (by exact bel)).mono ?_); rintro e w7 ⟨v7, rfl, hM7, b7⟩; have HM7 := zh hM7; have z7 := b7.size; have B9 := below2 (w := w) (by exact bel) b7; obtain ⟨_, a6, c6, e6, _⟩ := lks_open (hM7.now (HG.out _ _ hb0 B9)).2.2.2.1; simp only [List.length_set] at e6; rw [← HN4.out] at e6; have E6 := zh e6; subst e6; have hBr7 := (show BlockIs _ (w.heap.size + 1 + 1) [.int .i64 0, .int .i64 0, .slice none 0 0, .slice none 0 0, .slice none 0 0, .slice none 0 0] 40 from (by exact rcx hBr3)).below b7; have hBv7 := (show BlockIs _ (w.heap.size + 1 + 1 + 1) [.int .i64 0, .bool false, .int .u64 0, .int .u64 0, .int .i64 0, .bool false, .int .i64 0, .int .i64 0, .int .i64 0, .int .i64 0, .int .i64 0, .slice none 0 0, .slice none 0 0] 54 from (by exact rcx hBv3)).below b7)
  | (refine list_store_blk rfl 40 _ _ rfl (w.heap.size + 1 + 1) _ _ 40 hBr7 rfl rfl (by kernel_rfl) rfl (by simp [Value.oneCell']) w.heap.size w B9 (by omega) ?_; intro w20 hR20 hoth20 hsz20 bw20)
  | (refine list_store_blk rfl 54 _ _ rfl (w.heap.size + 1 + 1 + 1) _ _ 54 (hoth20 _ _ _ (by omega) hBv7) rfl rfl (by kernel_rfl) rfl (by simp [Value.oneCell']) w.heap.size w bw20 (by omega) ?_; intro w21 hV21 hoth21 hsz21 bw21))
 have hR21 := hoth21 _ _ _ (by omega) hR20
 have HF := zh ((Firm.keep HM7.out (fun g arr T h1 hb => hoth21 _ _ _ (by omega) (hoth20 _ _ _ (by omega) hb))).from (by omega : B ≤ w2.heap.size + 1))
 obtain ⟨e90, e91, e92, e93, e94, e95⟩ := hR21.e6; obtain ⟨f90, f91, f92, f93, f94, f95, f96, f97, f98, f99, f910, f911, f912⟩ := hV21.e13
 exact bodyPost_ret (v := .tuple #[.agg #[.int .i64 x0, .int .i64 x1, .slice a1 n1 c1, .slice a2 n2 c2, .slice a3 n3 c3, .slice a6 n4 c6], .agg #[.int .i64 0, .bool false, .int .u64 0, .int .u64 0, .int .i64 0, .bool false, .int .i64 0, .int .i64 0, .int .i64 0, .int .i64 0, .int .i64 0, .slice none 0 0, .slice none 0 0]]) (by simp [results, Tryz.results15, go_sem, e90, e91, e92, e93, e94, e95, f90, f91, f92, f93, f94, f95, f96, f97, f98, f99, f910, f911, f912]) rfl ⟨⟨x0, x1, m.bans, m.book, m.parts, (.slice a6 n4 c6, m.locks.2.set n ⟨who + 1, .slice qa qn qc, (lkOf m o.lock).l⟩)⟩, zeroVm, (by first | (simp only [E1.out, E2.out, E3.out, ← HN1.out, ← HN2.out, ← HN3.out]; done) | (simp only [E1.out, E2.out, E3.out, ← HN1.out, ← HN2.out, ← HN3.out]; rfl)), (by rw [HX0.out, HX1.out]; exact HF.out), (Firm.old fun W _ => zeroVm_at W), (by rw [← HLN.out, lkOf_pl]; unfold Mm.pl lockedP setAt; simp only [HLN.out, if_pos (Int.natCast_nonneg n), Int.toNat_natCast, List.map_set, HX0.out, HX1.out]), rfl, bw21⟩

set_option maxHeartbeats 16000000 in
theorem refDo_2 (w0 : World → Prop) (hg : Grows w0) (B : Nat) (m : Mm) (o : Oq) (who : Int) (w : World) (hb0 : w0 w) (hB : B ≤ w.heap.size) (hm : ∀ W, w0 W → MmAt W m) (hok : ∀ W, w0 W → OqAt W o) (hwho : 0 ≤ who ∧ who ≤ 100) (hmay : mayP m.pl o = true) (hk : o.kind = 2) (hll : m.locks.2.length = m.parts.2.length + 2) (hlen : m.locks.2.length ≤ 1000) (hsq : ∀ k ∈ m.pl.locks, k.2.Pairwise (· < ·)) (hql : (lkOf m o.lock).l.length ≤ 1000) :
  DoC 15 w0 B m o who w := by
 unfold DoC
 have hres : doP m.pl o who = (lockedP m.pl o.lock ((lockP m.pl o.lock).1, riseP (lockP m.pl o.lock).2 who), zeroVp) := by unfold doP; rw [if_neg (by rw [hmay]; simp), if_neg (by omega), if_pos hk]
 rw [hres]
 clear hres
 unfold GivesDo
 have h := hm w hb0
 have ho := hok w hb0
 obtain ⟨HM, HG, HOK⟩ := zh3 hm hg hok
 have HMAY := zh (fun (W : World) (hb : Below w.heap.size w W) => refMay_any m o W (h.below hb) (ho.below hb))
 rw [hmay] at HMAY
 have HL := zh (fun (W : World) (hb : Below w.heap.size w W) => refLock_any m o.lock W (h.below hb))
 have HLK := zh (fun (W : World) (hW : w0 W) => lkOf_at (hm W hW) o.lock)
 obtain ⟨n, hln, hn⟩ := lock_nat hmay (by omega) hll
 have HLD := zh (fun (B' : Nat) (W : World) (k : Lk) (hW : B' ≤ W.heap.size) (hK : Firm w0 B' W fun W => ReadsL inV 1 W k.v k.l) (hb : Below w.heap.size w W) => ref_with_in w0 hg B' m n k W (hg _ _ hb0 hb) hW hm hK hn hlen)
 have HN := zh hn
 have hsr : (lkOf m o.lock).l.Pairwise (· < ·) := by
  rcases getAt_mem (l := m.pl.locks) (k := o.lock) (d := ((0 : Int), ([] : List Int))) with e | e
  ·have := hsq _ e; rw [show getAt m.pl.locks o.lock (0, []) = lockP m.pl o.lock from rfl, lkOf_pl] at this; exact this
  ·rw [show getAt m.pl.locks o.lock (0, []) = lockP m.pl o.lock from rfl, lkOf_pl] at e; rw [(Prod.mk.inj e).2]; exact List.Pairwise.nil
 have HSH := zh (fun (W : World) (hb : Below w.heap.size w W) => refRising_any (lkOf m o.lock).v (lkOf m o.lock).l who W (ReadsL.below (lkOf_at h o.lock) hb) hsr (by omega))
 obtain ⟨_, qa, qc, eq, _⟩ := ins_open (lkOf_at h o.lock)
 obtain ⟨a1, a2, a3, a4, c1, c2, c3, c4, e1, e2, e3, e4⟩ := mm_slices h
 obtain ⟨_, oa, oc, eo, _⟩ := ba_open ho.1
 obtain ⟨_, ka, kc, ek, _⟩ := ey_open ho.2
 have hmm := zmm e1 e2 e3 e4
 have HMM := zh hmm
 obtain ⟨E1, E2, E3, E4, EQ, EO, EK⟩ := zh7 e1 e2 e3 e4 eq eo ek
 simp only [e1, e2, e3, e4, eo, ek, eq] at HMAY HL HLD HSH
 rw [e1, e2, e3, e4, eo, ek]
 clear e1 e2 e3 e4 eo ek hmm eq
 obtain ⟨x0, hx0, x1, hx1, n1, hn1, n2, hn2, n3, hn3, n4, hn4, nb, hnb, nk, hnk, qn, hqn, qb, hqb⟩ := nz10 m.inn m.out m.bans.2.length m.book.2.length m.parts.2.length m.locks.2.length o.bans.2.length o.book.2.length ((lkOf m o.lock).l.length) ((lkOf m o.lock).b)
 simp only [← hx0, ← hx1, ← hn1, ← hn2, ← hn3, ← hn4, ← hnb, ← hnk, ← hqn, ← hqb] at HMAY HL HLD HSH ⊢
 rw [← hx0, ← hx1, ← hn1, ← hn2, ← hn3, ← hn4] at HMM
 simp only [hln, hk] at HMAY HL ⊢
 have HLN := zh hln
 have hwr : IntKind.i64.wrap (who + 1) = who + 1 := by rw [IntKind.wrap_i64]; omega
 obtain ⟨HX0, HX1, HN1, HN2, HN3, HN4, HNB, HNK, HQN, HQB⟩ := zh10 hx0 hx1 hn1 hn2 hn3 hn4 hnb hnk hqn hqb
 clear h ho hm hok hg hmay hx0 hx1 hn1 hn2 hn3 hn4 hnb hnk hqn hqb hk hll hlen hn hln hwho hql hsq hsr
 go_enter Tryz.func15, Tryz.ntmps15
 go_upto_region 1 with fail
 refine wpn4 fun W5 B5 hBm hBo hBr hBv hs5 => ?_
 obtain ⟨m0, m1, m2, m3, m4, m5⟩ := hBm.e6
 have HBo := zh hBo
 go_upto_region 4 with (first
  | (refine list_load_blk rfl 56 _ rfl (w.heap.size + 1) _ 56 hBo rfl Tryz.underlying56 (by kernel_rfl) ?_)
  | (go_at_call 13; (with_reducible refine (HMAY.out _ B5).mono ?_); rintro e w1 ⟨rfl, b1⟩; have z1 := b1.size; have B6 := below2 B5 b1; have hBm1 := hBm.below b1; have hBo1 := hBo.below b1; have hBr1 := hBr.below b1; have hBv1 := hBv.below b1; clear m0 m1 m2 m3 m4 m5; obtain ⟨m0, m1, m2, m3, m4, m5⟩ := hBm1.e6; have mf := hBm1.frozen; have ml := hBm1.lt; obtain ⟨o0, o1⟩ := hBo1.e2)
  | (go_at_call 41; (with_reducible refine (HL.out _ B6).mono ?_); rintro e w2 ⟨rfl, b2⟩; have z2 := b2.size; have B7 := below2 B6 b2; have hBm2 := hBm1.below b2; have hBo2 := hBo1.below b2; have hBr2 := hBr1.below b2; have hBv2 := hBv1.below b2; clear m0 m1 m2 m3 m4 m5 mf ml o0 o1))
 refine wpn1 fun W3 bW2 hBl3 hs3 => ?_
 have B8 := below2 B7 bW2
 have hBm3 := hBm2.below bW2
 have hBo3 := hBo2.below bW2
 have hBr3 := hBr2.below bW2
 have hBv3 := hBv2.below bW2
 have hz3 : w.heap.size + 1 + 1 + 1 + 1 ≤ w2.heap.size := by omega
 clear hBm1 hBo1 hBr1 hBv1 hBm2 hBo2 hBr2 hBv2 hBm hBr hBv hBo
 obtain ⟨m0, m1, m2, m3, m4, m5⟩ := hBm3.e6; have mf := hBm3.frozen; have ml := hBm3.lt; obtain ⟨o0, o1⟩ := hBo3.e2; obtain ⟨l0, l1⟩ := hBl3.e2; have lf := hBl3.frozen; have ll := hBl3.lt
 go_upto_region 10 with (go_at_call 51; (with_reducible refine (HSH.out _ B8).mono ?_); rintro e w6 ⟨a9, c9, rfl, hx9, b6⟩; have HX9 := zh hx9; have z6 := b6.size; have B10 := below2 B8 b6; have hBm6 := hBm3.below b6; have hBo6 := hBo3.below b6; have hBr6 := hBr3.below b6; have hBv6 := hBv3.below b6; have hBl6 := hBl3.below b6; clear hx9 m0 m1 m2 m3 m4 m5 mf ml o0 o1 l0 l1 lf ll; obtain ⟨m0, m1, m2, m3, m4, m5⟩ := hBm6.e6; have mf := hBm6.frozen; have ml := hBm6.lt; obtain ⟨o0, o1⟩ := hBo6.e2; obtain ⟨l0, l1⟩ := hBl6.e2; have lf := hBl6.frozen; have ll := hBl6.lt; generalize hrn : (riseP (lkOf m o.lock).l who).length = rn at HX9 ⊢; generalize hrl : riseP (lkOf m o.lock).l who = rls at HX9 hrn; obtain ⟨HRL, HRN⟩ := zh2 hrl hrn; clear hrl hrn)
 go_wp2_with (first
  | (go_at_call 50; (with_reducible refine (HLD.out (w2.heap.size + 1) _ ⟨qb, .slice a9 rn c9, rls⟩ (by first | omega | (simp; omega)) (Firm.keep ((Firm.own HX9.out (by omega : w2.heap.size + 1 ≤ W3.heap.size)).map (fun W h => (by (unfold ReadsL; rw [HRN.out]; exact owns_reads h)))) (fun g arr T h1 hb => (by (have nB1 : g ≠ w2.heap.size := (by omega); have nB2 : w2.heap.size ≠ g := (by omega); exact rcx hb)))) (by exact bel)).mono ?_); rintro e w7 ⟨v7, rfl, hM7, b7⟩; have HM7 := zh hM7; have z7 := b7.size; have B9 := below2 (w := w) (by exact bel) b7; obtain ⟨_, a6, c6, e6, _⟩ := lks_open (hM7.now (HG.out _ _ hb0 B9)).2.2.2.1; simp only [List.length_set] at e6; rw [← HN4.out] at e6; have E6 := zh e6; subst e6; have hBr7 := (show BlockIs _ (w.heap.size + 1 + 1) [.int .i64 0, .int .i64 0, .slice none 0 0, .slice none 0 0, .slice none 0 0, .slice none 0 0] 40 from (by exact rcx hBr6)).below b7; have hBv7 := (show BlockIs _ (w.heap.size + 1 + 1 + 1) [.int .i64 0, .bool false, .int .u64 0, .int .u64 0, .int .i64 0, .bool false, .int .i64 0, .int .i64 0, .int .i64 0, .int .i64 0, .int .i64 0, .slice none 0 0, .slice none 0 0] 54 from (by exact rcx hBv6)).below b7)
  | (refine list_store_blk rfl 40 _ _ rfl (w.heap.size + 1 + 1) _ _ 40 hBr7 rfl rfl (by kernel_rfl) rfl (by simp [Value.oneCell']) w.heap.size w B9 (by omega) ?_; intro w20 hR20 hoth20 hsz20 bw20)
  | (refine list_store_blk rfl 54 _ _ rfl (w.heap.size + 1 + 1 + 1) _ _ 54 (hoth20 _ _ _ (by omega) hBv7) rfl rfl (by kernel_rfl) rfl (by simp [Value.oneCell']) w.heap.size w bw20 (by omega) ?_; intro w21 hV21 hoth21 hsz21 bw21))
 have hR21 := hoth21 _ _ _ (by omega) hR20
 have HF := zh ((Firm.keep HM7.out (fun g arr T h1 hb => hoth21 _ _ _ (by omega) (hoth20 _ _ _ (by omega) hb))).from (by omega : B ≤ w2.heap.size + 1))
 obtain ⟨e90, e91, e92, e93, e94, e95⟩ := hR21.e6; obtain ⟨f90, f91, f92, f93, f94, f95, f96, f97, f98, f99, f910, f911, f912⟩ := hV21.e13
 exact bodyPost_ret (v := .tuple #[.agg #[.int .i64 x0, .int .i64 x1, .slice a1 n1 c1, .slice a2 n2 c2, .slice a3 n3 c3, .slice a6 n4 c6], .agg #[.int .i64 0, .bool false, .int .u64 0, .int .u64 0, .int .i64 0, .bool false, .int .i64 0, .int .i64 0, .int .i64 0, .int .i64 0, .int .i64 0, .slice none 0 0, .slice none 0 0]]) (by simp [results, Tryz.results15, go_sem, e90, e91, e92, e93, e94, e95, f90, f91, f92, f93, f94, f95, f96, f97, f98, f99, f910, f911, f912]) rfl ⟨⟨x0, x1, m.bans, m.book, m.parts, (.slice a6 n4 c6, m.locks.2.set n ⟨qb, .slice a9 rn c9, rls⟩)⟩, zeroVm, (by first | (simp only [E1.out, E2.out, E3.out, ← HN1.out, ← HN2.out, ← HN3.out]; done) | (simp only [E1.out, E2.out, E3.out, ← HN1.out, ← HN2.out, ← HN3.out]; rfl)), (by rw [HX0.out, HX1.out]; exact HF.out), (Firm.old fun W _ => zeroVm_at W), (by rw [← HLN.out, lkOf_pl]; unfold Mm.pl lockedP setAt; simp only [HLN.out, if_pos (Int.natCast_nonneg n), Int.toNat_natCast, List.map_set, HX0.out, HX1.out, HQB.out, ← HRL.out]), rfl, bw21⟩

set_option maxHeartbeats 16000000 in
theorem refDo_3y (w0 : World → Prop) (hg : Grows w0) (B : Nat) (m : Mm) (o : Oq) (who : Int) (w : World) (hb0 : w0 w) (hB : B ≤ w.heap.size) (hm : ∀ W, w0 W → MmAt W m) (hok : ∀ W, w0 W → OqAt W o) (hwho : 0 ≤ who ∧ who ≤ 100) (hmay : mayP m.pl o = true) (hk : o.kind = 3) (hll : m.locks.2.length = m.parts.2.length + 2) (hlen : m.locks.2.length ≤ 1000) (hby : (lkOf m o.lock).b = who + 1) :
  DoC 15 w0 B m o who w := by
 unfold DoC
 have hres : doP m.pl o who = (lockedP m.pl o.lock (0, (lockP m.pl o.lock).2), zeroVp) := by unfold doP; rw [if_neg (by rw [hmay]; simp), if_neg (by omega), if_neg (by omega), if_pos hk, if_pos (by rw [lkOf_pl]; exact hby)]
 rw [hres]
 clear hres
 unfold GivesDo
 have h := hm w hb0
 have ho := hok w hb0
 obtain ⟨HM, HG, HOK⟩ := zh3 hm hg hok
 have HMAY := zh (fun (W : World) (hb : Below w.heap.size w W) => refMay_any m o W (h.below hb) (ho.below hb))
 rw [hmay] at HMAY
 have HL := zh (fun (W : World) (hb : Below w.heap.size w W) => refLock_any m o.lock W (h.below hb))
 have HLK := zh (fun (W : World) (hW : w0 W) => lkOf_at (hm W hW) o.lock)
 obtain ⟨n, hln, hn⟩ := lock_nat hmay (by omega) hll
 have HLD := zh (fun (B' : Nat) (W : World) (k : Lk) (hW : B' ≤ W.heap.size) (hK : Firm w0 B' W fun W => ReadsL inV 1 W k.v k.l) (hb : Below w.heap.size w W) => ref_with_in w0 hg B' m n k W (hg _ _ hb0 hb) hW hm hK hn hlen)
 have HN := zh hn
 obtain ⟨_, qa, qc, eq, _⟩ := ins_open (lkOf_at h o.lock)
 obtain ⟨a1, a2, a3, a4, c1, c2, c3, c4, e1, e2, e3, e4⟩ := mm_slices h
 obtain ⟨_, oa, oc, eo, _⟩ := ba_open ho.1
 obtain ⟨_, ka, kc, ek, _⟩ := ey_open ho.2
 have hmm := zmm e1 e2 e3 e4
 have HMM := zh hmm
 obtain ⟨E1, E2, E3, E4, EQ, EO, EK⟩ := zh7 e1 e2 e3 e4 eq eo ek
 simp only [e1, e2, e3, e4, eo, ek, eq] at HMAY HL HLD
 rw [e1, e2, e3, e4, eo, ek]
 clear e1 e2 e3 e4 eo ek hmm eq
 obtain ⟨x0, hx0, x1, hx1, n1, hn1, n2, hn2, n3, hn3, n4, hn4, nb, hnb, nk, hnk, qn, hqn, qb, hqb⟩ := nz10 m.inn m.out m.bans.2.length m.book.2.length m.parts.2.length m.locks.2.length o.bans.2.length o.book.2.length ((lkOf m o.lock).l.length) ((lkOf m o.lock).b)
 simp only [← hx0, ← hx1, ← hn1, ← hn2, ← hn3, ← hn4, ← hnb, ← hnk, ← hqn, ← hqb] at HMAY HL HLD ⊢
 rw [← hx0, ← hx1, ← hn1, ← hn2, ← hn3, ← hn4] at HMM
 simp only [hln, hk] at HMAY HL ⊢
 have HLN := zh hln
 have hwr : IntKind.i64.wrap (who + 1) = who + 1 := by rw [IntKind.wrap_i64]; omega
 rw [← hqb] at hby
 have f9 : (qb == who + 1) = true := by simpa using hby
 obtain ⟨HX0, HX1, HN1, HN2, HN3, HN4, HNB, HNK, HQN, HQB⟩ := zh10 hx0 hx1 hn1 hn2 hn3 hn4 hnb hnk hqn hqb
 clear h ho hm hok hg hmay hx0 hx1 hn1 hn2 hn3 hn4 hnb hnk hqn hqb hk hll hlen hn hln hwho hby
 go_enter Tryz.func15, Tryz.ntmps15
 go_upto_region 1 with fail
 refine wpn4 fun W5 B5 hBm hBo hBr hBv hs5 => ?_
 obtain ⟨m0, m1, m2, m3, m4, m5⟩ := hBm.e6
 have HBo := zh hBo
 go_upto_region 4 with (first
  | (refine list_load_blk rfl 56 _ rfl (w.heap.size + 1) _ 56 hBo rfl Tryz.underlying56 (by kernel_rfl) ?_)
  | (go_at_call 13; (with_reducible refine (HMAY.out _ B5).mono ?_); rintro e w1 ⟨rfl, b1⟩; have z1 := b1.size; have B6 := below2 B5 b1; have hBm1 := hBm.below b1; have hBo1 := hBo.below b1; have hBr1 := hBr.below b1; have hBv1 := hBv.below b1; clear m0 m1 m2 m3 m4 m5; obtain ⟨m0, m1, m2, m3, m4, m5⟩ := hBm1.e6; have mf := hBm1.frozen; have ml := hBm1.lt; obtain ⟨o0, o1⟩ := hBo1.e2)
  | (go_at_call 41; (with_reducible refine (HL.out _ B6).mono ?_); rintro e w2 ⟨rfl, b2⟩; have z2 := b2.size; have B7 := below2 B6 b2; have hBm2 := hBm1.below b2; have hBo2 := hBo1.below b2; have hBr2 := hBr1.below b2; have hBv2 := hBv1.below b2; clear m0 m1 m2 m3 m4 m5 mf ml o0 o1))
 refine wpn1 fun W3 bW2 hBl3 hs3 => ?_
 have B8 := below2 B7 bW2
 have hBm3 := hBm2.below bW2
 have hBo3 := hBo2.below bW2
 have hBr3 := hBr2.below bW2
 have hBv3 := hBv2.below bW2
 have hz3 : w.heap.size + 1 + 1 + 1 + 1 ≤ w2.heap.size := by omega
 clear hBm1 hBo1 hBr1 hBv1 hBm2 hBo2 hBr2 hBv2 hBm hBr hBv hBo
 obtain ⟨m0, m1, m2, m3, m4, m5⟩ := hBm3.e6; have mf := hBm3.frozen; have ml := hBm3.lt; obtain ⟨o0, o1⟩ := hBo3.e2; obtain ⟨l0, l1⟩ := hBl3.e2; have lf := hBl3.frozen; have ll := hBl3.lt
 go_wp2_with (first
  | (go_at_call 50; (with_reducible refine (HLD.out (w2.heap.size + 1) _ ⟨0, .slice qa qn qc, (lkOf m o.lock).l⟩ (by first | omega | (simp; omega)) (by rw [HQN.out, ← EQ.out]; exact Firm.old fun W hW => HLK.out W hW) (by exact bel)).mono ?_); rintro e w7 ⟨v7, rfl, hM7, b7⟩; have HM7 := zh hM7; have z7 := b7.size; have B9 := below2 (w := w) (by exact bel) b7; obtain ⟨_, a6, c6, e6, _⟩ := lks_open (hM7.now (HG.out _ _ hb0 B9)).2.2.2.1; simp only [List.length_set] at e6; rw [← HN4.out] at e6; have E6 := zh e6; subst e6; have hBr7 := (show BlockIs _ (w.heap.size + 1 + 1) [.int .i64 0, .int .i64 0, .slice none 0 0, .slice none 0 0, .slice none 0 0, .slice none 0 0] 40 from (by exact rcx hBr3)).below b7; have hBv7 := (show BlockIs _ (w.heap.size + 1 + 1 + 1) [.int .i64 0, .bool false, .int .u64 0, .int .u64 0, .int .i64 0, .bool false, .int .i64 0, .int .i64 0, .int .i64 0, .int .i64 0, .int .i64 0, .slice none 0 0, .slice none 0 0] 54 from (by exact rcx hBv3)).below b7)
  | (refine list_store_blk rfl 40 _ _ rfl (w.heap.size + 1 + 1) _ _ 40 hBr7 rfl rfl (by kernel_rfl) rfl (by simp [Value.oneCell']) w.heap.size w B9 (by omega) ?_; intro w20 hR20 hoth20 hsz20 bw20)
  | (refine list_store_blk rfl 54 _ _ rfl (w.heap.size + 1 + 1 + 1) _ _ 54 (hoth20 _ _ _ (by omega) hBv7) rfl rfl (by kernel_rfl) rfl (by simp [Value.oneCell']) w.heap.size w bw20 (by omega) ?_; intro w21 hV21 hoth21 hsz21 bw21))
 have hR21 := hoth21 _ _ _ (by omega) hR20
 have HF := zh ((Firm.keep HM7.out (fun g arr T h1 hb => hoth21 _ _ _ (by omega) (hoth20 _ _ _ (by omega) hb))).from (by omega : B ≤ w2.heap.size + 1))
 obtain ⟨e90, e91, e92, e93, e94, e95⟩ := hR21.e6; obtain ⟨f90, f91, f92, f93, f94, f95, f96, f97, f98, f99, f910, f911, f912⟩ := hV21.e13
 exact bodyPost_ret (v := .tuple #[.agg #[.int .i64 x0, .int .i64 x1, .slice a1 n1 c1, .slice a2 n2 c2, .slice a3 n3 c3, .slice a6 n4 c6], .agg #[.int .i64 0, .bool false, .int .u64 0, .int .u64 0, .int .i64 0, .bool false, .int .i64 0, .int .i64 0, .int .i64 0, .int .i64 0, .int .i64 0, .slice none 0 0, .slice none 0 0]]) (by simp [results, Tryz.results15, go_sem, e90, e91, e92, e93, e94, e95, f90, f91, f92, f93, f94, f95, f96, f97, f98, f99, f910, f911, f912]) rfl ⟨⟨x0, x1, m.bans, m.book, m.parts, (.slice a6 n4 c6, m.locks.2.set n ⟨0, .slice qa qn qc, (lkOf m o.lock).l⟩)⟩, zeroVm, (by first | (simp only [E1.out, E2.out, E3.out, ← HN1.out, ← HN2.out, ← HN3.out]; done) | (simp only [E1.out, E2.out, E3.out, ← HN1.out, ← HN2.out, ← HN3.out]; rfl)), (by rw [HX0.out, HX1.out]; exact HF.out), (Firm.old fun W _ => zeroVm_at W), (by rw [← HLN.out, lkOf_pl]; unfold Mm.pl lockedP setAt; simp only [HLN.out, if_pos (Int.natCast_nonneg n), Int.toNat_natCast, List.map_set, HX0.out, HX1.out, HQB.out]), rfl, bw21⟩
set_option maxHeartbeats 16000000 in
theorem refDo_3n (w0 : World → Prop) (hg : Grows w0) (B : Nat) (m : Mm) (o : Oq) (who : Int) (w : World) (hb0 : w0 w) (hB : B ≤ w.heap.size) (hm : ∀ W, w0 W → MmAt W m) (hok : ∀ W, w0 W → OqAt W o) (hwho : 0 ≤ who ∧ who ≤ 100) (hmay : mayP m.pl o = true) (hk : o.kind = 3) (hll : m.locks.2.length = m.parts.2.length + 2) (hlen : m.locks.2.length ≤ 1000) (hby : ¬ (lkOf m o.lock).b = who + 1) :
  DoC 15 w0 B m o who w := by
 unfold DoC
 have hres : doP m.pl o who = (lockedP m.pl o.lock ((lockP m.pl o.lock).1, (lockP m.pl o.lock).2), zeroVp) := by unfold doP; rw [if_neg (by rw [hmay]; simp), if_neg (by omega), if_neg (by omega), if_pos hk, if_neg (by rw [lkOf_pl]; exact hby)]
 rw [hres]
 clear hres
 unfold GivesDo
 have h := hm w hb0
 have ho := hok w hb0
 obtain ⟨HM, HG, HOK⟩ := zh3 hm hg hok
 have HMAY := zh (fun (W : World) (hb : Below w.heap.size w W) => refMay_any m o W (h.below hb) (ho.below hb))
 rw [hmay] at HMAY
 have HL := zh (fun (W : World) (hb : Below w.heap.size w W) => refLock_any m o.lock W (h.below hb))
 have HLK := zh (fun (W : World) (hW : w0 W) => lkOf_at (hm W hW) o.lock)
 obtain ⟨n, hln, hn⟩ := lock_nat hmay (by omega) hll
 have HLD := zh (fun (B' : Nat) (W : World) (k : Lk) (hW : B' ≤ W.heap.size) (hK : Firm w0 B' W fun W => ReadsL inV 1 W k.v k.l) (hb : Below w.heap.size w W) => ref_with_in w0 hg B' m n k W (hg _ _ hb0 hb) hW hm hK hn hlen)
 have HN := zh hn
 obtain ⟨_, qa, qc, eq, _⟩ := ins_open (lkOf_at h o.lock)
 obtain ⟨a1, a2, a3, a4, c1, c2, c3, c4, e1, e2, e3, e4⟩ := mm_slices h
 obtain ⟨_, oa, oc, eo, _⟩ := ba_open ho.1
 obtain ⟨_, ka, kc, ek, _⟩ := ey_open ho.2
 have hmm := zmm e1 e2 e3 e4
 have HMM := zh hmm
 obtain ⟨E1, E2, E3, E4, EQ, EO, EK⟩ := zh7 e1 e2 e3 e4 eq eo ek
 simp only [e1, e2, e3, e4, eo, ek, eq] at HMAY HL HLD
 rw [e1, e2, e3, e4, eo, ek]
 clear e1 e2 e3 e4 eo ek hmm eq
 obtain ⟨x0, hx0, x1, hx1, n1, hn1, n2, hn2, n3, hn3, n4, hn4, nb, hnb, nk, hnk, qn, hqn, qb, hqb⟩ := nz10 m.inn m.out m.bans.2.length m.book.2.length m.parts.2.length m.locks.2.length o.bans.2.length o.book.2.length ((lkOf m o.lock).l.length) ((lkOf m o.lock).b)
 simp only [← hx0, ← hx1, ← hn1, ← hn2, ← hn3, ← hn4, ← hnb, ← hnk, ← hqn, ← hqb] at HMAY HL HLD ⊢
 rw [← hx0, ← hx1, ← hn1, ← hn2, ← hn3, ← hn4] at HMM
 simp only [hln, hk] at HMAY HL ⊢
 have HLN := zh hln
 have hwr : IntKind.i64.wrap (who + 1) = who + 1 := by rw [IntKind.wrap_i64]; omega
 rw [← hqb] at hby
 have f9 : (qb == who + 1) = false := by simpa using hby
 obtain ⟨HX0, HX1, HN1, HN2, HN3, HN4, HNB, HNK, HQN, HQB⟩ := zh10 hx0 hx1 hn1 hn2 hn3 hn4 hnb hnk hqn hqb
 clear h ho hm hok hg hmay hx0 hx1 hn1 hn2 hn3 hn4 hnb hnk hqn hqb hk hll hlen hn hln hwho hby
 go_enter Tryz.func15, Tryz.ntmps15
 go_upto_region 1 with fail
 refine wpn4 fun W5 B5 hBm hBo hBr hBv hs5 => ?_
 obtain ⟨m0, m1, m2, m3, m4, m5⟩ := hBm.e6
 have HBo := zh hBo
 go_upto_region 4 with (first
  | (refine list_load_blk rfl 56 _ rfl (w.heap.size + 1) _ 56 hBo rfl Tryz.underlying56 (by kernel_rfl) ?_)
  | (go_at_call 13; (with_reducible refine (HMAY.out _ B5).mono ?_); rintro e w1 ⟨rfl, b1⟩; have z1 := b1.size; have B6 := below2 B5 b1; have hBm1 := hBm.below b1; have hBo1 := hBo.below b1; have hBr1 := hBr.below b1; have hBv1 := hBv.below b1; clear m0 m1 m2 m3 m4 m5; obtain ⟨m0, m1, m2, m3, m4, m5⟩ := hBm1.e6; have mf := hBm1.frozen; have ml := hBm1.lt; obtain ⟨o0, o1⟩ := hBo1.e2)
  | (go_at_call 41; (with_reducible refine (HL.out _ B6).mono ?_); rintro e w2 ⟨rfl, b2⟩; have z2 := b2.size; have B7 := below2 B6 b2; have hBm2 := hBm1.below b2; have hBo2 := hBo1.below b2; have hBr2 := hBr1.below b2; have hBv2 := hBv1.below b2; clear m0 m1 m2 m3 m4 m5 mf ml o0 o1))
 refine wpn1 fun W3 bW2 hBl3 hs3 => ?_
 have B8 := below2 B7 bW2
 have hBm3 := hBm2.below bW2
 have hBo3 := hBo2.below bW2
 have hBr3 := hBr2.below bW2
 have hBv3 := hBv2.below bW2
 have hz3 : w.heap.size + 1 + 1 + 1 + 1 ≤ w2.heap.size := by omega
 clear hBm1 hBo1 hBr1 hBv1 hBm2 hBo2 hBr2 hBv2 hBm hBr hBv hBo
 obtain ⟨m0, m1, m2, m3, m4, m5⟩ := hBm3.e6; have mf := hBm3.frozen; have ml := hBm3.lt; obtain ⟨o0, o1⟩ := hBo3.e2; obtain ⟨l0, l1⟩ := hBl3.e2; have lf := hBl3.frozen; have ll := hBl3.lt
 go_wp2_with (first
  | (go_at_call 50; (with_reducible refine (HLD.out (w2.heap.size + 1) _ ⟨qb, .slice qa qn qc, (lkOf m o.lock).l⟩ (by first | omega | (simp; omega)) (by rw [HQN.out, ← EQ.out]; exact Firm.old fun W hW => HLK.out W hW) B8).mono ?_); rintro e w7 ⟨v7, rfl, hM7, b7⟩; have HM7 := zh hM7; have z7 := b7.size; have B9 := below2 (w := w) B8 b7; obtain ⟨_, a6, c6, e6, _⟩ := lks_open (hM7.now (HG.out _ _ hb0 B9)).2.2.2.1; simp only [List.length_set] at e6; rw [← HN4.out] at e6; have E6 := zh e6; subst e6; have hBr7 := hBr3.below b7; have hBv7 := hBv3.below b7)
  | (refine list_store_blk rfl 40 _ _ rfl (w.heap.size + 1 + 1) _ _ 40 hBr7 rfl rfl (by kernel_rfl) rfl (by simp [Value.oneCell']) w.heap.size w B9 (by omega) ?_; intro w20 hR20 hoth20 hsz20 bw20)
  | (refine list_store_blk rfl 54 _ _ rfl (w.heap.size + 1 + 1 + 1) _ _ 54 (hoth20 _ _ _ (by omega) hBv7) rfl rfl (by kernel_rfl) rfl (by simp [Value.oneCell']) w.heap.size w bw20 (by omega) ?_; intro w21 hV21 hoth21 hsz21 bw21))
 have hR21 := hoth21 _ _ _ (by omega) hR20
 have HF := zh ((Firm.keep HM7.out (fun g arr T h1 hb => hoth21 _ _ _ (by omega) (hoth20 _ _ _ (by omega) hb))).from (by omega : B ≤ w2.heap.size + 1))
 obtain ⟨e90, e91, e92, e93, e94, e95⟩ := hR21.e6; obtain ⟨f90, f91, f92, f93, f94, f95, f96, f97, f98, f99, f910, f911, f912⟩ := hV21.e13
 exact bodyPost_ret (v := .tuple #[.agg #[.int .i64 x0, .int .i64 x1, .slice a1 n1 c1, .slice a2 n2 c2, .slice a3 n3 c3, .slice a6 n4 c6], .agg #[.int .i64 0, .bool false, .int .u64 0, .int .u64 0, .int .i64 0, .bool false, .int .i64 0, .int .i64 0, .int .i64 0, .int .i64 0, .int .i64 0, .slice none 0 0, .slice none 0 0]]) (by simp [results, Tryz.results15, go_sem, e90, e91, e92, e93, e94, e95, f90, f91, f92, f93, f94, f95, f96, f97, f98, f99, f910, f911, f912]) rfl ⟨⟨x0, x1, m.bans, m.book, m.parts, (.slice a6 n4 c6, m.locks.2.set n ⟨qb, .slice qa qn qc, (lkOf m o.lock).l⟩)⟩, zeroVm, (by first | (simp only [E1.out, E2.out, E3.out, ← HN1.out, ← HN2.out, ← HN3.out]; done) | (simp only [E1.out, E2.out, E3.out, ← HN1.out, ← HN2.out, ← HN3.out]; rfl)), (by rw [HX0.out, HX1.out]; exact HF.out), (Firm.old fun W _ => zeroVm_at W), (by rw [← HLN.out, lkOf_pl]; unfold Mm.pl lockedP setAt; simp only [HLN.out, if_pos (Int.natCast_nonneg n), Int.toNat_natCast, List.map_set, HX0.out, HX1.out, HQB.out]), rfl, bw21⟩

set_option maxHeartbeats 16000000 in
theorem refDo_4 (w0 : World → Prop) (hg : Grows w0) (B : Nat) (m : Mm) (o : Oq) (who : Int) (w : World) (hb0 : w0 w) (hB : B ≤ w.heap.size) (hm : ∀ W, w0 W → MmAt W m) (hok : ∀ W, w0 W → OqAt W o) (hwho : 0 ≤ who ∧ who ≤ 100) (hmay : mayP m.pl o = true) (hk : o.kind = 4) (hll : m.locks.2.length = m.parts.2.length + 2) (hlen : m.locks.2.length ≤ 1000) (hql : (lkOf m o.lock).l.length ≤ 1000) :
  DoC 15 w0 B m o who w := by
 unfold DoC
 have hres : doP m.pl o who = (lockedP m.pl o.lock ((lockP m.pl o.lock).1, (lockP m.pl o.lock).2.filter fun x => !decide (x = who)), zeroVp) := by unfold doP; rw [if_neg (by rw [hmay]; simp), if_neg (by omega), if_neg (by omega), if_neg (by omega), if_pos hk]
 rw [hres]
 clear hres
 unfold GivesDo
 have h := hm w hb0
 have ho := hok w hb0
 obtain ⟨HM, HG, HOK⟩ := zh3 hm hg hok
 have HMAY := zh (fun (W : World) (hb : Below w.heap.size w W) => refMay_any m o W (h.below hb) (ho.below hb))
 rw [hmay] at HMAY
 have HL := zh (fun (W : World) (hb : Below w.heap.size w W) => refLock_any m o.lock W (h.below hb))
 have HLK := zh (fun (W : World) (hW : w0 W) => lkOf_at (hm W hW) o.lock)
 obtain ⟨n, hln, hn⟩ := lock_nat hmay (by omega) hll
 have HLD := zh (fun (B' : Nat) (W : World) (k : Lk) (hW : B' ≤ W.heap.size) (hK : Firm w0 B' W fun W => ReadsL inV 1 W k.v k.l) (hb : Below w.heap.size w W) => ref_with_in w0 hg B' m n k W (hg _ _ hb0 hb) hW hm hK hn hlen)
 have HN := zh hn
 have HSH := zh (fun (W : World) (hb : Below w.heap.size w W) => refWithout_any (lkOf m o.lock).v (lkOf m o.lock).l who W (ReadsL.below (lkOf_at h o.lock) hb) (by omega))
 obtain ⟨_, qa, qc, eq, _⟩ := ins_open (lkOf_at h o.lock)
 obtain ⟨a1, a2, a3, a4, c1, c2, c3, c4, e1, e2, e3, e4⟩ := mm_slices h
 obtain ⟨_, oa, oc, eo, _⟩ := ba_open ho.1
 obtain ⟨_, ka, kc, ek, _⟩ := ey_open ho.2
 have hmm := zmm e1 e2 e3 e4
 have HMM := zh hmm
 obtain ⟨E1, E2, E3, E4, EQ, EO, EK⟩ := zh7 e1 e2 e3 e4 eq eo ek
 simp only [e1, e2, e3, e4, eo, ek, eq] at HMAY HL HLD HSH
 rw [e1, e2, e3, e4, eo, ek]
 clear e1 e2 e3 e4 eo ek hmm eq
 obtain ⟨x0, hx0, x1, hx1, n1, hn1, n2, hn2, n3, hn3, n4, hn4, nb, hnb, nk, hnk, qn, hqn, qb, hqb⟩ := nz10 m.inn m.out m.bans.2.length m.book.2.length m.parts.2.length m.locks.2.length o.bans.2.length o.book.2.length ((lkOf m o.lock).l.length) ((lkOf m o.lock).b)
 simp only [← hx0, ← hx1, ← hn1, ← hn2, ← hn3, ← hn4, ← hnb, ← hnk, ← hqn, ← hqb] at HMAY HL HLD HSH ⊢
 rw [← hx0, ← hx1, ← hn1, ← hn2, ← hn3, ← hn4] at HMM
 simp only [hln, hk] at HMAY HL ⊢
 have HLN := zh hln
 have hwr : IntKind.i64.wrap (who + 1) = who + 1 := by rw [IntKind.wrap_i64]; omega
 obtain ⟨HX0, HX1, HN1, HN2, HN3, HN4, HNB, HNK, HQN, HQB⟩ := zh10 hx0 hx1 hn1 hn2 hn3 hn4 hnb hnk hqn hqb
 clear h ho hm hok hg hmay hx0 hx1 hn1 hn2 hn3 hn4 hnb hnk hqn hqb hk hll hlen hn hln hwho hql
 go_enter Tryz.func15, Tryz.ntmps15
 go_upto_region 1 with fail
 refine wpn4 fun W5 B5 hBm hBo hBr hBv hs5 => ?_
 obtain ⟨m0, m1, m2, m3, m4, m5⟩ := hBm.e6
 have HBo := zh hBo
 go_upto_region 4 with (first
  | (refine list_load_blk rfl 56 _ rfl (w.heap.size + 1) _ 56 hBo rfl Tryz.underlying56 (by kernel_rfl) ?_)
  | (go_at_call 13; (with_reducible refine (HMAY.out _ B5).mono ?_); rintro e w1 ⟨rfl, b1⟩; have z1 := b1.size; have B6 := below2 B5 b1; have hBm1 := hBm.below b1; have hBo1 := hBo.below b1; have hBr1 := hBr.below b1; have hBv1 := hBv.below b1; clear m0 m1 m2 m3 m4 m5; obtain ⟨m0, m1, m2, m3, m4, m5⟩ := hBm1.e6; have mf := hBm1.frozen; have ml := hBm1.lt; obtain ⟨o0, o1⟩ := hBo1.e2)
  | (go_at_call 41; (with_reducible refine (HL.out _ B6).mono ?_); rintro e w2 ⟨rfl, b2⟩; have z2 := b2.size; have B7 := below2 B6 b2; have hBm2 := hBm1.below b2; have hBo2 := hBo1.below b2; have hBr2 := hBr1.below b2; have hBv2 := hBv1.below b2; clear m0 m1 m2 m3 m4 m5 mf ml o0 o1))
 refine wpn1 fun W3 bW2 hBl3 hs3 => ?_
 have B8 := below2 B7 bW2
 have hBm3 := hBm2.below bW2
 have hBo3 := hBo2.below bW2
 have hBr3 := hBr2.below bW2
 have hBv3 := hBv2.below bW2
 have hz3 : w.heap.size + 1 + 1 + 1 + 1 ≤ w2.heap.size := by omega
 clear hBm1 hBo1 hBr1 hBv1 hBm2 hBo2 hBr2 hBv2 hBm hBr hBv hBo
 obtain ⟨m0, m1, m2, m3, m4, m5⟩ := hBm3.e6; have mf := hBm3.frozen; have ml := hBm3.lt; obtain ⟨o0, o1⟩ := hBo3.e2; obtain ⟨l0, l1⟩ := hBl3.e2; have lf := hBl3.frozen; have ll := hBl3.lt
 go_upto_region 17 with (go_at_call 52; (with_reducible refine (HSH.out _ B8).mono ?_); rintro e w6 ⟨a9, c9, rfl, hx9, b6⟩; have HX9 := zh hx9; have z6 := b6.size; have B10 := below2 B8 b6; have hBm6 := hBm3.below b6; have hBo6 := hBo3.below b6; have hBr6 := hBr3.below b6; have hBv6 := hBv3.below b6; have hBl6 := hBl3.below b6; clear hx9 m0 m1 m2 m3 m4 m5 mf ml o0 o1 l0 l1 lf ll; obtain ⟨m0, m1, m2, m3, m4, m5⟩ := hBm6.e6; have mf := hBm6.frozen; have ml := hBm6.lt; obtain ⟨o0, o1⟩ := hBo6.e2; obtain ⟨l0, l1⟩ := hBl6.e2; have lf := hBl6.frozen; have ll := hBl6.lt; generalize hrn : (woutL (lkOf m o.lock).l who).length = rn at HX9 ⊢; generalize hrl : woutL (lkOf m o.lock).l who = rls at HX9 hrn; obtain ⟨HRL, HRN⟩ := zh2 hrl hrn; clear hrl hrn)
 go_wp2_with (first
  | (go_at_call 50; (with_reducible refine (HLD.out (w2.heap.size + 1) _ ⟨qb, .slice a9 rn c9, rls⟩ (by first | omega | (simp; omega)) (Firm.keep ((Firm.own HX9.out (by omega : w2.heap.size + 1 ≤ W3.heap.size)).map (fun W h => (by (unfold ReadsL; rw [HRN.out]; exact owns_reads h)))) (fun g arr T h1 hb => (by (have nB1 : g ≠ w2.heap.size := (by omega); have nB2 : w2.heap.size ≠ g := (by omega); exact rcx hb)))) (by exact bel)).mono ?_); rintro e w7 ⟨v7, rfl, hM7, b7⟩; have HM7 := zh hM7; have z7 := b7.size; have B9 := below2 (w := w) (by exact bel) b7; obtain ⟨_, a6, c6, e6, _⟩ := lks_open (hM7.now (HG.out _ _ hb0 B9)).2.2.2.1; simp only [List.length_set] at e6; rw [← HN4.out] at e6; have E6 := zh e6; subst e6; have hBr7 := (show BlockIs _ (w.heap.size + 1 + 1) [.int .i64 0, .int .i64 0, .slice none 0 0, .slice none 0 0, .slice none 0 0, .slice none 0 0] 40 from (by exact rcx hBr6)).below b7; have hBv7 := (show BlockIs _ (w.heap.size + 1 + 1 + 1) [.int .i64 0, .bool false, .int .u64 0, .int .u64 0, .int .i64 0, .bool false, .int .i64 0, .int .i64 0, .int .i64 0, .int .i64 0, .int .i64 0, .slice none 0 0, .slice none 0 0] 54 from (by exact rcx hBv6)).below b7)
  | (refine list_store_blk rfl 40 _ _ rfl (w.heap.size + 1 + 1) _ _ 40 hBr7 rfl rfl (by kernel_rfl) rfl (by simp [Value.oneCell']) w.heap.size w B9 (by omega) ?_; intro w20 hR20 hoth20 hsz20 bw20)
  | (refine list_store_blk rfl 54 _ _ rfl (w.heap.size + 1 + 1 + 1) _ _ 54 (hoth20 _ _ _ (by omega) hBv7) rfl rfl (by kernel_rfl) rfl (by simp [Value.oneCell']) w.heap.size w bw20 (by omega) ?_; intro w21 hV21 hoth21 hsz21 bw21))
 have hR21 := hoth21 _ _ _ (by omega) hR20
 have HF := zh ((Firm.keep HM7.out (fun g arr T h1 hb => hoth21 _ _ _ (by omega) (hoth20 _ _ _ (by omega) hb))).from (by omega : B ≤ w2.heap.size + 1))
 obtain ⟨e90, e91, e92, e93, e94, e95⟩ := hR21.e6; obtain ⟨f90, f91, f92, f93, f94, f95, f96, f97, f98, f99, f910, f911, f912⟩ := hV21.e13
 exact bodyPost_ret (v := .tuple #[.agg #[.int .i64 x0, .int .i64 x1, .slice a1 n1 c1, .slice a2 n2 c2, .slice a3 n3 c3, .slice a6 n4 c6], .agg #[.int .i64 0, .bool false, .int .u64 0, .int .u64 0, .int .i64 0, .bool false, .int .i64 0, .int .i64 0, .int .i64 0, .int .i64 0, .int .i64 0, .slice none 0 0, .slice none 0 0]]) (by simp [results, Tryz.results15, go_sem, e90, e91, e92, e93, e94, e95, f90, f91, f92, f93, f94, f95, f96, f97, f98, f99, f910, f911, f912]) rfl ⟨⟨x0, x1, m.bans, m.book, m.parts, (.slice a6 n4 c6, m.locks.2.set n ⟨qb, .slice a9 rn c9, rls⟩)⟩, zeroVm, (by first | (simp only [E1.out, E2.out, E3.out, ← HN1.out, ← HN2.out, ← HN3.out]; done) | (simp only [E1.out, E2.out, E3.out, ← HN1.out, ← HN2.out, ← HN3.out]; rfl)), (by rw [HX0.out, HX1.out]; exact HF.out), (Firm.old fun W _ => zeroVm_at W), (by rw [← HLN.out, lkOf_pl]; unfold Mm.pl lockedP setAt; simp only [HLN.out, if_pos (Int.natCast_nonneg n), Int.toNat_natCast, List.map_set, HX0.out, HX1.out, HQB.out, ← HRL.out, woutL]), rfl, bw21⟩

set_option maxHeartbeats 16000000 in
theorem refDo_5 (w0 : World → Prop) (hg : Grows w0) (B : Nat) (m : Mm) (o : Oq) (who : Int) (w : World) (hb0 : w0 w) (hB : B ≤ w.heap.size) (hm : ∀ W, w0 W → MmAt W m) (hok : ∀ W, w0 W → OqAt W o) (hmay : mayP m.pl o = true) (hk : o.kind = 5) :
  DoC 15 w0 B m o who w := by
 unfold DoC
 have hres : doP m.pl o who = (m.pl, loadP m.pl o.lk o.ls o.lt) := by unfold doP; rw [if_neg (by rw [hmay]; simp), if_neg (by omega), if_neg (by omega), if_neg (by omega), if_neg (by omega), if_pos hk]
 rw [hres]
 clear hres
 unfold GivesDo
 have h := hm w hb0
 have ho := hok w hb0
 obtain ⟨HM, HG, HOK⟩ := zh3 hm hg hok
 have HMAY := zh (fun (W : World) (hb : Below w.heap.size w W) => refMay_any m o W (h.below hb) (ho.below hb))
 rw [hmay] at HMAY
 have HL := zh (fun (W : World) (hb : Below w.heap.size w W) => refLock_any m o.lock W (h.below hb))
 have HLK := zh (fun (W : World) (hW : w0 W) => lkOf_at (hm W hW) o.lock)
 have hpr := opRight_load (mayP_right hmay) (Or.inl hk)
 have HLO := zh (fun (W : World) (hb : Below w.heap.size w W) => refLoad_any m o.lk o.ls o.lt W (h.below hb) ⟨hpr.1, hpr.2.1⟩ hpr.2.2.1 hpr.2.2.2)
 obtain ⟨_, qa, qc, eq, _⟩ := ins_open (lkOf_at h o.lock)
 obtain ⟨a1, a2, a3, a4, c1, c2, c3, c4, e1, e2, e3, e4⟩ := mm_slices h
 obtain ⟨_, oa, oc, eo, _⟩ := ba_open ho.1
 obtain ⟨_, ka, kc, ek, _⟩ := ey_open ho.2
 have hmm := zmm e1 e2 e3 e4
 have HMM := zh hmm
 obtain ⟨E1, E2, E3, E4, EQ, EO, EK⟩ := zh7 e1 e2 e3 e4 eq eo ek
 simp only [e1, e2, e3, e4, eo, ek, eq] at HMAY HL HLO
 rw [e1, e2, e3, e4, eo, ek]
 clear e1 e2 e3 e4 eo ek hmm eq
 obtain ⟨x0, hx0, x1, hx1, n1, hn1, n2, hn2, n3, hn3, n4, hn4, nb, hnb, nk, hnk, qn, hqn, qb, hqb⟩ := nz10 m.inn m.out m.bans.2.length m.book.2.length m.parts.2.length m.locks.2.length o.bans.2.length o.book.2.length ((lkOf m o.lock).l.length) ((lkOf m o.lock).b)
 simp only [← hx0, ← hx1, ← hn1, ← hn2, ← hn3, ← hn4, ← hnb, ← hnk, ← hqn, ← hqb] at HMAY HL HLO ⊢
 rw [← hx0, ← hx1, ← hn1, ← hn2, ← hn3, ← hn4] at HMM
 simp only [hk] at HMAY HL ⊢
 obtain ⟨HX0, HX1, HN1, HN2, HN3, HN4, HNB, HNK, HQN, HQB⟩ := zh10 hx0 hx1 hn1 hn2 hn3 hn4 hnb hnk hqn hqb
 clear h ho hm hok hg hmay hx0 hx1 hn1 hn2 hn3 hn4 hnb hnk hqn hqb hk hpr
 go_enter Tryz.func15, Tryz.ntmps15
 go_upto_region 1 with fail
 refine wpn4 fun W5 B5 hBm hBo hBr hBv hs5 => ?_
 obtain ⟨m0, m1, m2, m3, m4, m5⟩ := hBm.e6
 have HBo := zh hBo
 go_upto_region 4 with (first
  | (refine list_load_blk rfl 56 _ rfl (w.heap.size + 1) _ 56 hBo rfl Tryz.underlying56 (by kernel_rfl) ?_)
  | (go_at_call 13; (with_reducible refine (HMAY.out _ B5).mono ?_); rintro e w1 ⟨rfl, b1⟩; have z1 := b1.size; have B6 := below2 B5 b1; have hBm1 := hBm.below b1; have hBo1 := hBo.below b1; have hBr1 := hBr.below b1; have hBv1 := hBv.below b1; clear m0 m1 m2 m3 m4 m5; obtain ⟨m0, m1, m2, m3, m4, m5⟩ := hBm1.e6; have mf := hBm1.frozen; have ml := hBm1.lt; obtain ⟨o0, o1⟩ := hBo1.e2)
  | (go_at_call 41; (with_reducible refine (HL.out _ B6).mono ?_); rintro e w2 ⟨rfl, b2⟩; have z2 := b2.size; have B7 := below2 B6 b2; have hBm2 := hBm1.below b2; have hBo2 := hBo1.below b2; have hBr2 := hBr1.below b2; have hBv2 := hBv1.below b2; clear m0 m1 m2 m3 m4 m5 mf ml o0 o1))
 refine wpn1 fun W3 bW2 hBl3 hs3 => ?_
 have B8 := below2 B7 bW2
 have hBm3 := hBm2.below bW2
 have hBo3 := hBo2.below bW2
 have hBr3 := hBr2.below bW2
 have hBv3 := hBv2.below bW2
 have hz3 : w.heap.size + 1 + 1 + 1 + 1 ≤ w2.heap.size := by omega
 clear hBm1 hBo1 hBr1 hBv1 hBm2 hBo2 hBr2 hBv2 hBm hBr hBv hBo
 obtain ⟨m0, m1, m2, m3, m4, m5⟩ := hBm3.e6; have mf := hBm3.frozen; have ml := hBm3.lt; have o0 := hBo3.c0; have o2 := hBo3.c2; have o3 := hBo3.c3; have o4 := hBo3.c4; obtain ⟨l0, l1⟩ := hBl3.e2; have lf := hBl3.frozen; have ll := hBl3.lt
 go_upto_region 19 with fail
 refine wp_region_noPanic ?_
 have hS0 : (fun wq => wq.cell? ⟨w.heap.size, 0, none⟩ = some (.int .i64 x0) ∧ wq.cell? ⟨w.heap.size, 1, none⟩ = some (.int .i64 x1) ∧ wq.cell? ⟨w.heap.size, 2, none⟩ = some (.slice a1 n1 c1) ∧ wq.cell? ⟨w.heap.size, 3, none⟩ = some (.slice a2 n2 c2) ∧ wq.cell? ⟨w.heap.size, 4, none⟩ = some (.slice a3 n3 c3) ∧ wq.cell? ⟨w.heap.size, 5, none⟩ = some (.slice a4 n4 c4) ∧ wq.cell? ⟨w.heap.size + 1, 2, none⟩ = some (.int .i64 o.lk) ∧ wq.cell? ⟨w.heap.size + 1, 3, none⟩ = some (.int .i64 o.ls) ∧ wq.cell? ⟨w.heap.size + 1, 4, none⟩ = some (.int .i64 o.lt)) W3.drew := by
  dsimp only
  (first | go_keep | (simp (disch := omega) [*]; done) | (simp (disch := first | omega | (simp; omega)) [World.cell?_setCell_far, World.cell?_alloc_past, *]; done) | (simp (disch := first | omega | (simp; omega)) [World.cell?_setCell_far, World.cell?_alloc_past, *]; repeat (first | exact rfl | refine ⟨rfl, ?_⟩)))
 refine wp_region_headH (fun wq => wq.cell? ⟨w.heap.size, 0, none⟩ = some (.int .i64 x0) ∧ wq.cell? ⟨w.heap.size, 1, none⟩ = some (.int .i64 x1) ∧ wq.cell? ⟨w.heap.size, 2, none⟩ = some (.slice a1 n1 c1) ∧ wq.cell? ⟨w.heap.size, 3, none⟩ = some (.slice a2 n2 c2) ∧ wq.cell? ⟨w.heap.size, 4, none⟩ = some (.slice a3 n3 c3) ∧ wq.cell? ⟨w.heap.size, 5, none⟩ = some (.slice a4 n4 c4) ∧ wq.cell? ⟨w.heap.size + 1, 2, none⟩ = some (.int .i64 o.lk) ∧ wq.cell? ⟨w.heap.size + 1, 3, none⟩ = some (.int .i64 o.ls) ∧ wq.cell? ⟨w.heap.size + 1, 4, none⟩ = some (.int .i64 o.lt)) 5 (by kernel_rfl) (by kernel_rfl) ?_
 refine hP 0 rfl ?_
 refine hP 1 rfl ?_
 refine hP 2 rfl ?_
 refine hP 3 rfl ?_
 refine headH_one (i := 4) rfl rfl (by kernel_rfl) (fun K hK => ?_)
 go_simp
 go_at_call 53
 refine (HLO.out _ (by first | exact B8 | exact bel)).mono ?_
 unfold GivesVr
 rintro e w7 ⟨v7, rfl, hF7, hv7, b7⟩
 have B9 := below2 (w := w) (by first | exact B8 | exact bel) b7
 have hv9 := hF7 _ (HM.out _ (HG.out _ _ hb0 B9))
 have hF8 : ∀ W, w0 W → VmAt W v7 := fun W hW => hF7 W (HM.out W hW)
 obtain ⟨_, a8, c8, e8, _⟩ := ba_open hv9.1
 obtain ⟨_, a9, c9, e9, _⟩ := ey_open hv9.2
 obtain ⟨vn, vp, ⟨vb, vbl⟩, ⟨vk, vkl⟩⟩ := v7
 simp only at e8 e9
 subst e8 e9
 obtain ⟨HF7, HV7⟩ := zh2 hF8 hv7
 have z7 := b7.size
 simp only [World.size_drew] at z7
 have hBm7 := hBm3.drew'.below b7; have hBo7 := hBo3.drew'.below b7; have hBr7 := hBr3.drew'.below b7; have hBv7 := hBv3.drew'.below b7
 clear hF7 hF8 hv7 hv9 m0 m1 m2 m3 m4 m5 mf ml o2 o3 o4 l0 l1 lf ll
 obtain ⟨m0, m1, m2, m3, m4, m5⟩ := hBm7.e6; have mf := hBm7.frozen; have ml := hBm7.lt; have o2 := hBo7.c2; have o3 := hBo7.c3; have o4 := hBo7.c4
 refine hK.out _ _ ?_ (fun hS4 => ?_)
 ·try dsimp only
  (first | go_keep | (simp (disch := omega) [*]; done) | (simp (disch := first | omega | (simp; omega)) [World.cell?_setCell_far, World.cell?_alloc_past, *]; done) | (simp (disch := first | omega | (simp; omega)) [World.cell?_setCell_far, World.cell?_alloc_past, *]; repeat (first | exact rfl | refine ⟨rfl, ?_⟩)))
 clear hK K
 try simp only [Act.put, zs1, zs2, zs3]
 refine headH_done (by kernel_rfl) ?_
 simp only [List.drop_succ_cons, List.drop_zero]
 go_wp2_with (first
  | (refine list_store_blk rfl 40 _ _ rfl (w.heap.size + 1 + 1) _ _ 40 hBr7 rfl rfl (by kernel_rfl) rfl (by simp [Value.oneCell']) w.heap.size w B9 (by omega) ?_; intro w20 hR20 hoth20 hsz20 bw20)
  | (refine list_store_blk rfl 54 _ _ rfl (w.heap.size + 1 + 1 + 1) _ _ 54 (hoth20 _ _ _ (by omega) hBv7) rfl rfl (by kernel_rfl) rfl (by simp [Value.oneCell']) w.heap.size w bw20 (by omega) ?_; intro w21 hV21 hoth21 hsz21 bw21))
 refine NoPanic.normal ?_
 go_wp2_with fail
 have hR21 := hoth21 _ _ _ (by omega) hR20
 obtain ⟨e90, e91, e92, e93, e94, e95⟩ := hR21.e6; obtain ⟨f90, f91, f92, f93, f94, f95, f96, f97, f98, f99, f910, f911, f912⟩ := hV21.e13
 exact bodyPost_ret (v := .tuple #[.agg #[.int .i64 x0, .int .i64 x1, .slice a1 n1 c1, .slice a2 n2 c2, .slice a3 n3 c3, .slice a4 n4 c4], .agg #[.int .i64 vn, .bool vp.en.ad.v6, .int .u64 vp.en.ad.hi, .int .u64 vp.en.ad.lo, .int .i64 vp.en.port, .bool vp.came, .int .i64 vp.since, .int .i64 vp.pts, .int .i64 vp.at_, .int .i64 vp.ping, .int .i64 vp.work, .slice a8 vbl.length c8, .slice a9 vkl.length c9]]) (by simp [results, Tryz.results15, go_sem, e90, e91, e92, e93, e94, e95, f90, f91, f92, f93, f94, f95, f96, f97, f98, f99, f910, f911, f912]) rfl ⟨m, ⟨vn, vp, (.slice a8 vbl.length c8, vbl), (.slice a9 vkl.length c9, vkl)⟩, (by rw [HMM.out]), (Firm.old HM.out), (Firm.old fun W hW => HF7.out W hW), rfl, HV7.out, bw21⟩
end Go.Proofs.YtnplgagaoeckoaaGreat
