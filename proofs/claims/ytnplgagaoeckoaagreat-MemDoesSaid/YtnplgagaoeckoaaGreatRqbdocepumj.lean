/- Texts put together: RfDo6, RfDo7, RfDo8, Book, New, MmOff, RfX, Hold3, SmI, StA, StD, SmM, RfH, RfN, RfW, AcV, CfV, OpC, PlOpB, OpW, OpV, CfS, StV2. No condition. -/
import Derived.Test.YtnplgagaoeckoaaGreatRcafbvewpzr
import Derived.Test.YtnplgagaoeckoaaGreatRihppkpqfio
import Derived.Test.YtnplgagaoeckoaaGreatRbocrvkvair
import Derived.Test.YtnplgagaoeckoaaGreatRgocqfrhknq
import Derived.Test.YtnplgagaoeckoaaGreatRsffaibvuoy
import Derived.Test.YtnplgagaoeckoaaGreatRhnpgpodzhy
import Derived.Test.YtnplgagaoeckoaaGreatRmtvuvpphfn
import Derived.Test.YtnplgagaoeckoaaGreatRrloyafqzcj
import Derived.Test.YtnplgagaoeckoaaGreatRcwqyjfsjeh
import Derived.Test.YtnplgagaoeckoaaGreatRshgxludich
import Derived.Test.YtnplgagaoeckoaaGreatRzrcaigsvek
import Derived.Test.YtnplgagaoeckoaaGreatRfpzzrhnffr
import Derived.Test.YtnplgagaoeckoaaGreatRbdwevbvwye
import Derived.Test.YtnplgagaoeckoaaGreatRkbmpemvqpq
import Derived.Test.YtnplgagaoeckoaaGreatRjocmslpnog
import Derived.Test.YtnplgagaoeckoaaGreatRluqwkbtqlq
import Derived.Test.YtnplgagaoeckoaaGreatRldnkkbbzkg
import Derived.Test.YtnplgagaoeckoaaGreatRgrqssyjqzq
import Derived.BigRegion
import Derived.Lib.ItoaWalk
import Derived.Handy
import Derived.Deep.RegionHeld3
import Derived.Deep.DeepCutAuto
import Derived.Test.YtnplgagaoeckoaaGreatRows
import Derived.WalkKit
import Derived.WalkSpells
import Derived.WalkLawsBesides
import Derived.BigGuardPart
import Derived.BigQuiet
import Derived.Deep.QuietTactic
import Derived.Deep.Light
import Derived.OwnWalk
import Derived.Laws.OwnMore
import Derived.StillTailTactics
import Derived.Deep.WholeRow
import Derived.Test.YtnplgagaoeckoaaGreatRrornvdfvpg
set_option maxRecDepth 100000
set_option linter.unusedSimpArgs false
set_option linter.unusedVariables false
namespace Go.Proofs.YtnplgagaoeckoaaGreat
open Go.RowKit
set_option maxHeartbeats 16000000 in
theorem refDo_6 (w0 : World → Prop) (hg : Grows w0) (B : Nat) (m : Mm) (o : Oq) (who : Int) (w : World) (hb0 : w0 w) (hB : B ≤ w.heap.size) (hm : ∀ W, w0 W → MmAt W m) (hok : ∀ W, w0 W → OqAt W o) (hmay : mayP m.pl o = true) (hk : o.kind = 6) (hpl : m.parts.2.length ≤ 1000) (hN : (shOf m o.ls).l.length ≤ 100000) :
  DoC 15 w0 B m o who w := by
 unfold DoC
 have hres : doP m.pl o who = (storeP m.pl o.lk o.ls o.lt (valP o), zeroVp) := by unfold doP; rw [if_neg (by rw [hmay]; simp), if_neg (by omega), if_neg (by omega), if_neg (by omega), if_neg (by omega), if_neg (by omega), if_pos hk]
 rw [hres]
 clear hres
 unfold GivesDo
 have h := hm w hb0
 have ho := hok w hb0
 obtain ⟨HM, HG, HOK⟩ := zh3 hm hg hok
 have HMAY := zh (fun (W : World) (hb : Below w.heap.size w W) => refMay_any m o W (h.below hb) (ho.below hb))
 rw [hmay] at HMAY
 have HL := zh (fun (W : World) (hb : Below w.heap.size w W) => refLock_any m o.lock W (h.below hb))
 have HLK := zh (fun (W : World) (hW : w0 W) => lkOf_at (hm W hW) o.lock)
 have hpr := opRight_load (mayP_right hmay) (Or.inr hk)
 have hp2 := opRight_store (mayP_right hmay) hk
 have HST := zh (fun (B' : Nat) (W : World) (hW : B' ≤ W.heap.size) (hb : Below w.heap.size w W) => refStore_any w0 hg B' m o.lk o.ls o.lt ⟨o.vn, o.pe, o.bans, o.book⟩ W (hg _ _ hb0 hb) hW hm (fun W hW => (⟨(hok W hW).1, (hok W hW).2⟩ : VmAt W _)) ⟨hp2, hpr.2.1⟩ hpl hpr.2.2.1 hpr.2.2.2 hN)
 simp only at HST
 obtain ⟨_, qa, qc, eq, _⟩ := ins_open (lkOf_at h o.lock)
 obtain ⟨a1, a2, a3, a4, c1, c2, c3, c4, e1, e2, e3, e4⟩ := mm_slices h
 obtain ⟨_, oa, oc, eo, _⟩ := ba_open ho.1
 obtain ⟨_, ka, kc, ek, _⟩ := ey_open ho.2
 have hmm := zmm e1 e2 e3 e4
 have HMM := zh hmm
 obtain ⟨E1, E2, E3, E4, EQ, EO, EK⟩ := zh7 e1 e2 e3 e4 eq eo ek
 simp only [e1, e2, e3, e4, eo, ek, eq] at HMAY HL HST
 rw [e1, e2, e3, e4, eo, ek]
 clear e1 e2 e3 e4 eo ek hmm eq
 obtain ⟨x0, hx0, x1, hx1, n1, hn1, n2, hn2, n3, hn3, n4, hn4, nb, hnb, nk, hnk, qn, hqn, qb, hqb⟩ := nz10 m.inn m.out m.bans.2.length m.book.2.length m.parts.2.length m.locks.2.length o.bans.2.length o.book.2.length ((lkOf m o.lock).l.length) ((lkOf m o.lock).b)
 simp only [← hx0, ← hx1, ← hn1, ← hn2, ← hn3, ← hn4, ← hnb, ← hnk, ← hqn, ← hqb] at HMAY HL HST ⊢
 rw [← hx0, ← hx1, ← hn1, ← hn2, ← hn3, ← hn4] at HMM
 simp only [hk] at HMAY HL ⊢
 obtain ⟨HX0, HX1, HN1, HN2, HN3, HN4, HNB, HNK, HQN, HQB⟩ := zh10 hx0 hx1 hn1 hn2 hn3 hn4 hnb hnk hqn hqb
 clear h ho hm hok hg hmay hx0 hx1 hn1 hn2 hn3 hn4 hnb hnk hqn hqb hk hpr hp2 hpl hN
 go_enter Tryz.func15, Tryz.ntmps15
 go_upto_region 1 with fail
 refine wpn4 fun W5 B5 hBm hBo hBr hBv hs5 => ?_
 obtain ⟨m0, m1, m2, m3, m4, m5⟩ := hBm.e6
 have HBo := zh hBo
 go_upto_region 4 with (first
  | (refine list_load_blk rfl 56 _ rfl (w.heap.size + 1) _ 56 hBo rfl Tryz.underlying56 (by kernel_rfl) ?_)
  | (go_at_call 13; (with_reducible refine (HMAY.out _ B5).mono ?_); rintro e w1 ⟨rfl, b1⟩; have z1 := b1.size; have B6 := below2 B5 b1; have hBm1 := hBm.below b1; have hBo1 := hBo.below b1; have hBr1 := hBr.below b1; have hBv1 := hBv.below b1; clear m0 m1 m2 m3 m4 m5; obtain ⟨m0, m1, m2, m3, m4, m5⟩ := hBm1.e6; have mf := hBm1.frozen; have ml := hBm1.lt; obtain ⟨o0, o1⟩ := hBo1.e2)
  | (go_at_call 41; (with_reducible refine (HL.out _ B6).mono ?_); rintro e w2 ⟨rfl, b2⟩; have z2 := b2.size; have B7 := below2 B6 b2; have hBm2 := hBm1.below b2; have hBo2 := hBo1.below b2; have hBr2 := hBr1.below b2; have hBv2 := hBv1.below b2; clear m0 m1 m2 m3 m4 m5 mf ml o0 o1))
 refine wpn1 fun W3 bW2 hBl3 hs3 => ?_
 have B8 := below2 B7 bW2
 have hBm3 := hBm2.below bW2
 have hBo3 := hBo2.below bW2
 have hBr3 := hBr2.below bW2
 have hBv3 := hBv2.below bW2
 have hz3 : w.heap.size + 1 + 1 + 1 + 1 ≤ w2.heap.size := by omega
 clear hBm1 hBo1 hBr1 hBv1 hBm2 hBo2 hBr2 hBv2 hBm hBr hBv hBo
 obtain ⟨m0, m1, m2, m3, m4, m5⟩ := hBm3.e6; have mf := hBm3.frozen; have ml := hBm3.lt; have o0 := hBo3.c0; have o2 := hBo3.c2; have o3 := hBo3.c3; have o4 := hBo3.c4; have o7 := hBo3.c7; have o8 := hBo3.c8; have o9 := hBo3.c9; have o10 := hBo3.c10; have o11 := hBo3.c11; have o12 := hBo3.c12; have o13 := hBo3.c13; have o14 := hBo3.c14; have o15 := hBo3.c15; have o16 := hBo3.c16; have o17 := hBo3.c17; have o18 := hBo3.c18; have o19 := hBo3.c19; obtain ⟨l0, l1⟩ := hBl3.e2; have lf := hBl3.frozen; have ll := hBl3.lt
 go_wp2_with (first
  | (go_at_call 54; (with_reducible refine (HST.out (w2.heap.size + 1) _ (by omega) B8).mono ?_); unfold GivesMs; rintro e w7 ⟨m7, rfl, hM7, hp7, b7⟩; have z7 := b7.size; have B9 := below2 (w := w) B8 b7; have hm9 := hM7.now (HG.out _ _ hb0 B9); obtain ⟨d1, d2, d3, d4, g1, g2, g3, g4, u1, u2, u3, u4⟩ := mm_slices hm9; obtain ⟨y0, y1, ⟨y2, l2⟩, ⟨y3, l3⟩, ⟨y4, l4⟩, ⟨y5, l5⟩⟩ := m7; simp only at u1 u2 u3 u4; subst u1 u2 u3 u4; obtain ⟨HM7, HP7⟩ := zh2 hM7 hp7; have hBr7 := hBr3.below b7; have hBv7 := hBv3.below b7; clear hM7 hp7 hm9)
  | (refine list_store_blk rfl 40 _ _ rfl (w.heap.size + 1 + 1) _ _ 40 hBr7 rfl rfl (by kernel_rfl) rfl (by simp [Value.oneCell']) w.heap.size w B9 (by omega) ?_; intro w20 hR20 hoth20 hsz20 bw20)
  | (refine list_store_blk rfl 54 _ _ rfl (w.heap.size + 1 + 1 + 1) _ _ 54 (hoth20 _ _ _ (by omega) hBv7) rfl rfl (by kernel_rfl) rfl (by simp [Value.oneCell']) w.heap.size w bw20 (by omega) ?_; intro w21 hV21 hoth21 hsz21 bw21))
 have hR21 := hoth21 _ _ _ (by omega) hR20
 obtain ⟨e90, e91, e92, e93, e94, e95⟩ := hR21.e6; obtain ⟨f90, f91, f92, f93, f94, f95, f96, f97, f98, f99, f910, f911, f912⟩ := hV21.e13
 exact bodyPost_ret (v := .tuple #[.agg #[.int .i64 y0, .int .i64 y1, .slice d1 l2.length g1, .slice d2 l3.length g2, .slice d3 l4.length g3, .slice d4 l5.length g4], .agg #[.int .i64 0, .bool false, .int .u64 0, .int .u64 0, .int .i64 0, .bool false, .int .i64 0, .int .i64 0, .int .i64 0, .int .i64 0, .int .i64 0, .slice none 0 0, .slice none 0 0]]) (by simp [results, Tryz.results15, go_sem, e90, e91, e92, e93, e94, e95, f90, f91, f92, f93, f94, f95, f96, f97, f98, f99, f910, f911, f912]) rfl ⟨⟨y0, y1, (.slice d1 l2.length g1, l2), (.slice d2 l3.length g2, l3), (.slice d3 l4.length g3, l4), (.slice d4 l5.length g4, l5)⟩, zeroVm, rfl, ((Firm.keep HM7.out (fun g arr T h1 hb => hoth21 _ _ _ (by omega) (hoth20 _ _ _ (by omega) hb))).from (by omega : B ≤ w2.heap.size + 1)), (Firm.old fun W _ => zeroVm_at W), HP7.out, rfl, bw21⟩

set_option maxHeartbeats 16000000 in
theorem refDo_7 (w0 : World → Prop) (hg : Grows w0) (B : Nat) (m : Mm) (o : Oq) (who : Int) (w : World) (hb0 : w0 w) (hB : B ≤ w.heap.size) (hm : ∀ W, w0 W → MmAt W m) (hok : ∀ W, w0 W → OqAt W o) (hmay : mayP m.pl o = true) (hk : o.kind = 7) :
  DoC 15 w0 B m o who w := by
 unfold DoC
 have hres : doP m.pl o who = swapP m.pl o.lk o.old o.new := by unfold doP; rw [if_neg (by rw [hmay]; simp), if_neg (by omega), if_neg (by omega), if_neg (by omega), if_neg (by omega), if_neg (by omega), if_neg (by omega), if_pos hk]
 rw [hres]
 clear hres
 unfold GivesDo
 have h := hm w hb0
 have ho := hok w hb0
 obtain ⟨HM, HG, HOK⟩ := zh3 hm hg hok
 have HMAY := zh (fun (W : World) (hb : Below w.heap.size w W) => refMay_any m o W (h.below hb) (ho.below hb))
 rw [hmay] at HMAY
 have HL := zh (fun (W : World) (hb : Below w.heap.size w W) => refLock_any m o.lock W (h.below hb))
 have HLK := zh (fun (W : World) (hW : w0 W) => lkOf_at (hm W hW) o.lock)
 have hlk : o.lk = 1 ∨ o.lk = 2 := by
  have hr := mayP_right hmay
  unfold opRight at hr
  rw [Bool.and_eq_true] at hr
  simp [hk] at hr
  omega
 have hdis : (o.lk = 1 ∧ (m.inn == o.old) = true ∧ swapP m.pl o.lk o.old o.new = ({ m.pl with inn := o.new }, { zeroVp with n := 1 })) ∨ (o.lk = 1 ∧ (m.inn == o.old) = false ∧ swapP m.pl o.lk o.old o.new = (m.pl, zeroVp)) ∨ (o.lk = 2 ∧ (m.out == o.old) = true ∧ swapP m.pl o.lk o.old o.new = ({ m.pl with out := o.new }, { zeroVp with n := 1 })) ∨ (o.lk = 2 ∧ (m.out == o.old) = false ∧ swapP m.pl o.lk o.old o.new = (m.pl, zeroVp)) := by
  rcases hlk with hlk | hlk
  ·by_cases he : m.inn = o.old
   ·exact Or.inl ⟨hlk, by simpa using he, by unfold swapP; rw [if_neg (by omega), if_pos (show m.pl.inn = o.old from he)]⟩
   ·exact Or.inr (Or.inl ⟨hlk, by simpa using he, by unfold swapP; rw [if_neg (by omega), if_neg (show ¬ m.pl.inn = o.old from he)]⟩)
  ·by_cases he : m.out = o.old
   ·exact Or.inr (Or.inr (Or.inl ⟨hlk, by simpa using he, by unfold swapP; rw [if_pos hlk, if_pos (show m.pl.out = o.old from he)]⟩))
   ·exact Or.inr (Or.inr (Or.inr ⟨hlk, by simpa using he, by unfold swapP; rw [if_pos hlk, if_neg (show ¬ m.pl.out = o.old from he)]⟩))
 clear hlk
 obtain ⟨_, qa, qc, eq, _⟩ := ins_open (lkOf_at h o.lock)
 obtain ⟨a1, a2, a3, a4, c1, c2, c3, c4, e1, e2, e3, e4⟩ := mm_slices h
 obtain ⟨_, oa, oc, eo, _⟩ := ba_open ho.1
 obtain ⟨_, ka, kc, ek, _⟩ := ey_open ho.2
 have hmm := zmm e1 e2 e3 e4
 have HMM := zh hmm
 obtain ⟨E1, E2, E3, E4, EQ, EO, EK⟩ := zh7 e1 e2 e3 e4 eq eo ek
 simp only [e1, e2, e3, e4, eo, ek, eq] at HMAY HL 
 rw [e1, e2, e3, e4, eo, ek]
 clear e1 e2 e3 e4 eo ek hmm eq
 obtain ⟨x0, hx0, x1, hx1, n1, hn1, n2, hn2, n3, hn3, n4, hn4, nb, hnb, nk, hnk, qn, hqn, qb, hqb⟩ := nz10 m.inn m.out m.bans.2.length m.book.2.length m.parts.2.length m.locks.2.length o.bans.2.length o.book.2.length ((lkOf m o.lock).l.length) ((lkOf m o.lock).b)
 simp only [← hx0, ← hx1, ← hn1, ← hn2, ← hn3, ← hn4, ← hnb, ← hnk, ← hqn, ← hqb] at HMAY HL  ⊢
 rw [← hx0, ← hx1, ← hn1, ← hn2, ← hn3, ← hn4] at HMM
 rw [← hx0, ← hx1] at hdis
 simp only [hk] at HMAY HL ⊢
 obtain ⟨HX0, HX1, HN1, HN2, HN3, HN4, HNB, HNK, HQN, HQB⟩ := zh10 hx0 hx1 hn1 hn2 hn3 hn4 hnb hnk hqn hqb
 clear h ho hm hok hg hmay hx0 hx1 hn1 hn2 hn3 hn4 hnb hnk hqn hqb hk
 rcases hdis with ⟨hlk, f9, hs⟩ | ⟨hlk, f9, hs⟩ | ⟨hlk, f9, hs⟩ | ⟨hlk, f9, hs⟩
 all_goals
  rw [hs]
  simp only [hlk] at HMAY HL ⊢
  clear hs hlk
  go_enter Tryz.func15, Tryz.ntmps15
  go_upto_region 1 with fail
  refine nmw4 fun W5 B5 hBm hBo hBr hBv hs5 => ?_
  obtain ⟨m0, m1, m2, m3, m4, m5⟩ := hBm.e6
  have HBo := zh hBo
  go_upto_region 4 with (first
   | (refine list_load_blk rfl 56 _ rfl (w.heap.size + 1) _ 56 hBo rfl Tryz.underlying56 (by kernel_rfl) ?_)
   | (go_at_call 13; (with_reducible refine (HMAY.out _ B5).mono ?_); rintro e w1 ⟨rfl, b1⟩; have z1 := b1.size; have B6 := below2 B5 b1; have hBm1 := hBm.below b1; have hBo1 := hBo.below b1; have hBr1 := hBr.below b1; have hBv1 := hBv.below b1; clear m0 m1 m2 m3 m4 m5; obtain ⟨m0, m1, m2, m3, m4, m5⟩ := hBm1.e6; have mf := hBm1.frozen; have ml := hBm1.lt; obtain ⟨o0, o1⟩ := hBo1.e2)
   | (go_at_call 41; (with_reducible refine (HL.out _ B6).mono ?_); rintro e w2 ⟨rfl, b2⟩; have z2 := b2.size; have B7 := below2 B6 b2; have hBm2 := hBm1.below b2; have hBo2 := hBo1.below b2; have hBr2 := hBr1.below b2; have hBv2 := hBv1.below b2; clear m0 m1 m2 m3 m4 m5 mf ml o0 o1))
  refine nmw1 fun W3 b3 hBl3 hs3 => ?_
  have B8 := below2 B7 b3
  have hBm3 := hBm2.below b3; have hBo3 := hBo2.below b3; have hBr3 := hBr2.below b3; have hBv3 := hBv2.below b3
  have hz3 : w.heap.size + 1 + 1 + 1 + 1 ≤ w2.heap.size := by omega
  clear hBm1 hBo1 hBr1 hBv1 hBm2 hBo2 hBr2 hBv2 hBm hBr hBv hBo
  obtain ⟨m0, m1, m2, m3, m4, m5⟩ := hBm3.e6; have mf := hBm3.frozen; have ml := hBm3.lt; have o0 := hBo3.c0; have o2 := hBo3.c2; have o5 := hBo3.c5; have o6 := hBo3.c6; obtain ⟨l0, l1⟩ := hBl3.e2; have lf := hBl3.frozen; have ll := hBl3.lt
  go_wp2_with (first
   | (refine list_store_blk rfl 40 _ _ rfl (w.heap.size + 1 + 1) _ _ 40 (show BlockIs _ (w.heap.size + 1 + 1) [.int .i64 0, .int .i64 0, .slice none 0 0, .slice none 0 0, .slice none 0 0, .slice none 0 0] 40 from (by exact rcx hBr3)) rfl rfl (by kernel_rfl) rfl (by simp [Value.oneCell']) w.heap.size w (by exact bel) (by omega) ?_; intro w20 hR20 hoth20 hsz20 bw20)
   | (refine list_store_blk rfl 54 _ _ rfl (w.heap.size + 1 + 1 + 1) _ _ 54 (hoth20 _ _ _ (by omega) (show BlockIs _ (w.heap.size + 1 + 1 + 1) [.int .i64 0, .bool false, .int .u64 0, .int .u64 0, .int .i64 0, .bool false, .int .i64 0, .int .i64 0, .int .i64 0, .int .i64 0, .int .i64 0, .slice none 0 0, .slice none 0 0] 54 from (by exact rcx hBv3))) rfl rfl (by kernel_rfl) rfl (by simp [Value.oneCell']) w.heap.size w bw20 (by omega) ?_; intro w21 hV21 hoth21 hsz21 bw21))
  have hR21 := hoth21 _ _ _ (by omega) hR20
  obtain ⟨e90, e91, e92, e93, e94, e95⟩ := hR21.e6; obtain ⟨f90, f91, f92, f93, f94, f95, f96, f97, f98, f99, f910, f911, f912⟩ := hV21.e13
  first
   | exact bodyPost_ret (v := .tuple #[.agg #[.int .i64 x0, .int .i64 x1, .slice a1 n1 c1, .slice a2 n2 c2, .slice a3 n3 c3, .slice a4 n4 c4], .agg #[.int .i64 0, .bool false, .int .u64 0, .int .u64 0, .int .i64 0, .bool false, .int .i64 0, .int .i64 0, .int .i64 0, .int .i64 0, .int .i64 0, .slice none 0 0, .slice none 0 0]]) (by simp [results, Tryz.results15, go_sem, e90, e91, e92, e93, e94, e95, f90, f91, f92, f93, f94, f95, f96, f97, f98, f99, f910, f911, f912]) rfl ⟨m, zeroVm, (by rw [HMM.out]; rfl), (Firm.old HM.out), (Firm.old fun W _ => zeroVm_at W), rfl, rfl, bw21⟩
   | exact bodyPost_ret (v := .tuple #[.agg #[.int .i64 o.new, .int .i64 x1, .slice a1 n1 c1, .slice a2 n2 c2, .slice a3 n3 c3, .slice a4 n4 c4], .agg #[.int .i64 1, .bool false, .int .u64 0, .int .u64 0, .int .i64 0, .bool false, .int .i64 0, .int .i64 0, .int .i64 0, .int .i64 0, .int .i64 0, .slice none 0 0, .slice none 0 0]]) (by simp [results, Tryz.results15, go_sem, e90, e91, e92, e93, e94, e95, f90, f91, f92, f93, f94, f95, f96, f97, f98, f99, f910, f911, f912]) rfl ⟨{ m with inn := o.new }, ⟨1, zeroPe, (.slice none 0 0, []), (.slice none 0 0, [])⟩, (by simp only [HX0.out, HX1.out, E1.out, E2.out, E3.out, E4.out, ← HN1.out, ← HN2.out, ← HN3.out, ← HN4.out]; rfl), (Firm.old HM.out), (Firm.old fun W _ => zeroVm_at W), rfl, rfl, bw21⟩
   | exact bodyPost_ret (v := .tuple #[.agg #[.int .i64 x0, .int .i64 o.new, .slice a1 n1 c1, .slice a2 n2 c2, .slice a3 n3 c3, .slice a4 n4 c4], .agg #[.int .i64 1, .bool false, .int .u64 0, .int .u64 0, .int .i64 0, .bool false, .int .i64 0, .int .i64 0, .int .i64 0, .int .i64 0, .int .i64 0, .slice none 0 0, .slice none 0 0]]) (by simp [results, Tryz.results15, go_sem, e90, e91, e92, e93, e94, e95, f90, f91, f92, f93, f94, f95, f96, f97, f98, f99, f910, f911, f912]) rfl ⟨{ m with out := o.new }, ⟨1, zeroPe, (.slice none 0 0, []), (.slice none 0 0, [])⟩, (by simp only [HX0.out, HX1.out, E1.out, E2.out, E3.out, E4.out, ← HN1.out, ← HN2.out, ← HN3.out, ← HN4.out]; rfl), (Firm.old HM.out), (Firm.old fun W _ => zeroVm_at W), rfl, rfl, bw21⟩
set_option maxHeartbeats 16000000 in
theorem refDo_8 (w0 : World → Prop) (hg : Grows w0) (B : Nat) (m : Mm) (o : Oq) (who : Int) (w : World) (hb0 : w0 w) (hB : B ≤ w.heap.size) (hm : ∀ W, w0 W → MmAt W m) (hok : ∀ W, w0 W → OqAt W o) (hmay : mayP m.pl o = true) (hk : 1 ≤ o.kind → 8 ≤ o.kind) :
  DoC 15 w0 B m o who w := by
 unfold DoC
 have hres : doP m.pl o who = (m.pl, zeroVp) := by unfold doP; rw [if_neg (by rw [hmay]; simp), if_neg (by omega), if_neg (by omega), if_neg (by omega), if_neg (by omega), if_neg (by omega), if_neg (by omega), if_neg (by omega)]
 rw [hres]
 clear hres
 unfold GivesDo
 have h := hm w hb0
 have ho := hok w hb0
 obtain ⟨HM, HG, HOK⟩ := zh3 hm hg hok
 have HMAY := zh (fun (W : World) (hb : Below w.heap.size w W) => refMay_any m o W (h.below hb) (ho.below hb))
 rw [hmay] at HMAY
 have HL := zh (fun (W : World) (hb : Below w.heap.size w W) => refLock_any m o.lock W (h.below hb))
 have HLK := zh (fun (W : World) (hW : w0 W) => lkOf_at (hm W hW) o.lock)
 have hk1 : o.kind ≠ 1 := (by omega); have hk2 : o.kind ≠ 2 := (by omega); have hk3 : o.kind ≠ 3 := (by omega); have hk4 : o.kind ≠ 4 := (by omega); have hk5 : o.kind ≠ 5 := (by omega); have hk6 : o.kind ≠ 6 := (by omega); have hk7 : o.kind ≠ 7 := (by omega)
 obtain ⟨_, qa, qc, eq, _⟩ := ins_open (lkOf_at h o.lock)
 obtain ⟨a1, a2, a3, a4, c1, c2, c3, c4, e1, e2, e3, e4⟩ := mm_slices h
 obtain ⟨_, oa, oc, eo, _⟩ := ba_open ho.1
 obtain ⟨_, ka, kc, ek, _⟩ := ey_open ho.2
 have hmm := zmm e1 e2 e3 e4
 have HMM := zh hmm
 obtain ⟨E1, E2, E3, E4, EQ, EO, EK⟩ := zh7 e1 e2 e3 e4 eq eo ek
 simp only [e1, e2, e3, e4, eo, ek, eq] at HMAY HL 
 rw [e1, e2, e3, e4, eo, ek]
 clear e1 e2 e3 e4 eo ek hmm eq
 obtain ⟨x0, hx0, x1, hx1, n1, hn1, n2, hn2, n3, hn3, n4, hn4, nb, hnb, nk, hnk, qn, hqn, qb, hqb⟩ := nz10 m.inn m.out m.bans.2.length m.book.2.length m.parts.2.length m.locks.2.length o.bans.2.length o.book.2.length ((lkOf m o.lock).l.length) ((lkOf m o.lock).b)
 simp only [← hx0, ← hx1, ← hn1, ← hn2, ← hn3, ← hn4, ← hnb, ← hnk, ← hqn, ← hqb] at HMAY HL  ⊢
 rw [← hx0, ← hx1, ← hn1, ← hn2, ← hn3, ← hn4] at HMM
 have f1 : (o.kind == 1) = false := beq_eq_false_iff_ne.2 hk1
 have f2 : (o.kind == 2) = false := beq_eq_false_iff_ne.2 hk2
 have f3 : (o.kind == 3) = false := beq_eq_false_iff_ne.2 hk3
 have f4 : (o.kind == 4) = false := beq_eq_false_iff_ne.2 hk4
 have f5 : (o.kind == 5) = false := beq_eq_false_iff_ne.2 hk5
 have f6 : (o.kind == 6) = false := beq_eq_false_iff_ne.2 hk6
 have f7 : (o.kind == 7) = false := beq_eq_false_iff_ne.2 hk7
 obtain ⟨HX0, HX1, HN1, HN2, HN3, HN4, HNB, HNK, HQN, HQB⟩ := zh10 hx0 hx1 hn1 hn2 hn3 hn4 hnb hnk hqn hqb
 clear h ho hm hok hg hmay hx0 hx1 hn1 hn2 hn3 hn4 hnb hnk hqn hqb hk hk1 hk2 hk3 hk4 hk5 hk6 hk7
 go_enter Tryz.func15, Tryz.ntmps15
 go_upto_region 1 with fail
 refine wpn4 fun W5 B5 hBm hBo hBr hBv hs5 => ?_
 obtain ⟨m0, m1, m2, m3, m4, m5⟩ := hBm.e6
 have HBo := zh hBo
 go_upto_region 4 with (first
  | (refine list_load_blk rfl 56 _ rfl (w.heap.size + 1) _ 56 hBo rfl Tryz.underlying56 (by kernel_rfl) ?_)
  | (go_at_call 13; (with_reducible refine (HMAY.out _ B5).mono ?_); rintro e w1 ⟨rfl, b1⟩; have z1 := b1.size; have B6 := below2 B5 b1; have hBm1 := hBm.below b1; have hBo1 := hBo.below b1; have hBr1 := hBr.below b1; have hBv1 := hBv.below b1; clear m0 m1 m2 m3 m4 m5; obtain ⟨m0, m1, m2, m3, m4, m5⟩ := hBm1.e6; have mf := hBm1.frozen; have ml := hBm1.lt; obtain ⟨o0, o1⟩ := hBo1.e2)
  | (go_at_call 41; (with_reducible refine (HL.out _ B6).mono ?_); rintro e w2 ⟨rfl, b2⟩; have z2 := b2.size; have B7 := below2 B6 b2; have hBm2 := hBm1.below b2; have hBo2 := hBo1.below b2; have hBr2 := hBr1.below b2; have hBv2 := hBv1.below b2; clear m0 m1 m2 m3 m4 m5 mf ml o0 o1))
 refine wpn1 fun W3 bW2 hBl3 hs3 => ?_
 have B8 := below2 B7 bW2
 have hBm3 := hBm2.below bW2
 have hBo3 := hBo2.below bW2
 have hBr3 := hBr2.below bW2
 have hBv3 := hBv2.below bW2
 have hz3 : w.heap.size + 1 + 1 + 1 + 1 ≤ w2.heap.size := by omega
 clear hBm1 hBo1 hBr1 hBv1 hBm2 hBo2 hBr2 hBv2 hBm hBr hBv hBo
 obtain ⟨m0, m1, m2, m3, m4, m5⟩ := hBm3.e6; have mf := hBm3.frozen; have ml := hBm3.lt; obtain ⟨o0, o1⟩ := hBo3.e2; obtain ⟨l0, l1⟩ := hBl3.e2; have lf := hBl3.frozen; have ll := hBl3.lt
 go_wp2_with (first
  | (refine list_store_blk rfl 40 _ _ rfl (w.heap.size + 1 + 1) _ _ 40 hBr3 rfl rfl (by kernel_rfl) rfl (by simp [Value.oneCell']) w.heap.size w B8 (by omega) ?_; intro w20 hR20 hoth20 hsz20 bw20)
  | (refine list_store_blk rfl 54 _ _ rfl (w.heap.size + 1 + 1 + 1) _ _ 54 (hoth20 _ _ _ (by omega) hBv3) rfl rfl (by kernel_rfl) rfl (by simp [Value.oneCell']) w.heap.size w bw20 (by omega) ?_; intro w21 hV21 hoth21 hsz21 bw21))
 have hR21 := hoth21 _ _ _ (by omega) hR20
 obtain ⟨e90, e91, e92, e93, e94, e95⟩ := hR21.e6; obtain ⟨f90, f91, f92, f93, f94, f95, f96, f97, f98, f99, f910, f911, f912⟩ := hV21.e13
 exact bodyPost_ret (v := .tuple #[.agg #[.int .i64 x0, .int .i64 x1, .slice a1 n1 c1, .slice a2 n2 c2, .slice a3 n3 c3, .slice a4 n4 c4], .agg #[.int .i64 0, .bool false, .int .u64 0, .int .u64 0, .int .i64 0, .bool false, .int .i64 0, .int .i64 0, .int .i64 0, .int .i64 0, .int .i64 0, .slice none 0 0, .slice none 0 0]]) (by simp [results, Tryz.results15, go_sem, e90, e91, e92, e93, e94, e95, f90, f91, f92, f93, f94, f95, f96, f97, f98, f99, f910, f911, f912]) rfl ⟨m, zeroVm, (by rw [HMM.out]; rfl), (Firm.old HM.out), (Firm.old fun W _ => zeroVm_at W), rfl, rfl, bw21⟩
end Go.Proofs.YtnplgagaoeckoaaGreat
namespace Go.Proofs.YtnplgagaoeckoaaGreat
open Go.RowKit Go.Lib
def cntE (t : Int) (l : List Ey) : Nat := (l.filter fun p => p.state == t).length
theorem cntE_snoc (t : Int) (l : List Ey) (x : Ey) : cntE t (l ++ [x]) = cntE t l + (if x.state = t then 1 else 0) := by
 unfold cntE
 rw [List.filter_append, List.length_append]
 by_cases h : x.state = t <;> simp [h]
theorem cntE_le (t : Int) (l : List Ey) : cntE t l ≤ l.length := List.length_filter_le _ _
set_option maxHeartbeats 4000000 in
theorem bookCount_any (v : Value) (l : List Ey) (t : Int) (w : World) (h : ReadsL eyV 7 w v l) :
  Calls Tryz.prog 31 #[v, .int .i64 t] w fun e w' => e = .returned (.int .i64 (cntE t l)) ∧ Below w.heap.size w w' := by
 obtain ⟨hm, p, c, rfl, h3⟩ := ey_open h
 clear h
 go_enter Tryz.func31, Tryz.ntmps31
 go_wp2_with fail
 go_loopw [5, 10] (fun n' i' wr => ∃ k : Nat, k ≤ l.length ∧ i' = .int .i64 k ∧ n' = .int .i64 (cntE t (l.take k)) ∧ Hid (Below w.heap.size w wr)) (fun _ i' _ => l.length - (intOf i').toNat)
 case atStart => exact ⟨0, by omega, rfl, rfl, Below.refl _ _⟩
 case round =>
  obtain ⟨k, hk, rfl, rfl, HB⟩ := hrel
  by_cases hlt : k < l.length
  ·obtain ⟨x, hx⟩ : ∃ x, l[k]? = some x := ⟨_, List.getElem?_eq_getElem hlt⟩
   obtain ⟨b, o, rfl, h4, h5, h6⟩ := h3 (by omega)
   obtain ⟨k0, k1, k2, k3, k4, k5, k6⟩ := h6 k x hx
   have k0 := keep HB.out h5 k0; have k1 := keep HB.out h5 k1; have k2 := keep HB.out h5 k2; have k3 := keep HB.out h5 k3; have k4 := keep HB.out h5 k4; have k5 := keep HB.out h5 k5; have k6 := keep HB.out h5 k6
   have q1 : (0 : Int) ≤ (k : Int) := by omega
   have q2 : (k : Int) < (l.length : Int) := by omega
   have hS := cntE_snoc t (l.take k) x
   rw [← show l.take (k + 1) = l.take k ++ [x] by rw [List.take_add_one, hx, Option.toList_some]] at hS
   have HS := zh hS
   have hcl : cntE t (l.take k) ≤ k := Nat.le_trans (cntE_le _ _) (by rw [List.length_take]; omega)
   have b5 : Below wr.heap.size wr (wr.alloc (.cells #[.bool x.en.ad.v6, .int .u64 x.en.ad.hi, .int .u64 x.en.ad.lo, .int .i64 x.en.port, .int .i64 x.state, .int .i64 x.fails, .int .i64 x.next] 87)) := (Below.refl _ _).alloc (Nat.le_refl _) _
   have HB5 := zh (HB.out.trans (b5.mono HB.out.size))
   clear hx h6 hS b5
   by_cases hc : x.state = t
   ·have HS2 : Hid (cntE t (l.take (k + 1)) = cntE t (l.take k) + 1) := by show _ = _; rw [HS.out, if_pos hc]
    have f1 : (x.state == t) = true := by simpa using hc
    clear hc
    go_wp2_with fail
    go_roundw
    case rel => exact ⟨k + 1, by omega, by go_num, by rw [HS2.out]; go_num, HB5.out⟩
    case measure => simp [intOf]; omega
   ·have HS2 : Hid (cntE t (l.take (k + 1)) = cntE t (l.take k)) := by show _ = _; rw [HS.out, if_neg hc]; rfl
    have f1 : (x.state == t) = false := by simpa using hc
    clear hc
    go_wp2_with fail
    go_roundw
    case rel => exact ⟨k + 1, by omega, by go_num, by rw [HS2.out], HB5.out⟩
    case measure => simp [intOf]; omega
  ·obtain rfl : k = l.length := by omega
   have HR : Hid (cntE t (l.take l.length) = cntE t l) := by show _ = _; rw [List.take_length]
   go_wp2_with fail
   go_ret
   exact ⟨by rw [HR.out]; rfl, HB.out⟩
end Go.Proofs.YtnplgagaoeckoaaGreat
namespace Go.Proofs.YtnplgagaoeckoaaGreat
open Go.RowKit
def newP (secret : Nat) (sh : Int) (bl : List Ba) (kl : List Ey) (pl : List Pe) : Pm := ⟨cntL true pl, (cntL false pl : Int) + (cntE 2 kl : Int), bl, kl, (List.range (partsN sh)).map (fun i => (((partL pl secret sh i).length : Int), partL pl secret sh i)), List.replicate (partsN sh + 2) (0, [])⟩
def zLk : Lk := zeroLk
theorem run_make_lk (m : Nat) (h : m ≤ 1000) (W : World) : (Instr.makeSlice 38 (.int .i64 (m : Nat)) (.int .i64 (m : Nat))).run Tryz.prog W = .ok (.slice (some ⟨W.heap.size, 0, none⟩) m m) (W.alloc (.cells ((List.replicate m zLk).flatMap lkV).toArray 90)) := by
 obtain ⟨i, hi, hz0, hz1, hz2⟩ := info_parts (show (Tryz.prog.info? 90).map (fun i => (i.zero, i.size, i.bytes)) = some (some (.agg #[.int .i64 0, .slice none 0 0]), 2, 32) by kernel_rfl)
 have := run_make (P := Tryz.prog) W 38 90 i (.agg #[.int .i64 0, .slice none 0 0]) Tryz.underlying38 hi hz0 .i64 .i64 m m (by omega) (by omega) (by rw [hz2]; omega) (by omega)
 have e1 : ((m : Nat) : Int).toNat = m := by omega
 have e2 : madeCells (Value.agg #[.int .i64 0, .slice none 0 0]).cells (m * 2) = ((List.replicate m zLk).flatMap lkV).toArray := by
  rw [made_pair _ _ (by simp [Value.cells]) (by simp [Value.cells]), List.flatMap_replicate]; rfl
 rw [this, e1, hz1, e2]
theorem parts_pl {ss : List Sh} {pl : List Pe} {s : Nat} {n : Int} (h : PartsOf ss pl s n) : ss.map (fun s => (s.size, s.l)) = (List.range (partsN n)).map (fun i => (((partL pl s n i).length : Int), partL pl s n i)) := by
 apply List.ext_getElem?
 intro i
 rw [List.getElem?_map, List.getElem?_map]
 by_cases hi : i < ss.length
 ·have hx := List.getElem?_eq_getElem hi
  rw [hx, List.getElem?_range (by rw [← h.1]; exact hi)]
  simp only [Option.map_some]
  obtain ⟨e1, e2⟩ := h.2 i _ hx
  rw [e1, e2]
 ·rw [List.getElem?_eq_none (by omega), List.getElem?_eq_none (by rw [List.length_range, ← h.1]; omega)]; rfl
theorem lks_made {W : World} {g M : Nat} (h : BlockIs W g ((List.replicate M zLk).flatMap lkV) 90) (hM : M ≤ 1000) (h0 : 0 < M) : ReadsLk W (.slice (some ⟨g, 0, none⟩) M M) (List.replicate M zLk) := by
 refine ⟨?_, fun k hk => by rw [List.eq_of_mem_replicate hk]; exact ReadsL.nil _ _ _ _ _⟩
 have hl : ((List.replicate M zLk).flatMap lkV).length = M * 2 := by
  rw [List.length_flatMap]; simp [lkV]
 have h2 : (List.replicate M zLk).length = M := List.length_replicate
 have := reads_blkC (n := 2) h (by omega) (by omega) (by rw [hl, h2])
 rwa [h2] at this

set_option maxHeartbeats 16000000 in
theorem memNew_any (c : Cf) (hs : c.secret < 18446744073709551616) (vb vk vp : Value) (bl : List Ba) (kl : List Ey) (pl : List Pe) (w : World) (hb : ReadsL baV 5 w vb bl) (hk : ReadsL eyV 7 w vk kl) (hp : ReadsL peV 10 w vp pl) (hf : ∀ p ∈ pl, p.en.ad.fits) (hbn : bl.length ≤ 1000) (hkn : kl.length ≤ 1000) (hpn : pl.length ≤ 1000000) :
  Calls Tryz.prog 9 #[.agg #[.int .i64 c.mi, .int .i64 c.mo, .int .i64 c.sh, .int .i64 c.mb, .int .i64 c.mbk, .int .u64 c.secret, .int .i64 c.qg, .int .i64 c.qp, .int .i64 c.qw, .int .i64 c.qt, .int .i64 c.half, .int .i64 c.limit, .int .i64 c.banfor, .int .i64 c.base, .int .i64 c.cap, .int .i64 c.jitter], .agg #[vb, vk, vp]] w fun e w' => ∃ m : Mm, e = .returned (.agg #[.int .i64 m.inn, .int .i64 m.out, m.bans.1, m.book.1, m.parts.1, m.locks.1]) ∧ (∀ W, (∀ b arr T, w.heap.size ≤ b → BlockIs w' b arr T → BlockIs W b arr T) → MmAt W m) ∧ m.pl = newP c.secret c.sh bl kl pl ∧ Below w.heap.size w w' := by
 have HSP := zh (fun (W : World) (hB : Below w.heap.size w W) => shSplit_firm vp pl c.secret hs c.sh W (ReadsL.below hp hB) hf hpn)
 have HCT := zh (fun (W : World) (hB : Below w.heap.size w W) => tcount_true vp pl W (ReadsL.below hp hB))
 have HCF := zh (fun (W : World) (hB : Below w.heap.size w W) => tcount_false vp pl W (ReadsL.below hp hB))
 have HCE := zh (fun (W : World) (hB : Below w.heap.size w W) => bookCount_any vk kl 2 W (ReadsL.below hk hB))
 have HCB := zh (fun (W : World) (hB : Below w.heap.size w W) => cloneBn vb bl.length (bl.flatMap baV) W (ReadsL.below hb hB) (baV_onesM _) (by omega))
 have HCK := zh (fun (W : World) (hB : Below w.heap.size w W) => cloneEy vk kl.length (kl.flatMap eyV) W (ReadsL.below hk hB) (eyV_ones _) (by omega))
 obtain ⟨_, a1, c1, e1, _⟩ := ba_open hb
 obtain ⟨_, a2, c2, e2, _⟩ := ey_open hk
 obtain ⟨_, a3, c3, e3, _⟩ := pes_open hp
 subst e1 e2 e3
 have hmi := partsN_in c.sh
 have hml : ∀ W, (Instr.makeSlice 38 (.int .i64 ((partsN c.sh : Int) + 2)) (.int .i64 ((partsN c.sh : Int) + 2))).run Tryz.prog W = .ok (.slice (some ⟨W.heap.size, 0, none⟩) (partsN c.sh + 2) (partsN c.sh + 2)) (W.alloc (.cells ((List.replicate (partsN c.sh + 2) zLk).flatMap lkV).toArray 90)) := fun W => by
  have := run_make_lk (partsN c.sh + 2) (by omega) W
  rwa [show ((partsN c.sh + 2 : Nat) : Int) = (partsN c.sh : Int) + 2 by omega] at this
 obtain ⟨M, hM⟩ : ∃ M, M = partsN c.sh := ⟨_, rfl⟩
 have hcw : IntKind.i64.wrap ((cntL false pl : Int) + (cntE 2 kl : Int)) = (cntL false pl : Int) + (cntE 2 kl : Int) := by
  have h1 := cntL_le false pl; have h2 := cntE_le 2 kl
  rw [IntKind.wrap_i64]; omega
 have HEND := zh (fun (a4 : Option Addr) (c4 : Nat) (ss : List Sh) (hPO : PartsOf ss pl c.secret c.sh) (a5 a6 : Option Addr) (c5 c6 : Nat) => True.intro)
 obtain ⟨n1, hn1, n2, hn2, n3, hn3⟩ := nz3 bl.length kl.length pl.length
 simp only [← hn1, ← hn2, ← hn3] at HSP HCT HCF HCE HCB HCK ⊢
 rw [← hM] at hml hmi
 have hlen : IntKind.i64.wrap ((M : Int) + 2) = (M : Int) + 2 := by rw [IntKind.wrap_i64]; omega
 obtain ⟨HN1, HN2, HN3, HMM⟩ := zh4 hn1 hn2 hn3 hM
 clear hn1 hn2 hn3 hM hb hk hp hf hbn hkn hpn HEND hs
 go_enter Tryz.func9, Tryz.ntmps9
 go_upto_region 1 with fail
 refine wpn3 fun W3 B3 hBc hBs hBr hs3 => ?_
 have k2 := hBc.c2; have k5 := hBc.c5
 obtain ⟨s0, s1, s2⟩ := hBs.e3; obtain ⟨r0, r1, r2, r3, r4, r5⟩ := hBr.e6; have rf := hBr.frozen; have rl := hBr.lt
 go_upto_region 2 with (go_at_call 29; (with_reducible refine (HSP.out _ B3).mono ?_); rintro e w4 ⟨r4, ss, rfl, hS4, hPO, b4⟩)
 have B4 := below2 (w := w) B3 b4; have hBs4 := hBs.below b4; have hBr4 := hBr.below b4
 have HS4 := zh (fun (W : World) (hk : ∀ b arr T, w.heap.size + 1 + 1 + 1 ≤ b → BlockIs w4 b arr T → BlockIs W b arr T) => hS4 W fun b arr T h1 h2 => hk b arr T (by omega) h2)
 obtain ⟨_, a4, c4, e4, _⟩ := shs_open (hS4 w4 fun _ _ _ _ h => h).1
 have hMs : M = ss.length := by rw [hPO.1]; exact HMM.out
 rw [← hMs] at e4
 subst e4
 obtain ⟨HMS, HPO⟩ := zh2 hMs hPO
 have HEND : Hid (∀ (a5 : Option Addr) (c5 : Nat) (a6 : Option Addr) (c6 G : Nat) (wx w20 : World), (∀ k arr u, k ≠ w.heap.size + 1 + 1 → BlockIs wx k arr u → BlockIs w20 k arr u) → Below w.heap.size w w20 → w.heap.size + 1 + 1 + 1 ≤ G → Hid (wx.ownsRow (w.heap.size + 1 + 1 + 1) 84 5 (.slice a5 n1 c5) n1 (bl.flatMap baV)) → Hid (wx.ownsRow (w.heap.size + 1 + 1 + 1) 87 7 (.slice a6 n2 c6) n2 (kl.flatMap eyV)) → Hid (∀ W, (∀ b arr T, w.heap.size + 1 + 1 + 1 ≤ b → BlockIs wx b arr T → BlockIs W b arr T) → ReadsSh W (.slice a4 M c4) ss) → BlockIs wx G ((List.replicate (M + 2) zLk).flatMap lkV) 90 →
   ∃ m : Mm, Ending.returned (.agg #[.int .i64 (cntL true pl), .int .i64 ((cntL false pl : Int) + (cntE 2 kl : Int)), .slice a5 n1 c5, .slice a6 n2 c6, .slice a4 M c4, .slice (some ⟨G, 0, none⟩) (M + 2) (M + 2)]) = .returned (.agg #[.int .i64 m.inn, .int .i64 m.out, m.bans.1, m.book.1, m.parts.1, m.locks.1]) ∧ (∀ W, (∀ b arr T, w.heap.size ≤ b → BlockIs w20 b arr T → BlockIs W b arr T) → MmAt W m) ∧ m.pl = newP c.secret c.sh bl kl pl ∧ Below w.heap.size w w20) := by
  show ∀ _, _
  intro a5 c5 a6 c6 G wx w20 ho hbw hG h1 h2 h3 h4
  have hmv : ∀ b arr T, w.heap.size + 1 + 1 + 1 ≤ b → BlockIs wx b arr T → BlockIs w20 b arr T := fun b arr T hb hh => ho b arr T (by omega) hh
  refine ⟨⟨cntL true pl, (cntL false pl : Int) + (cntE 2 kl : Int), (.slice a5 n1 c5, bl), (.slice a6 n2 c6, kl), (.slice a4 M c4, ss), (.slice (some ⟨G, 0, none⟩) (M + 2) (M + 2), List.replicate (M + 2) zLk)⟩, rfl, fun W hW => ?_, ?_, hbw⟩
  ·have hmW : ∀ b arr T, w.heap.size + 1 + 1 + 1 ≤ b → BlockIs wx b arr T → BlockIs W b arr T := fun b arr T hb hh => hW b arr T (by omega) (hmv b arr T hb hh)
   refine ⟨?_, ?_, h3.out W hmW, lks_made (hmW _ _ _ hG h4) (by omega) (by omega)⟩
   ·unfold ReadsL; dsimp only; rw [← HN1.out]; exact owns_reads (owns_held h1.out fun g arr hg hb => hmW g arr _ hg hb)
   ·unfold ReadsL; dsimp only; rw [← HN2.out]; exact owns_reads (owns_held h2.out fun g arr hg hb => hmW g arr _ hg hb)
  ·unfold Mm.pl newP
   simp only [parts_pl HPO.out, HMM.out, List.map_replicate]
   rfl
 clear b4 hPO hMs hBc hBs hBr k2 k5 hS4 s0 s1 s2 r0 r1 r2 r3 r4 r5 rf rl
 obtain ⟨s0, s1, s2⟩ := hBs4.e3
 refine wp_region_noPanic ?_
 have hS0 : (fun wq => wq.cell? ⟨w.heap.size + 1, 0, none⟩ = some (.slice a1 n1 c1) ∧ wq.cell? ⟨w.heap.size + 1, 1, none⟩ = some (.slice a2 n2 c2) ∧ wq.cell? ⟨w.heap.size + 1, 2, none⟩ = some (.slice a3 n3 c3)) w4.drew := by
  dsimp only
  (repeat' apply And.intro) <;> assumption
 refine wp_region_headH (fun wq => wq.cell? ⟨w.heap.size + 1, 0, none⟩ = some (.slice a1 n1 c1) ∧ wq.cell? ⟨w.heap.size + 1, 1, none⟩ = some (.slice a2 n2 c2) ∧ wq.cell? ⟨w.heap.size + 1, 2, none⟩ = some (.slice a3 n3 c3)) 22 (by kernel_rfl) (by kernel_rfl) ?_
 obtain ⟨w5, hw5⟩ : ∃ w5, w5 = w4.drew := ⟨_, rfl⟩
 rw [← hw5] at hS0 ⊢
 have b5 : Below w4.heap.size w4 w5 := by subst hw5; exact Below.drew (Below.refl _ _)
 have B5 := below2 (w := w) B4 b5
 have hBs5 := hBs4.below b5; have hBr5 := hBr4.below b5
 have HS5 := zh (fun (W : World) (hk : ∀ b arr T, w.heap.size + 1 + 1 + 1 ≤ b → BlockIs w5 b arr T → BlockIs W b arr T) => HS4.out W fun b arr T h1 h2 => hk b arr T h1 (h2.below b5))
 clear hw5 s0 s1 s2
 obtain ⟨s0, s1, s2⟩ := hBs5.e3
 refine hP 0 rfl ?_
 refine hP 1 rfl ?_
 refine hP 3 rfl ?_
 refine hP 4 rfl ?_
 refine hP 6 rfl ?_
 refine hP 7 rfl ?_
 refine hP 10 rfl ?_
 refine hP 11 rfl ?_
 refine hP 13 rfl ?_
 refine hP 14 rfl ?_
 refine hP 16 rfl ?_
 refine hP 17 rfl ?_
 refine hP 18 rfl ?_
 refine hP 19 rfl ?_
 refine headH_two (i := 2) (j := 20) rfl rfl rfl rfl (by kernel_rfl) (fun K hK => ?_) (fun K hK => ?_)
 ·go_simp
  go_at_call 30
  refine (HCT.out _ B5).mono ?_
  rintro e w6 ⟨rfl, b6⟩
  have B6 := below2 (w := w) B5 b6
  have hBs6 := hBs5.below b6; have hBr6 := hBr5.below b6
  have HS6 := zh (fun (W : World) (hk : ∀ b arr T, w.heap.size + 1 + 1 + 1 ≤ b → BlockIs w6 b arr T → BlockIs W b arr T) => HS5.out W fun b arr T h1 h2 => hk b arr T h1 (h2.below b6))
  clear s0 s1 s2
  obtain ⟨s0, s1, s2⟩ := hBs6.e3
  refine hK.out _ _ ?_ (fun hS6 => ?_)
  ·try dsimp only
   (repeat' apply And.intro) <;> assumption
  clear hK K
  try simp only [Act.put, zs1, zs2, zs3]
  refine headH_two (i := 5) (j := 20) rfl rfl rfl rfl (by kernel_rfl) (fun K hK => ?_) (fun K hK => ?_)
  ·go_simp
   go_at_call 30
   refine (HCF.out _ B6).mono ?_
   rintro e w7 ⟨rfl, b7⟩
   have B7 := below2 (w := w) B6 b7
   have hBs7 := hBs6.below b7; have hBr7 := hBr6.below b7
   have HS7 := zh (fun (W : World) (hk : ∀ b arr T, w.heap.size + 1 + 1 + 1 ≤ b → BlockIs w7 b arr T → BlockIs W b arr T) => HS6.out W fun b arr T h1 h2 => hk b arr T h1 (h2.below b7))
   clear s0 s1 s2
   obtain ⟨s0, s1, s2⟩ := hBs7.e3
   refine hK.out _ _ ?_ (fun hS7 => ?_)
   ·try dsimp only
    (repeat' apply And.intro) <;> assumption
   clear hK K
   try simp only [Act.put, zs1, zs2, zs3]
   refine headH_two (i := 8) (j := 20) rfl rfl rfl rfl (by kernel_rfl) (fun K hK => ?_) (fun K hK => ?_)
   ·go_simp
    go_at_call 31
    refine (HCE.out _ B7).mono ?_
    rintro e w8 ⟨rfl, b8⟩
    have B8 := below2 (w := w) B7 b8
    have hBs8 := hBs7.below b8; have hBr8 := hBr7.below b8
    have HS8 := zh (fun (W : World) (hk : ∀ b arr T, w.heap.size + 1 + 1 + 1 ≤ b → BlockIs w8 b arr T → BlockIs W b arr T) => HS7.out W fun b arr T h1 h2 => hk b arr T h1 (h2.below b8))
    clear s0 s1 s2
    obtain ⟨s0, s1, s2⟩ := hBs8.e3
    refine hK.out _ _ ?_ (fun hS8 => ?_)
    ·try dsimp only
     (repeat' apply And.intro) <;> assumption
    clear hK K
    try simp only [Act.put, zs1, zs2, zs3]
    refine hP 9 rfl ?_
    refine headH_two (i := 12) (j := 20) rfl rfl rfl rfl (by kernel_rfl) (fun K hK => ?_) (fun K hK => ?_)
    ·go_simp
     go_at_call 32
     refine (HCB.out _ B8).mono ?_
     rintro e w9 ⟨r9, rfl, own9, b9⟩
     have B9 := below2 (w := w) B8 b9
     have hBs9 := hBs8.below b9; have hBr9 := hBr8.below b9
     have HS9 := zh (fun (W : World) (hk : ∀ b arr T, w.heap.size + 1 + 1 + 1 ≤ b → BlockIs w9 b arr T → BlockIs W b arr T) => HS8.out W fun b arr T h1 h2 => hk b arr T h1 (h2.below b9))
     obtain ⟨a5, c5, e9⟩ := owns_slice own9
     subst e9
     have HOb9 := zh (owns_base own9 (by have := hBr8.lt; omega) : w9.ownsRow (w.heap.size + 1 + 1 + 1) _ _ _ _ _)
     clear s0 s1 s2
     obtain ⟨s0, s1, s2⟩ := hBs9.e3
     refine hK.out _ _ ?_ (fun hS9 => ?_)
     ·try dsimp only
      (repeat' apply And.intro) <;> assumption
     clear hK K
     try simp only [Act.put, zs1, zs2, zs3]
     refine headH_two (i := 15) (j := 20) rfl rfl rfl rfl (by kernel_rfl) (fun K hK => ?_) (fun K hK => ?_)
     ·go_simp
      go_at_call 33
      refine (HCK.out _ B9).mono ?_
      rintro e w10 ⟨r10, rfl, own10, b10⟩
      have B10 := below2 (w := w) B9 b10
      have hBs10 := hBs9.below b10; have hBr10 := hBr9.below b10
      have HS10 := zh (fun (W : World) (hk : ∀ b arr T, w.heap.size + 1 + 1 + 1 ≤ b → BlockIs w10 b arr T → BlockIs W b arr T) => HS9.out W fun b arr T h1 h2 => hk b arr T h1 (h2.below b10))
      have HOb10 := zh (owns_below HOb9.out b10)
      obtain ⟨a6, c6, e10⟩ := owns_slice own10
      subst e10
      have HOk10 := zh (owns_base own10 (by have := hBr9.lt; omega) : w10.ownsRow (w.heap.size + 1 + 1 + 1) _ _ _ _ _)
      clear s0 s1 s2
      obtain ⟨s0, s1, s2⟩ := hBs10.e3
      refine hK.out _ _ ?_ (fun hS10 => ?_)
      ·try dsimp only
       (repeat' apply And.intro) <;> assumption
      clear hK K
      try simp only [Act.put, zs1, zs2, zs3]
      refine headH_one (i := 20) rfl rfl (by kernel_rfl) (fun K hK => ?_)
      go_simp
      refine named_world (K := K) fun w11 hw11 => ?_
      obtain ⟨G11, hG11⟩ : ∃ G, G = w10.heap.size := ⟨_, rfl⟩
      rw [← hG11]
      have b11 : Below w10.heap.size w10 w11 := by subst hw11; exact (Below.refl _ _).alloc (Nat.le_refl _) _
      have hBl11 : BlockIs w11 G11 ((List.replicate (M + 2) zLk).flatMap lkV) 90 := by subst hw11 hG11; exact BlockIs.new w10 _ _
      have gL11 : w.heap.size + 1 + 1 + 1 ≤ G11 := by have := B10.size; have := hBr10.lt; omega
      clear hw11
      have B11 := below2 (w := w) B10 b11
      have hBs11 := hBs10.below b11; have hBr11 := hBr10.below b11
      have HS11 := zh (fun (W : World) (hk : ∀ b arr T, w.heap.size + 1 + 1 + 1 ≤ b → BlockIs w11 b arr T → BlockIs W b arr T) => HS10.out W fun b arr T h1 h2 => hk b arr T h1 (h2.below b11))
      have HOb11 := zh (owns_below HOb10.out b11)
      have HOk11 := zh (owns_below HOk10.out b11)
      clear s0 s1 s2
      obtain ⟨s0, s1, s2⟩ := hBs11.e3
      refine hK.out _ _ ?_ (fun hS11 => ?_)
      ·try dsimp only
       (repeat' apply And.intro) <;> assumption
      clear hK K
      try simp only [Act.put, zs1, zs2, zs3]
      refine hP 21 rfl ?_
      refine headH_done (by kernel_rfl) ?_
      simp only [List.drop_succ_cons, List.drop_zero]
      go_wp2_with (refine list_store_blk rfl 40 _ _ rfl (w.heap.size + 1 + 1) _ _ 40 hBr11 rfl rfl (by kernel_rfl) rfl (by simp [Value.oneCell']) w.heap.size w B11 (by omega) ?_; intro w20 hR20 hoth20 hsz20 bw20)
      refine NoPanic.normal ?_
      go_wp2_with fail
      obtain ⟨e0, e1, e2, e3, e4, e5⟩ := hR20.e6
      exact bodyPost_ret (v := .agg #[.int .i64 (cntL true pl), .int .i64 ((cntL false pl : Int) + (cntE 2 kl : Int)), .slice a5 n1 c5, .slice a6 n2 c6, .slice a4 M c4, .slice (some ⟨G11, 0, none⟩) (M + 2) (M + 2)]) (by simp [results, Tryz.results9, go_sem, e0, e1, e2, e3, e4, e5]) rfl (HEND.out _ _ _ _ _ _ _ (hoth20) bw20 gL11 HOb11 HOk11 HS11 hBl11)
     ·go_simp
      refine named_world (K := K) fun w10 hw10 => ?_
      obtain ⟨G10, hG10⟩ : ∃ G, G = w9.heap.size := ⟨_, rfl⟩
      rw [← hG10]
      have b10 : Below w9.heap.size w9 w10 := by subst hw10; exact (Below.refl _ _).alloc (Nat.le_refl _) _
      have hBl10 : BlockIs w10 G10 ((List.replicate (M + 2) zLk).flatMap lkV) 90 := by subst hw10 hG10; exact BlockIs.new w9 _ _
      have gL10 : w.heap.size + 1 + 1 + 1 ≤ G10 := by have := B9.size; have := hBr9.lt; omega
      clear hw10
      have B10 := below2 (w := w) B9 b10
      have hBs10 := hBs9.below b10; have hBr10 := hBr9.below b10
      have HS10 := zh (fun (W : World) (hk : ∀ b arr T, w.heap.size + 1 + 1 + 1 ≤ b → BlockIs w10 b arr T → BlockIs W b arr T) => HS9.out W fun b arr T h1 h2 => hk b arr T h1 (h2.below b10))
      have HOb10 := zh (owns_below HOb9.out b10)
      clear s0 s1 s2
      obtain ⟨s0, s1, s2⟩ := hBs10.e3
      refine hK.out _ _ ?_ (fun hS10 => ?_)
      ·try dsimp only
       (repeat' apply And.intro) <;> assumption
      clear hK K
      try simp only [Act.put, zs1, zs2, zs3]
      refine headH_one (i := 15) rfl rfl (by kernel_rfl) (fun K hK => ?_)
      go_simp
      go_at_call 33
      refine (HCK.out _ B10).mono ?_
      rintro e w11 ⟨r11, rfl, own11, b11⟩
      have B11 := below2 (w := w) B10 b11
      have hBs11 := hBs10.below b11; have hBr11 := hBr10.below b11
      have HS11 := zh (fun (W : World) (hk : ∀ b arr T, w.heap.size + 1 + 1 + 1 ≤ b → BlockIs w11 b arr T → BlockIs W b arr T) => HS10.out W fun b arr T h1 h2 => hk b arr T h1 (h2.below b11))
      have HOb11 := zh (owns_below HOb10.out b11)
      have hBl11 := hBl10.below b11; have gL11 := gL10
      obtain ⟨a6, c6, e11⟩ := owns_slice own11
      subst e11
      have HOk11 := zh (owns_base own11 (by have := hBr10.lt; omega) : w11.ownsRow (w.heap.size + 1 + 1 + 1) _ _ _ _ _)
      clear s0 s1 s2
      obtain ⟨s0, s1, s2⟩ := hBs11.e3
      refine hK.out _ _ ?_ (fun hS11 => ?_)
      ·try dsimp only
       (repeat' apply And.intro) <;> assumption
      clear hK K
      try simp only [Act.put, zs1, zs2, zs3]
      refine hP 21 rfl ?_
      refine headH_done (by kernel_rfl) ?_
      simp only [List.drop_succ_cons, List.drop_zero]
      go_wp2_with (refine list_store_blk rfl 40 _ _ rfl (w.heap.size + 1 + 1) _ _ 40 hBr11 rfl rfl (by kernel_rfl) rfl (by simp [Value.oneCell']) w.heap.size w B11 (by omega) ?_; intro w20 hR20 hoth20 hsz20 bw20)
      refine NoPanic.normal ?_
      go_wp2_with fail
      obtain ⟨e0, e1, e2, e3, e4, e5⟩ := hR20.e6
      exact bodyPost_ret (v := .agg #[.int .i64 (cntL true pl), .int .i64 ((cntL false pl : Int) + (cntE 2 kl : Int)), .slice a5 n1 c5, .slice a6 n2 c6, .slice a4 M c4, .slice (some ⟨G10, 0, none⟩) (M + 2) (M + 2)]) (by simp [results, Tryz.results9, go_sem, e0, e1, e2, e3, e4, e5]) rfl (HEND.out _ _ _ _ _ _ _ (hoth20) bw20 gL11 HOb11 HOk11 HS11 hBl11)
    ·go_simp
     refine named_world (K := K) fun w9 hw9 => ?_
     obtain ⟨G9, hG9⟩ : ∃ G, G = w8.heap.size := ⟨_, rfl⟩
     rw [← hG9]
     have b9 : Below w8.heap.size w8 w9 := by subst hw9; exact (Below.refl _ _).alloc (Nat.le_refl _) _
     have hBl9 : BlockIs w9 G9 ((List.replicate (M + 2) zLk).flatMap lkV) 90 := by subst hw9 hG9; exact BlockIs.new w8 _ _
     have gL9 : w.heap.size + 1 + 1 + 1 ≤ G9 := by have := B8.size; have := hBr8.lt; omega
     clear hw9
     have B9 := below2 (w := w) B8 b9
     have hBs9 := hBs8.below b9; have hBr9 := hBr8.below b9
     have HS9 := zh (fun (W : World) (hk : ∀ b arr T, w.heap.size + 1 + 1 + 1 ≤ b → BlockIs w9 b arr T → BlockIs W b arr T) => HS8.out W fun b arr T h1 h2 => hk b arr T h1 (h2.below b9))
     clear s0 s1 s2
     obtain ⟨s0, s1, s2⟩ := hBs9.e3
     refine hK.out _ _ ?_ (fun hS9 => ?_)
     ·try dsimp only
      (repeat' apply And.intro) <;> assumption
     clear hK K
     try simp only [Act.put, zs1, zs2, zs3]
     refine headH_one (i := 12) rfl rfl (by kernel_rfl) (fun K hK => ?_)
     go_simp
     go_at_call 32
     refine (HCB.out _ B9).mono ?_
     rintro e w10 ⟨r10, rfl, own10, b10⟩
     have B10 := below2 (w := w) B9 b10
     have hBs10 := hBs9.below b10; have hBr10 := hBr9.below b10
     have HS10 := zh (fun (W : World) (hk : ∀ b arr T, w.heap.size + 1 + 1 + 1 ≤ b → BlockIs w10 b arr T → BlockIs W b arr T) => HS9.out W fun b arr T h1 h2 => hk b arr T h1 (h2.below b10))
     have hBl10 := hBl9.below b10; have gL10 := gL9
     obtain ⟨a5, c5, e10⟩ := owns_slice own10
     subst e10
     have HOb10 := zh (owns_base own10 (by have := hBr9.lt; omega) : w10.ownsRow (w.heap.size + 1 + 1 + 1) _ _ _ _ _)
     clear s0 s1 s2
     obtain ⟨s0, s1, s2⟩ := hBs10.e3
     refine hK.out _ _ ?_ (fun hS10 => ?_)
     ·try dsimp only
      (repeat' apply And.intro) <;> assumption
     clear hK K
     try simp only [Act.put, zs1, zs2, zs3]
     refine headH_one (i := 15) rfl rfl (by kernel_rfl) (fun K hK => ?_)
     go_simp
     go_at_call 33
     refine (HCK.out _ B10).mono ?_
     rintro e w11 ⟨r11, rfl, own11, b11⟩
     have B11 := below2 (w := w) B10 b11
     have hBs11 := hBs10.below b11; have hBr11 := hBr10.below b11
     have HS11 := zh (fun (W : World) (hk : ∀ b arr T, w.heap.size + 1 + 1 + 1 ≤ b → BlockIs w11 b arr T → BlockIs W b arr T) => HS10.out W fun b arr T h1 h2 => hk b arr T h1 (h2.below b11))
     have HOb11 := zh (owns_below HOb10.out b11)
     have hBl11 := hBl10.below b11; have gL11 := gL10
     obtain ⟨a6, c6, e11⟩ := owns_slice own11
     subst e11
     have HOk11 := zh (owns_base own11 (by have := hBr10.lt; omega) : w11.ownsRow (w.heap.size + 1 + 1 + 1) _ _ _ _ _)
     clear s0 s1 s2
     obtain ⟨s0, s1, s2⟩ := hBs11.e3
     refine hK.out _ _ ?_ (fun hS11 => ?_)
     ·try dsimp only
      (repeat' apply And.intro) <;> assumption
     clear hK K
     try simp only [Act.put, zs1, zs2, zs3]
     refine hP 21 rfl ?_
     refine headH_done (by kernel_rfl) ?_
     simp only [List.drop_succ_cons, List.drop_zero]
     go_wp2_with (refine list_store_blk rfl 40 _ _ rfl (w.heap.size + 1 + 1) _ _ 40 hBr11 rfl rfl (by kernel_rfl) rfl (by simp [Value.oneCell']) w.heap.size w B11 (by omega) ?_; intro w20 hR20 hoth20 hsz20 bw20)
     refine NoPanic.normal ?_
     go_wp2_with fail
     obtain ⟨e0, e1, e2, e3, e4, e5⟩ := hR20.e6
     exact bodyPost_ret (v := .agg #[.int .i64 (cntL true pl), .int .i64 ((cntL false pl : Int) + (cntE 2 kl : Int)), .slice a5 n1 c5, .slice a6 n2 c6, .slice a4 M c4, .slice (some ⟨G9, 0, none⟩) (M + 2) (M + 2)]) (by simp [results, Tryz.results9, go_sem, e0, e1, e2, e3, e4, e5]) rfl (HEND.out _ _ _ _ _ _ _ (hoth20) bw20 gL11 HOb11 HOk11 HS11 hBl11)
   ·go_simp
    refine named_world (K := K) fun w8 hw8 => ?_
    obtain ⟨G8, hG8⟩ : ∃ G, G = w7.heap.size := ⟨_, rfl⟩
    rw [← hG8]
    have b8 : Below w7.heap.size w7 w8 := by subst hw8; exact (Below.refl _ _).alloc (Nat.le_refl _) _
    have hBl8 : BlockIs w8 G8 ((List.replicate (M + 2) zLk).flatMap lkV) 90 := by subst hw8 hG8; exact BlockIs.new w7 _ _
    have gL8 : w.heap.size + 1 + 1 + 1 ≤ G8 := by have := B7.size; have := hBr7.lt; omega
    clear hw8
    have B8 := below2 (w := w) B7 b8
    have hBs8 := hBs7.below b8; have hBr8 := hBr7.below b8
    have HS8 := zh (fun (W : World) (hk : ∀ b arr T, w.heap.size + 1 + 1 + 1 ≤ b → BlockIs w8 b arr T → BlockIs W b arr T) => HS7.out W fun b arr T h1 h2 => hk b arr T h1 (h2.below b8))
    clear s0 s1 s2
    obtain ⟨s0, s1, s2⟩ := hBs8.e3
    refine hK.out _ _ ?_ (fun hS8 => ?_)
    ·try dsimp only
     (repeat' apply And.intro) <;> assumption
    clear hK K
    try simp only [Act.put, zs1, zs2, zs3]
    refine headH_one (i := 8) rfl rfl (by kernel_rfl) (fun K hK => ?_)
    go_simp
    go_at_call 31
    refine (HCE.out _ B8).mono ?_
    rintro e w9 ⟨rfl, b9⟩
    have B9 := below2 (w := w) B8 b9
    have hBs9 := hBs8.below b9; have hBr9 := hBr8.below b9
    have HS9 := zh (fun (W : World) (hk : ∀ b arr T, w.heap.size + 1 + 1 + 1 ≤ b → BlockIs w9 b arr T → BlockIs W b arr T) => HS8.out W fun b arr T h1 h2 => hk b arr T h1 (h2.below b9))
    have hBl9 := hBl8.below b9; have gL9 := gL8
    clear s0 s1 s2
    obtain ⟨s0, s1, s2⟩ := hBs9.e3
    refine hK.out _ _ ?_ (fun hS9 => ?_)
    ·try dsimp only
     (repeat' apply And.intro) <;> assumption
    clear hK K
    try simp only [Act.put, zs1, zs2, zs3]
    refine hP 9 rfl ?_
    refine headH_one (i := 12) rfl rfl (by kernel_rfl) (fun K hK => ?_)
    go_simp
    go_at_call 32
    refine (HCB.out _ B9).mono ?_
    rintro e w10 ⟨r10, rfl, own10, b10⟩
    have B10 := below2 (w := w) B9 b10
    have hBs10 := hBs9.below b10; have hBr10 := hBr9.below b10
    have HS10 := zh (fun (W : World) (hk : ∀ b arr T, w.heap.size + 1 + 1 + 1 ≤ b → BlockIs w10 b arr T → BlockIs W b arr T) => HS9.out W fun b arr T h1 h2 => hk b arr T h1 (h2.below b10))
    have hBl10 := hBl9.below b10; have gL10 := gL9
    obtain ⟨a5, c5, e10⟩ := owns_slice own10
    subst e10
    have HOb10 := zh (owns_base own10 (by have := hBr9.lt; omega) : w10.ownsRow (w.heap.size + 1 + 1 + 1) _ _ _ _ _)
    clear s0 s1 s2
    obtain ⟨s0, s1, s2⟩ := hBs10.e3
    refine hK.out _ _ ?_ (fun hS10 => ?_)
    ·try dsimp only
     (repeat' apply And.intro) <;> assumption
    clear hK K
    try simp only [Act.put, zs1, zs2, zs3]
    refine headH_one (i := 15) rfl rfl (by kernel_rfl) (fun K hK => ?_)
    go_simp
    go_at_call 33
    refine (HCK.out _ B10).mono ?_
    rintro e w11 ⟨r11, rfl, own11, b11⟩
    have B11 := below2 (w := w) B10 b11
    have hBs11 := hBs10.below b11; have hBr11 := hBr10.below b11
    have HS11 := zh (fun (W : World) (hk : ∀ b arr T, w.heap.size + 1 + 1 + 1 ≤ b → BlockIs w11 b arr T → BlockIs W b arr T) => HS10.out W fun b arr T h1 h2 => hk b arr T h1 (h2.below b11))
    have HOb11 := zh (owns_below HOb10.out b11)
    have hBl11 := hBl10.below b11; have gL11 := gL10
    obtain ⟨a6, c6, e11⟩ := owns_slice own11
    subst e11
    have HOk11 := zh (owns_base own11 (by have := hBr10.lt; omega) : w11.ownsRow (w.heap.size + 1 + 1 + 1) _ _ _ _ _)
    clear s0 s1 s2
    obtain ⟨s0, s1, s2⟩ := hBs11.e3
    refine hK.out _ _ ?_ (fun hS11 => ?_)
    ·try dsimp only
     (repeat' apply And.intro) <;> assumption
    clear hK K
    try simp only [Act.put, zs1, zs2, zs3]
    refine hP 21 rfl ?_
    refine headH_done (by kernel_rfl) ?_
    simp only [List.drop_succ_cons, List.drop_zero]
    go_wp2_with (refine list_store_blk rfl 40 _ _ rfl (w.heap.size + 1 + 1) _ _ 40 hBr11 rfl rfl (by kernel_rfl) rfl (by simp [Value.oneCell']) w.heap.size w B11 (by omega) ?_; intro w20 hR20 hoth20 hsz20 bw20)
    refine NoPanic.normal ?_
    go_wp2_with fail
    obtain ⟨e0, e1, e2, e3, e4, e5⟩ := hR20.e6
    exact bodyPost_ret (v := .agg #[.int .i64 (cntL true pl), .int .i64 ((cntL false pl : Int) + (cntE 2 kl : Int)), .slice a5 n1 c5, .slice a6 n2 c6, .slice a4 M c4, .slice (some ⟨G8, 0, none⟩) (M + 2) (M + 2)]) (by simp [results, Tryz.results9, go_sem, e0, e1, e2, e3, e4, e5]) rfl (HEND.out _ _ _ _ _ _ _ (hoth20) bw20 gL11 HOb11 HOk11 HS11 hBl11)
  ·go_simp
   refine named_world (K := K) fun w7 hw7 => ?_
   obtain ⟨G7, hG7⟩ : ∃ G, G = w6.heap.size := ⟨_, rfl⟩
   rw [← hG7]
   have b7 : Below w6.heap.size w6 w7 := by subst hw7; exact (Below.refl _ _).alloc (Nat.le_refl _) _
   have hBl7 : BlockIs w7 G7 ((List.replicate (M + 2) zLk).flatMap lkV) 90 := by subst hw7 hG7; exact BlockIs.new w6 _ _
   have gL7 : w.heap.size + 1 + 1 + 1 ≤ G7 := by have := B6.size; have := hBr6.lt; omega
   clear hw7
   have B7 := below2 (w := w) B6 b7
   have hBs7 := hBs6.below b7; have hBr7 := hBr6.below b7
   have HS7 := zh (fun (W : World) (hk : ∀ b arr T, w.heap.size + 1 + 1 + 1 ≤ b → BlockIs w7 b arr T → BlockIs W b arr T) => HS6.out W fun b arr T h1 h2 => hk b arr T h1 (h2.below b7))
   clear s0 s1 s2
   obtain ⟨s0, s1, s2⟩ := hBs7.e3
   refine hK.out _ _ ?_ (fun hS7 => ?_)
   ·try dsimp only
    (repeat' apply And.intro) <;> assumption
   clear hK K
   try simp only [Act.put, zs1, zs2, zs3]
   refine headH_one (i := 5) rfl rfl (by kernel_rfl) (fun K hK => ?_)
   go_simp
   go_at_call 30
   refine (HCF.out _ B7).mono ?_
   rintro e w8 ⟨rfl, b8⟩
   have B8 := below2 (w := w) B7 b8
   have hBs8 := hBs7.below b8; have hBr8 := hBr7.below b8
   have HS8 := zh (fun (W : World) (hk : ∀ b arr T, w.heap.size + 1 + 1 + 1 ≤ b → BlockIs w8 b arr T → BlockIs W b arr T) => HS7.out W fun b arr T h1 h2 => hk b arr T h1 (h2.below b8))
   have hBl8 := hBl7.below b8; have gL8 := gL7
   clear s0 s1 s2
   obtain ⟨s0, s1, s2⟩ := hBs8.e3
   refine hK.out _ _ ?_ (fun hS8 => ?_)
   ·try dsimp only
    (repeat' apply And.intro) <;> assumption
   clear hK K
   try simp only [Act.put, zs1, zs2, zs3]
   refine headH_one (i := 8) rfl rfl (by kernel_rfl) (fun K hK => ?_)
   go_simp
   go_at_call 31
   refine (HCE.out _ B8).mono ?_
   rintro e w9 ⟨rfl, b9⟩
   have B9 := below2 (w := w) B8 b9
   have hBs9 := hBs8.below b9; have hBr9 := hBr8.below b9
   have HS9 := zh (fun (W : World) (hk : ∀ b arr T, w.heap.size + 1 + 1 + 1 ≤ b → BlockIs w9 b arr T → BlockIs W b arr T) => HS8.out W fun b arr T h1 h2 => hk b arr T h1 (h2.below b9))
   have hBl9 := hBl8.below b9; have gL9 := gL8
   clear s0 s1 s2
   obtain ⟨s0, s1, s2⟩ := hBs9.e3
   refine hK.out _ _ ?_ (fun hS9 => ?_)
   ·try dsimp only
    (repeat' apply And.intro) <;> assumption
   clear hK K
   try simp only [Act.put, zs1, zs2, zs3]
   refine hP 9 rfl ?_
   refine headH_one (i := 12) rfl rfl (by kernel_rfl) (fun K hK => ?_)
   go_simp
   go_at_call 32
   refine (HCB.out _ B9).mono ?_
   rintro e w10 ⟨r10, rfl, own10, b10⟩
   have B10 := below2 (w := w) B9 b10
   have hBs10 := hBs9.below b10; have hBr10 := hBr9.below b10
   have HS10 := zh (fun (W : World) (hk : ∀ b arr T, w.heap.size + 1 + 1 + 1 ≤ b → BlockIs w10 b arr T → BlockIs W b arr T) => HS9.out W fun b arr T h1 h2 => hk b arr T h1 (h2.below b10))
   have hBl10 := hBl9.below b10; have gL10 := gL9
   obtain ⟨a5, c5, e10⟩ := owns_slice own10
   subst e10
   have HOb10 := zh (owns_base own10 (by have := hBr9.lt; omega) : w10.ownsRow (w.heap.size + 1 + 1 + 1) _ _ _ _ _)
   clear s0 s1 s2
   obtain ⟨s0, s1, s2⟩ := hBs10.e3
   refine hK.out _ _ ?_ (fun hS10 => ?_)
   ·try dsimp only
    (repeat' apply And.intro) <;> assumption
   clear hK K
   try simp only [Act.put, zs1, zs2, zs3]
   refine headH_one (i := 15) rfl rfl (by kernel_rfl) (fun K hK => ?_)
   go_simp
   go_at_call 33
   refine (HCK.out _ B10).mono ?_
   rintro e w11 ⟨r11, rfl, own11, b11⟩
   have B11 := below2 (w := w) B10 b11
   have hBs11 := hBs10.below b11; have hBr11 := hBr10.below b11
   have HS11 := zh (fun (W : World) (hk : ∀ b arr T, w.heap.size + 1 + 1 + 1 ≤ b → BlockIs w11 b arr T → BlockIs W b arr T) => HS10.out W fun b arr T h1 h2 => hk b arr T h1 (h2.below b11))
   have HOb11 := zh (owns_below HOb10.out b11)
   have hBl11 := hBl10.below b11; have gL11 := gL10
   obtain ⟨a6, c6, e11⟩ := owns_slice own11
   subst e11
   have HOk11 := zh (owns_base own11 (by have := hBr10.lt; omega) : w11.ownsRow (w.heap.size + 1 + 1 + 1) _ _ _ _ _)
   clear s0 s1 s2
   obtain ⟨s0, s1, s2⟩ := hBs11.e3
   refine hK.out _ _ ?_ (fun hS11 => ?_)
   ·try dsimp only
    (repeat' apply And.intro) <;> assumption
   clear hK K
   try simp only [Act.put, zs1, zs2, zs3]
   refine hP 21 rfl ?_
   refine headH_done (by kernel_rfl) ?_
   simp only [List.drop_succ_cons, List.drop_zero]
   go_wp2_with (refine list_store_blk rfl 40 _ _ rfl (w.heap.size + 1 + 1) _ _ 40 hBr11 rfl rfl (by kernel_rfl) rfl (by simp [Value.oneCell']) w.heap.size w B11 (by omega) ?_; intro w20 hR20 hoth20 hsz20 bw20)
   refine NoPanic.normal ?_
   go_wp2_with fail
   obtain ⟨e0, e1, e2, e3, e4, e5⟩ := hR20.e6
   exact bodyPost_ret (v := .agg #[.int .i64 (cntL true pl), .int .i64 ((cntL false pl : Int) + (cntE 2 kl : Int)), .slice a5 n1 c5, .slice a6 n2 c6, .slice a4 M c4, .slice (some ⟨G7, 0, none⟩) (M + 2) (M + 2)]) (by simp [results, Tryz.results9, go_sem, e0, e1, e2, e3, e4, e5]) rfl (HEND.out _ _ _ _ _ _ _ (hoth20) bw20 gL11 HOb11 HOk11 HS11 hBl11)
 ·go_simp
  refine named_world (K := K) fun w6 hw6 => ?_
  obtain ⟨G6, hG6⟩ : ∃ G, G = w5.heap.size := ⟨_, rfl⟩
  rw [← hG6]
  have b6 : Below w5.heap.size w5 w6 := by subst hw6; exact (Below.refl _ _).alloc (Nat.le_refl _) _
  have hBl6 : BlockIs w6 G6 ((List.replicate (M + 2) zLk).flatMap lkV) 90 := by subst hw6 hG6; exact BlockIs.new w5 _ _
  have gL6 : w.heap.size + 1 + 1 + 1 ≤ G6 := by have := B5.size; have := hBr5.lt; omega
  clear hw6
  have B6 := below2 (w := w) B5 b6
  have hBs6 := hBs5.below b6; have hBr6 := hBr5.below b6
  have HS6 := zh (fun (W : World) (hk : ∀ b arr T, w.heap.size + 1 + 1 + 1 ≤ b → BlockIs w6 b arr T → BlockIs W b arr T) => HS5.out W fun b arr T h1 h2 => hk b arr T h1 (h2.below b6))
  clear s0 s1 s2
  obtain ⟨s0, s1, s2⟩ := hBs6.e3
  refine hK.out _ _ ?_ (fun hS6 => ?_)
  ·try dsimp only
   (repeat' apply And.intro) <;> assumption
  clear hK K
  try simp only [Act.put, zs1, zs2, zs3]
  refine headH_one (i := 2) rfl rfl (by kernel_rfl) (fun K hK => ?_)
  go_simp
  go_at_call 30
  refine (HCT.out _ B6).mono ?_
  rintro e w7 ⟨rfl, b7⟩
  have B7 := below2 (w := w) B6 b7
  have hBs7 := hBs6.below b7; have hBr7 := hBr6.below b7
  have HS7 := zh (fun (W : World) (hk : ∀ b arr T, w.heap.size + 1 + 1 + 1 ≤ b → BlockIs w7 b arr T → BlockIs W b arr T) => HS6.out W fun b arr T h1 h2 => hk b arr T h1 (h2.below b7))
  have hBl7 := hBl6.below b7; have gL7 := gL6
  clear s0 s1 s2
  obtain ⟨s0, s1, s2⟩ := hBs7.e3
  refine hK.out _ _ ?_ (fun hS7 => ?_)
  ·try dsimp only
   (repeat' apply And.intro) <;> assumption
  clear hK K
  try simp only [Act.put, zs1, zs2, zs3]
  refine headH_one (i := 5) rfl rfl (by kernel_rfl) (fun K hK => ?_)
  go_simp
  go_at_call 30
  refine (HCF.out _ B7).mono ?_
  rintro e w8 ⟨rfl, b8⟩
  have B8 := below2 (w := w) B7 b8
  have hBs8 := hBs7.below b8; have hBr8 := hBr7.below b8
  have HS8 := zh (fun (W : World) (hk : ∀ b arr T, w.heap.size + 1 + 1 + 1 ≤ b → BlockIs w8 b arr T → BlockIs W b arr T) => HS7.out W fun b arr T h1 h2 => hk b arr T h1 (h2.below b8))
  have hBl8 := hBl7.below b8; have gL8 := gL7
  clear s0 s1 s2
  obtain ⟨s0, s1, s2⟩ := hBs8.e3
  refine hK.out _ _ ?_ (fun hS8 => ?_)
  ·try dsimp only
   (repeat' apply And.intro) <;> assumption
  clear hK K
  try simp only [Act.put, zs1, zs2, zs3]
  refine headH_one (i := 8) rfl rfl (by kernel_rfl) (fun K hK => ?_)
  go_simp
  go_at_call 31
  refine (HCE.out _ B8).mono ?_
  rintro e w9 ⟨rfl, b9⟩
  have B9 := below2 (w := w) B8 b9
  have hBs9 := hBs8.below b9; have hBr9 := hBr8.below b9
  have HS9 := zh (fun (W : World) (hk : ∀ b arr T, w.heap.size + 1 + 1 + 1 ≤ b → BlockIs w9 b arr T → BlockIs W b arr T) => HS8.out W fun b arr T h1 h2 => hk b arr T h1 (h2.below b9))
  have hBl9 := hBl8.below b9; have gL9 := gL8
  clear s0 s1 s2
  obtain ⟨s0, s1, s2⟩ := hBs9.e3
  refine hK.out _ _ ?_ (fun hS9 => ?_)
  ·try dsimp only
   (repeat' apply And.intro) <;> assumption
  clear hK K
  try simp only [Act.put, zs1, zs2, zs3]
  refine hP 9 rfl ?_
  refine headH_one (i := 12) rfl rfl (by kernel_rfl) (fun K hK => ?_)
  go_simp
  go_at_call 32
  refine (HCB.out _ B9).mono ?_
  rintro e w10 ⟨r10, rfl, own10, b10⟩
  have B10 := below2 (w := w) B9 b10
  have hBs10 := hBs9.below b10; have hBr10 := hBr9.below b10
  have HS10 := zh (fun (W : World) (hk : ∀ b arr T, w.heap.size + 1 + 1 + 1 ≤ b → BlockIs w10 b arr T → BlockIs W b arr T) => HS9.out W fun b arr T h1 h2 => hk b arr T h1 (h2.below b10))
  have hBl10 := hBl9.below b10; have gL10 := gL9
  obtain ⟨a5, c5, e10⟩ := owns_slice own10
  subst e10
  have HOb10 := zh (owns_base own10 (by have := hBr9.lt; omega) : w10.ownsRow (w.heap.size + 1 + 1 + 1) _ _ _ _ _)
  clear s0 s1 s2
  obtain ⟨s0, s1, s2⟩ := hBs10.e3
  refine hK.out _ _ ?_ (fun hS10 => ?_)
  ·try dsimp only
   (repeat' apply And.intro) <;> assumption
  clear hK K
  try simp only [Act.put, zs1, zs2, zs3]
  refine headH_one (i := 15) rfl rfl (by kernel_rfl) (fun K hK => ?_)
  go_simp
  go_at_call 33
  refine (HCK.out _ B10).mono ?_
  rintro e w11 ⟨r11, rfl, own11, b11⟩
  have B11 := below2 (w := w) B10 b11
  have hBs11 := hBs10.below b11; have hBr11 := hBr10.below b11
  have HS11 := zh (fun (W : World) (hk : ∀ b arr T, w.heap.size + 1 + 1 + 1 ≤ b → BlockIs w11 b arr T → BlockIs W b arr T) => HS10.out W fun b arr T h1 h2 => hk b arr T h1 (h2.below b11))
  have HOb11 := zh (owns_below HOb10.out b11)
  have hBl11 := hBl10.below b11; have gL11 := gL10
  obtain ⟨a6, c6, e11⟩ := owns_slice own11
  subst e11
  have HOk11 := zh (owns_base own11 (by have := hBr10.lt; omega) : w11.ownsRow (w.heap.size + 1 + 1 + 1) _ _ _ _ _)
  clear s0 s1 s2
  obtain ⟨s0, s1, s2⟩ := hBs11.e3
  refine hK.out _ _ ?_ (fun hS11 => ?_)
  ·try dsimp only
   (repeat' apply And.intro) <;> assumption
  clear hK K
  try simp only [Act.put, zs1, zs2, zs3]
  refine hP 21 rfl ?_
  refine headH_done (by kernel_rfl) ?_
  simp only [List.drop_succ_cons, List.drop_zero]
  go_wp2_with (refine list_store_blk rfl 40 _ _ rfl (w.heap.size + 1 + 1) _ _ 40 hBr11 rfl rfl (by kernel_rfl) rfl (by simp [Value.oneCell']) w.heap.size w B11 (by omega) ?_; intro w20 hR20 hoth20 hsz20 bw20)
  refine NoPanic.normal ?_
  go_wp2_with fail
  obtain ⟨e0, e1, e2, e3, e4, e5⟩ := hR20.e6
  exact bodyPost_ret (v := .agg #[.int .i64 (cntL true pl), .int .i64 ((cntL false pl : Int) + (cntE 2 kl : Int)), .slice a5 n1 c5, .slice a6 n2 c6, .slice a4 M c4, .slice (some ⟨G6, 0, none⟩) (M + 2) (M + 2)]) (by simp [results, Tryz.results9, go_sem, e0, e1, e2, e3, e4, e5]) rfl (HEND.out _ _ _ _ _ _ _ (hoth20) bw20 gL11 HOb11 HOk11 HS11 hBl11)
/-- W keeps all of w's blocks but those of X -/
def KeepOff (X : Nat → Prop) (w W : World) : Prop := ∀ b arr T, ¬ X b → BlockIs w b arr T → BlockIs W b arr T
theorem KeepOff.refl (X : Nat → Prop) (w : World) : KeepOff X w w := fun _ _ _ _ h => h
theorem KeepOff.trans {X : Nat → Prop} {w w1 w2 : World} (h1 : KeepOff X w w1) (h2 : KeepOff X w1 w2) : KeepOff X w w2 := fun b arr T h hb => h2 b arr T h (h1 b arr T h hb)
theorem KeepOff.below {X : Nat → Prop} {w w' : World} (h : Below w.heap.size w w') : KeepOff X w w' := fun _ _ _ _ hb => hb.below h
/-- P holds in every world that keeps w's blocks but those of X -/
def HoldOff (X : Nat → Prop) (w : World) (P : World → Prop) : Prop := ∀ W, KeepOff X w W → P W
theorem HoldOff.now {X : Nat → Prop} {w : World} {P : World → Prop} (h : HoldOff X w P) : P w := h w (KeepOff.refl _ _)
theorem HoldOff.step {X : Nat → Prop} {w w' : World} {P : World → Prop} (h : HoldOff X w P) (hk : KeepOff X w w') : HoldOff X w' P := fun W hW => h W (hk.trans hW)
theorem HoldOff.below {X : Nat → Prop} {w w' : World} {P : World → Prop} (h : HoldOff X w P) (hb : Below w.heap.size w w') : HoldOff X w' P := h.step (KeepOff.below hb)
theorem HoldOff.grows (X : Nat → Prop) (w : World) : Grows (KeepOff X w) := fun _ _ h hb => h.trans (KeepOff.below hb)
/-- what a call made holds off boxes that lie below it -/
theorem HoldOff.firm {X : Nat → Prop} {w w' : World} {P : World → Prop} (h : Firm (KeepOff X w) w.heap.size w' P) (hX : ∀ b, X b → b < w.heap.size) (hb : Below w.heap.size w w') : HoldOff X w' P := fun W hW =>
 h W ((KeepOff.below hb).trans hW) fun b arr T hB hh => hW b arr T (fun hx => Nat.lt_irrefl _ (Nat.lt_of_lt_of_le (hX b hx) hB)) hh
/-- what is new holds off boxes that are old, or that come later -/
theorem HoldOff.new {X : Nat → Prop} {w w' : World} {P : World → Prop} (h : ∀ W, (∀ b arr T, w.heap.size ≤ b → BlockIs w' b arr T → BlockIs W b arr T) → P W) (hX : ∀ b, X b → b < w.heap.size ∨ w'.heap.size ≤ b) : HoldOff X w' P := fun W hW =>
 h W fun b arr T hB hh => hW b arr T (fun hx => by have := hh.lt; rcases hX b hx with h | h <;> omega) hh
theorem keep_alloc {X : Nat → Prop} (w : World) (o : Obj) : KeepOff X w (w.alloc o) := KeepOff.below ((Below.refl _ _).alloc (Nat.le_refl _) _)

theorem doOk_of {m : Mm} {N : Nat} (h : SmallP m.pl N) (hN : N ≤ 1000) (hl : LocksOk m.pl) : DoOk m := by
 obtain ⟨h1, h2, h3, h4, h5, h6, h7⟩ := h
 have e1 : m.pl.parts.length = m.parts.2.length := by unfold Mm.pl; simp
 have e2 : m.pl.locks.length = m.locks.2.length := by unfold Mm.pl; simp
 have b1 : m.pl.bans = m.bans.2 := rfl
 have b2 : m.pl.book = m.book.2 := rfl
 rw [b1] at h1; rw [b2] at h2
 refine ⟨by omega, by omega, fun k hk => ?_, fun s hs => ?_, by omega, by omega⟩
 ·have hm : (k.b, k.l) ∈ m.pl.locks := List.mem_map.2 ⟨k, hk, rfl⟩
  exact ⟨Nat.le_trans (h7 _ hm) (by omega), (hl _ hm).2⟩
 ·have hm : (s.size, s.l) ∈ m.pl.parts := List.mem_map.2 ⟨s, hs, rfl⟩
  exact Nat.le_trans (h5 _ hm) (by omega)
theorem newP_small (secret : Nat) (sh : Int) (bl : List Ba) (kl : List Ey) (pl : List Pe) (hb : bl.length ≤ 20) (hk : kl.length ≤ 20) (hp : pl.length ≤ 20) : SmallP (newP secret sh bl kl pl) 20 := by
 have := partsN_in sh
 refine ⟨hb, hk, ?_, ?_, fun p hp' => ?_, ?_, fun k hk' => ?_⟩
 ·show 1 ≤ (List.map _ (List.range (partsN sh))).length; rw [List.length_map, List.length_range]; omega
 ·show (List.map _ (List.range (partsN sh))).length ≤ 8; rw [List.length_map, List.length_range]; omega
 ·obtain ⟨i, _, rfl⟩ := List.mem_map.1 hp'
  exact Nat.le_trans (partL_len _ _ _ _) hp
 ·show (List.replicate _ _).length = (List.map _ (List.range (partsN sh))).length + 2; rw [List.length_map, List.length_range, List.length_replicate]
 ·rw [List.eq_of_mem_replicate hk']; exact Nat.zero_le _
theorem newP_locks (secret : Nat) (sh : Int) (bl : List Ba) (kl : List Ey) (pl : List Pe) : LocksOk (newP secret sh bl kl pl) := fun k hk => by
 rw [List.eq_of_mem_replicate hk]; exact ⟨Or.inl rfl, List.Pairwise.nil⟩
theorem memDo_off (X : Nat → Prop) (m : Mm) (o : Oq) (who : Int) (w : World) (hX : ∀ b, X b → b < w.heap.size) (hm : HoldOff X w fun W => MmAt W m) (ho : OqAt w o) (hwho : 0 ≤ who ∧ who ≤ 100) (hd : DoOk m) (hob : o.bans.2.length ≤ 1000) (hok : o.book.2.length ≤ 1000) :
  Calls Tryz.prog 14 #[.agg #[.int .i64 m.inn, .int .i64 m.out, m.bans.1, m.book.1, m.parts.1, m.locks.1], .agg #[.int .i64 o.kind, .int .i64 o.lock, .int .i64 o.lk, .int .i64 o.ls, .int .i64 o.lt, .int .i64 o.old, .int .i64 o.new, .int .i64 o.vn, .bool o.pe.en.ad.v6, .int .u64 o.pe.en.ad.hi, .int .u64 o.pe.en.ad.lo, .int .i64 o.pe.en.port, .bool o.pe.came, .int .i64 o.pe.since, .int .i64 o.pe.pts, .int .i64 o.pe.at_, .int .i64 o.pe.ping, .int .i64 o.pe.work, o.bans.1, o.book.1, .bool o.mark], .int .i64 who] w fun e w' => ∃ (m' : Mm) (v' : Vm), e = .returned (.tuple #[.agg #[.int .i64 (m').inn, .int .i64 (m').out, (m').bans.1, (m').book.1, (m').parts.1, (m').locks.1], .agg #[.int .i64 (v').n, .bool (v').pe.en.ad.v6, .int .u64 (v').pe.en.ad.hi, .int .u64 (v').pe.en.ad.lo, .int .i64 (v').pe.en.port, .bool (v').pe.came, .int .i64 (v').pe.since, .int .i64 (v').pe.pts, .int .i64 (v').pe.at_, .int .i64 (v').pe.ping, .int .i64 (v').pe.work, (v').bans.1, (v').book.1]]) ∧ HoldOff X w' (fun W => MmAt W m') ∧ HoldOff X w' (fun W => VmAt W v') ∧ m'.pl = (doP m.pl o who).1 ∧ v'.pl = (doP m.pl o who).2 ∧ Below w.heap.size w w' :=
 (memDo_any (KeepOff X w) (HoldOff.grows X w) w.heap.size m o who w (KeepOff.refl _ _) (Nat.le_refl _) hm ho hwho hd hob hok).mono fun e w' h => by
  obtain ⟨m', v', e1, h1, h2, h3, h4, h5⟩ := h
  exact ⟨m', v', e1, HoldOff.firm h1 hX h5, HoldOff.firm h2 hX h5, h3, h4, h5⟩
theorem refDo_any (w0 : World → Prop) (hg : Grows w0) (B : Nat) (m : Mm) (o : Oq) (who : Int) (w : World) (hb0 : w0 w) (hB : B ≤ w.heap.size) (hm : ∀ W, w0 W → MmAt W m) (hok : ∀ W, w0 W → OqAt W o) (hwho : 0 ≤ who ∧ who ≤ 100) (hd : DoOk m) :
  DoC 15 w0 B m o who w := by
 unfold DoC
 obtain ⟨hll, hlen, hlk, hpt, hbn, hbk⟩ := hd
 have hsq : ∀ k ∈ m.pl.locks, k.2.Pairwise (· < ·) := fun k hk => by
  unfold Mm.pl at hk
  obtain ⟨q, hq, rfl⟩ := List.mem_map.1 hk
  exact (hlk q hq).2
 have hql : (lkOf m o.lock).l.length ≤ 1000 := by
  rcases getAt_mem (l := m.locks.2) (k := o.lock) (d := zeroLk) with e | e
  ·exact (hlk _ e).1
  ·unfold lkOf; rw [e]; exact Nat.zero_le _
 have hN : (shOf m o.ls).l.length ≤ 100000 := by
  rcases getAt_mem (l := m.parts.2) (k := o.ls) (d := ⟨0, .slice none 0 0, []⟩) with e | e
  ·exact hpt _ e
  ·unfold shOf; rw [e]; exact Nat.zero_le _
 cases hmay : mayP m.pl o with
 | false => exact refDo_no w0 hg B m o who w hb0 hB hm hok hmay
 | true =>
  by_cases h1 : o.kind = 1
  ·exact refDo_1 w0 hg B m o who w hb0 hB hm hok hwho hmay h1 hll hlen
  by_cases h2 : o.kind = 2
  ·exact refDo_2 w0 hg B m o who w hb0 hB hm hok hwho hmay h2 hll hlen hsq hql
  by_cases h3 : o.kind = 3
  ·by_cases hb : (lkOf m o.lock).b = who + 1
   ·exact refDo_3y w0 hg B m o who w hb0 hB hm hok hwho hmay h3 hll hlen hb
   ·exact refDo_3n w0 hg B m o who w hb0 hB hm hok hwho hmay h3 hll hlen hb
  by_cases h4 : o.kind = 4
  ·exact refDo_4 w0 hg B m o who w hb0 hB hm hok hwho hmay h4 hll hlen hql
  by_cases h5 : o.kind = 5
  ·exact refDo_5 w0 hg B m o who w hb0 hB hm hok hmay h5
  by_cases h6 : o.kind = 6
  ·exact refDo_6 w0 hg B m o who w hb0 hB hm hok hmay h6 (by omega) hN
  by_cases h7 : o.kind = 7
  ·exact refDo_7 w0 hg B m o who w hb0 hB hm hok hmay h7
  ·exact refDo_8 w0 hg B m o who w hb0 hB hm hok hmay (by omega)
/-- W keeps all of w's blocks but those of X, and what lay below w0's end -/
def Keep2 (X : Nat → Prop) (w0 w W : World) : Prop := KeepOff X w W ∧ Below w0.heap.size w0 W
/-- P holds in every such world -/
def Hold2 (X : Nat → Prop) (w0 w : World) (P : World → Prop) : Prop := ∀ W, Keep2 X w0 w W → P W
theorem Hold2.now {X : Nat → Prop} {w0 w : World} {P : World → Prop} (h : Hold2 X w0 w P) (hb : Below w0.heap.size w0 w) : P w := h w ⟨KeepOff.refl _ _, hb⟩
theorem Hold2.step {X : Nat → Prop} {w0 w w' : World} {P : World → Prop} (h : Hold2 X w0 w P) (hk : KeepOff X w w') : Hold2 X w0 w' P := fun W hW => h W ⟨hk.trans hW.1, hW.2⟩
theorem Hold2.below {X : Nat → Prop} {w0 w w' : World} {P : World → Prop} (h : Hold2 X w0 w P) (hb : Below w.heap.size w w') : Hold2 X w0 w' P := h.step (KeepOff.below hb)
theorem Hold2.grows (X : Nat → Prop) (w0 w : World) (hw : w0.heap.size ≤ w.heap.size) : Grows (Keep2 X w0 w) := fun W W' h hb => ⟨h.1.trans (KeepOff.below hb), below2 h.2 hb⟩
theorem Hold2.firm {X : Nat → Prop} {w0 w w' : World} {P : World → Prop} (h : Firm (Keep2 X w0 w) w.heap.size w' P) (hX : ∀ b, X b → b < w.heap.size) (hb : Below w.heap.size w w') : Hold2 X w0 w' P := fun W hW =>
 h W ⟨(KeepOff.below hb).trans hW.1, hW.2⟩ fun b arr T hB hh => hW.1 b arr T (fun hx => Nat.lt_irrefl _ (Nat.lt_of_lt_of_le (hX b hx) hB)) hh
theorem Hold2.of {X : Nat → Prop} {w0 w : World} {P : World → Prop} (h : HoldOff X w P) : Hold2 X w0 w P := fun W hW => h W hW.1
theorem Hold2.old {X : Nat → Prop} {w0 w : World} {P : World → Prop} (h : ∀ W, Below w0.heap.size w0 W → P W) : Hold2 X w0 w P := fun W hW => h W hW.2
theorem refDo_off (X : Nat → Prop) (w0 : World) (m : Mm) (o : Oq) (who : Int) (w : World) (hw : Below w0.heap.size w0 w) (hX : ∀ b, X b → b < w.heap.size) (hm : Hold2 X w0 w fun W => MmAt W m) (ho : Hold2 X w0 w fun W => OqAt W o) (hwho : 0 ≤ who ∧ who ≤ 100) (hd : DoOk m) :
  Calls Tryz.prog 15 #[.agg #[.int .i64 m.inn, .int .i64 m.out, m.bans.1, m.book.1, m.parts.1, m.locks.1], .agg #[.int .i64 o.kind, .int .i64 o.lock, .int .i64 o.lk, .int .i64 o.ls, .int .i64 o.lt, .int .i64 o.old, .int .i64 o.new, .int .i64 o.vn, .bool o.pe.en.ad.v6, .int .u64 o.pe.en.ad.hi, .int .u64 o.pe.en.ad.lo, .int .i64 o.pe.en.port, .bool o.pe.came, .int .i64 o.pe.since, .int .i64 o.pe.pts, .int .i64 o.pe.at_, .int .i64 o.pe.ping, .int .i64 o.pe.work, o.bans.1, o.book.1, .bool o.mark], .int .i64 who] w fun e w' => ∃ (m' : Mm) (v' : Vm), e = .returned (.tuple #[.agg #[.int .i64 (m').inn, .int .i64 (m').out, (m').bans.1, (m').book.1, (m').parts.1, (m').locks.1], .agg #[.int .i64 (v').n, .bool (v').pe.en.ad.v6, .int .u64 (v').pe.en.ad.hi, .int .u64 (v').pe.en.ad.lo, .int .i64 (v').pe.en.port, .bool (v').pe.came, .int .i64 (v').pe.since, .int .i64 (v').pe.pts, .int .i64 (v').pe.at_, .int .i64 (v').pe.ping, .int .i64 (v').pe.work, (v').bans.1, (v').book.1]]) ∧ Hold2 X w0 w' (fun W => MmAt W m') ∧ Hold2 X w0 w' (fun W => VmAt W v') ∧ m'.pl = (doP m.pl o who).1 ∧ v'.pl = (doP m.pl o who).2 ∧ Below w.heap.size w w' :=
 (refDo_any (Keep2 X w0 w) (Hold2.grows X w0 w hw.size) w.heap.size m o who w ⟨KeepOff.refl _ _, hw⟩ (Nat.le_refl _) hm ho hwho hd).mono fun e w' h => by
  obtain ⟨m', v', e1, h1, h2, h3, h4, h5⟩ := h
  exact ⟨m', v', e1, Hold2.firm h1 hX h5, Hold2.firm h2 hX h5, h3, h4, h5⟩
section
variable {P : Program} {ops : Array Oper} {md : Region.Mode} {S : World → Prop} {Q : Exit → Act → World → Prop} {L : Nat}
theorem hldL_many {f : Nat} {l : List Nat} {listed : Array Bool} {a : Act} {w : World} (hr : Region.ready md ops listed = l) (hl : l ≠ [])
  (h : ∀ i ∈ l, ∃ o, ops[i]? = some o ∧ ∀ K' : Act → World → Prop, Hid (∀ a w, ((listed.setIfInBounds i true).getD L true = false → S w) → (((listed.setIfInBounds i true).getD L true = false → S w) → hldL P md ops Q S L f (listed.setIfInBounds i true) a w) → K' a w) → if Region.wanted o (yielded ops a.tmps) = true then Oper.wp P o a w K' Q else K' (a.put o.dst undef) w) :
  hldL P md ops Q S L (f + 1) listed a w := by
 refine ⟨fun e => absurd (hr.symm.trans e) hl, fun j hj => ?_⟩
 rw [hr] at hj
 obtain ⟨o, hi, h'⟩ := h j hj
 exact wpOp_step hi fun K' hK => h' K' fun a w hS hW => hK a w ⟨hS, hW hS⟩
theorem hldL_two {i j f : Nat} {o p : Oper} {listed : Array Bool} {a : Act} {w : World} (hi : ops[i]? = some o) (hj : ops[j]? = some p) (hr : Region.ready md ops listed = [i, j])
  (h : ∀ K' : Act → World → Prop, Hid (∀ a w, ((listed.setIfInBounds i true).getD L true = false → S w) → (((listed.setIfInBounds i true).getD L true = false → S w) → hldL P md ops Q S L f (listed.setIfInBounds i true) a w) → K' a w) → if Region.wanted o (yielded ops a.tmps) = true then Oper.wp P o a w K' Q else K' (a.put o.dst undef) w)
  (h' : ∀ K' : Act → World → Prop, Hid (∀ a w, ((listed.setIfInBounds j true).getD L true = false → S w) → (((listed.setIfInBounds j true).getD L true = false → S w) → hldL P md ops Q S L f (listed.setIfInBounds j true) a w) → K' a w) → if Region.wanted p (yielded ops a.tmps) = true then Oper.wp P p a w K' Q else K' (a.put p.dst undef) w) :
  hldL P md ops Q S L (f + 1) listed a w := hldL_many hr (by simp) fun k hk => by
 rcases List.mem_cons.1 hk with rfl | hk
 ·exact ⟨o, hi, h⟩
 ·obtain rfl : k = j := by simpa using hk
  exact ⟨p, hj, h'⟩
theorem hldL_three {i j k f : Nat} {o p q : Oper} {listed : Array Bool} {a : Act} {w : World} (hi : ops[i]? = some o) (hj : ops[j]? = some p) (hk : ops[k]? = some q) (hr : Region.ready md ops listed = [i, j, k])
  (h : ∀ K' : Act → World → Prop, Hid (∀ a w, ((listed.setIfInBounds i true).getD L true = false → S w) → (((listed.setIfInBounds i true).getD L true = false → S w) → hldL P md ops Q S L f (listed.setIfInBounds i true) a w) → K' a w) → if Region.wanted o (yielded ops a.tmps) = true then Oper.wp P o a w K' Q else K' (a.put o.dst undef) w)
  (h' : ∀ K' : Act → World → Prop, Hid (∀ a w, ((listed.setIfInBounds j true).getD L true = false → S w) → (((listed.setIfInBounds j true).getD L true = false → S w) → hldL P md ops Q S L f (listed.setIfInBounds j true) a w) → K' a w) → if Region.wanted p (yielded ops a.tmps) = true then Oper.wp P p a w K' Q else K' (a.put p.dst undef) w)
  (h'' : ∀ K' : Act → World → Prop, Hid (∀ a w, ((listed.setIfInBounds k true).getD L true = false → S w) → (((listed.setIfInBounds k true).getD L true = false → S w) → hldL P md ops Q S L f (listed.setIfInBounds k true) a w) → K' a w) → if Region.wanted q (yielded ops a.tmps) = true then Oper.wp P q a w K' Q else K' (a.put q.dst undef) w) :
  hldL P md ops Q S L (f + 1) listed a w := hldL_many hr (by simp) fun g hg => by
 rcases List.mem_cons.1 hg with rfl | hg
 ·exact ⟨o, hi, h⟩
 rcases List.mem_cons.1 hg with rfl | hg
 ·exact ⟨p, hj, h'⟩
 ·obtain rfl : g = k := by simpa using hg
  exact ⟨q, hk, h''⟩
/-- a whole struct into a block, one step -/
theorem step_store_blk {o : Oper} {a : Act} {w : World} {K : Act → World → Prop} {E : Prop} (hgd : o.guard = none) (ty : TypeId) (x y : Operand) (ho : o.op = .store ty x y) (g : Nat) (old cells : List Value) (t : TypeId) (hB : BlockIs w g old t)
  (hx : a.eval x = .pointer (some ⟨g, 0, none⟩)) (hy : a.eval y = .agg cells.toArray) (hi : (P.info? ty).map (·.size) = some cells.length) (hl : old.length = cells.length) (h1 : cells.all (·.oneCell') = true)
  (B : Nat) (w0 : World) (hbel : Below B w0 w) (hBg : B ≤ g)
  (h : ∀ w', BlockIs w' g cells t → (∀ k arr u, k ≠ g → BlockIs w k arr u → BlockIs w' k arr u) → w'.heap.size = w.heap.size → Below B w0 w' → K (a.put o.dst undef) w') : if Region.wanted o (yielded ops a.tmps) = true then o.wp P a w K Q else E := by
 rw [if_pos (by simp [Region.wanted, hgd])]
 exact wp_store_row ty x y ho g cells.toArray hx hy t old.toArray hB (by simpa using hi) (by simpa using hl) (by simpa using h1)
  (h _ (setRow_heap w g _ _ t _ hB) (fun k arr u hk hb => by unfold BlockIs at *; rw [setRow_other w g k _ hk]; exact hb) (size_setRow _ _ _) (below_setRow hbel hBg _))
end
theorem knm {K : Act → World → Prop} {a : Act} {w : World} {c : List Value} {T : TypeId} (h : ∀ W : World, Below w.heap.size w W → BlockIs W w.heap.size c T → W.heap.size = w.heap.size + 1 → K a W) : K a (w.alloc (.cells c.toArray T)) := h _ ((Below.refl _ _).alloc (Nat.le_refl _) _) (BlockIs.new _ _ _) (World.size_alloc _ _)
theorem blk_range {w : World} {g : Nat} {cs : List Value} {T : TypeId} (h : BlockIs w g cs T) : w.rangeAt g 0 cs := fun j u hj => by rw [Nat.zero_add]; exact h.cell hj
theorem Hold2.mono {X X' : Nat → Prop} {w0 w : World} {P : World → Prop} (h : Hold2 X' w0 w P) (hx : ∀ b, X b → X' b) : Hold2 X w0 w P := fun W hW => h W ⟨fun b arr T hb hh => hW.1 b arr T (fun hq => hb (hx b hq)) hh, hW.2⟩
/-- blocks that are new need not be kept -/
theorem Hold2.widen {X : Nat → Prop} {w0 w w' : World} {P : World → Prop} (h : Hold2 X w0 w P) (hb : Below w.heap.size w w') : Hold2 (fun b => X b ∨ (w.heap.size ≤ b ∧ b < w'.heap.size)) w0 w' P := fun W hW =>
 h W ⟨fun b arr T hx hh => hW.1 b arr T (fun hq => hq.elim hx fun h1 => by have := hh.lt; omega) (hh.below hb), hW.2⟩
theorem Hold2.new {X : Nat → Prop} {w0 w w' : World} {P : World → Prop} (h : ∀ W, Below w0.heap.size w0 W → (∀ b arr T, w.heap.size ≤ b → BlockIs w' b arr T → BlockIs W b arr T) → P W) (hX : ∀ b, X b → b < w.heap.size ∨ w'.heap.size ≤ b) : Hold2 X w0 w' P := fun W hW =>
 h W hW.2 fun b arr T hB hh => hW.1 b arr T (fun hx => by have := hh.lt; rcases hX b hx with h | h <;> omega) hh
theorem memDo_off2 (X : Nat → Prop) (w0 : World) (m : Mm) (o : Oq) (who : Int) (w : World) (hw : Below w0.heap.size w0 w) (hX : ∀ b, X b → b < w.heap.size) (hm : Hold2 X w0 w fun W => MmAt W m) (ho : OqAt w o) (hwho : 0 ≤ who ∧ who ≤ 100) (hd : DoOk m) (hob : o.bans.2.length ≤ 1000) (hok : o.book.2.length ≤ 1000) :
  Calls Tryz.prog 14 #[.agg #[.int .i64 m.inn, .int .i64 m.out, m.bans.1, m.book.1, m.parts.1, m.locks.1], .agg #[.int .i64 o.kind, .int .i64 o.lock, .int .i64 o.lk, .int .i64 o.ls, .int .i64 o.lt, .int .i64 o.old, .int .i64 o.new, .int .i64 o.vn, .bool o.pe.en.ad.v6, .int .u64 o.pe.en.ad.hi, .int .u64 o.pe.en.ad.lo, .int .i64 o.pe.en.port, .bool o.pe.came, .int .i64 o.pe.since, .int .i64 o.pe.pts, .int .i64 o.pe.at_, .int .i64 o.pe.ping, .int .i64 o.pe.work, o.bans.1, o.book.1, .bool o.mark], .int .i64 who] w fun e w' => ∃ (m' : Mm) (v' : Vm), e = .returned (.tuple #[.agg #[.int .i64 (m').inn, .int .i64 (m').out, (m').bans.1, (m').book.1, (m').parts.1, (m').locks.1], .agg #[.int .i64 (v').n, .bool (v').pe.en.ad.v6, .int .u64 (v').pe.en.ad.hi, .int .u64 (v').pe.en.ad.lo, .int .i64 (v').pe.en.port, .bool (v').pe.came, .int .i64 (v').pe.since, .int .i64 (v').pe.pts, .int .i64 (v').pe.at_, .int .i64 (v').pe.ping, .int .i64 (v').pe.work, (v').bans.1, (v').book.1]]) ∧ Hold2 X w0 w' (fun W => MmAt W m') ∧ Hold2 X w0 w' (fun W => VmAt W v') ∧ m'.pl = (doP m.pl o who).1 ∧ v'.pl = (doP m.pl o who).2 ∧ Below w.heap.size w w' :=
 (memDo_any (Keep2 X w0 w) (Hold2.grows X w0 w hw.size) w.heap.size m o who w ⟨KeepOff.refl _ _, hw⟩ (Nat.le_refl _) hm ho hwho hd hob hok).mono fun e w' h => by
  obtain ⟨m', v', e1, h1, h2, h3, h4, h5⟩ := h
  exact ⟨m', v', e1, Hold2.firm h1 hX h5, Hold2.firm h2 hX h5, h3, h4, h5⟩
theorem pes_pl (m : Mm) : m.parts.2.flatMap pesS = m.pl.parts.flatMap fun s => s.2.take s.1.toNat := by
 show _ = (m.parts.2.map (fun s => (s.size, s.l))).flatMap _
 rw [List.flatMap_map]; rfl
theorem small_flat {l : List Sh} {N : Nat} (h : ∀ s ∈ l, s.l.length ≤ N) (k : Nat) : ((l.take k).flatMap pesS).length ≤ l.length * N := by
 induction l generalizing k with
 | nil => simp
 | cons s r ih =>
  cases k with
  | zero => simp
  | succ k =>
   rw [List.take_succ_cons, List.flatMap_cons, List.length_append, List.length_cons, Nat.succ_mul]
   have h1 := ih (fun x hx => h x (List.mem_cons_of_mem _ hx)) k
   have h2 : (pesS s).length ≤ N := Nat.le_trans (by unfold pesS; rw [List.length_take]; omega) (h s (List.mem_cons_self ..))
   omega
theorem small_parts {m : Mm} {N : Nat} (h : SmallP m.pl N) (hN : N ≤ 1000) : (∀ s ∈ m.parts.2, s.l.length ≤ 1000000) ∧ ∀ k, ((m.parts.2.take k).flatMap pesS).length ≤ 1000000 := by
 have hl : m.parts.2.length ≤ 8 := by have := h.2.2.2.1; unfold Mm.pl at this; simpa using this
 have hs : ∀ s ∈ m.parts.2, s.l.length ≤ N := fun s hs => h.2.2.2.2.1 (s.size, s.l) (List.mem_map.2 ⟨s, hs, rfl⟩)
 refine ⟨fun s h' => Nat.le_trans (hs s h') (by omega), fun k => Nat.le_trans (small_flat hs k) ?_⟩
 have : m.parts.2.length * N ≤ 8 * 1000 := Nat.mul_le_mul hl hN
 omega
end Go.Proofs.YtnplgagaoeckoaaGreat
namespace Go.Proofs.YtnplgagaoeckoaaGreat
open Go.RowKit Go.Lib
set_option maxHeartbeats 4000000 in
theorem ints_sameI (v u : Value) (L : List Int) (w : World) (hv : ReadsL inV 1 w v L) (hu : ReadsL inV 1 w u L) :
  Calls Tryz.prog 17 #[v, u] w fun e w' => e = .returned (.bool true) ∧ Below w.heap.size w w' := by
 obtain ⟨hn, a, cap, rfl, ho⟩ := ins_open hv
 obtain ⟨_, a2, cap2, rfl, ho2⟩ := ins_open hu
 clear hv hu
 go_enter Tryz.func17, Tryz.ntmps17
 go_wp2_with fail
 go_loopw [5] (fun i wr => ∃ (k : Nat), k ≤ L.length ∧ i = .int .i64 k ∧ Below w.heap.size w wr) (fun i _ => L.length - (intOf i).toNat)
 case atStart => exact ⟨0, Nat.zero_le _, rfl, Below.refl _ _⟩
 case round =>
  obtain ⟨k, hk, rfl, hb⟩ := hrel
  by_cases hk2 : k < L.length
  ·obtain ⟨x, hx⟩ : ∃ x, L[k]? = some x := ⟨_, List.getElem?_eq_getElem hk2⟩
   obtain ⟨b, o, rfl, hc, hlt, hx1⟩ := ho (by omega)
   obtain ⟨b2, o2, rfl, hc2, hlt2, hx2⟩ := ho2 (by omega)
   have g1 := hx1 k x hx
   have g2 := hx2 k x hx
   have hz := hb.size
   have f1 := fun y => (ext_cell wr y (p := ⟨b, o + k, none⟩) (by show b < _; omega)).trans (keep hb hlt g1)
   have f2 := fun y => (ext_cell wr y (p := ⟨b2, o2 + k, none⟩) (by show b2 < _; omega)).trans (keep hb hlt2 g2)
   have q1 : (0 : Int) ≤ (k : Int) := by omega
   have q2 : (k : Int) < (L.length : Int) := by omega
   clear ho ho2 hx hx1 hx2 g1 g2
   go_wp2_with fail
   refine wp_region_ext (by kernel_rfl) (by kernel_rfl) ?_
   repeat (go_big_quiet_step (fail))
   refine wpQuiet_nil ?_
   intro _ hw'
   obtain ⟨gx, hw''⟩ := hw'
   subst hw''
   clear f1 f2
   have b8 := below2 hb (ext_below wr gx)
   go_wp2_with fail
   go_roundw
   case rel => exact ⟨k + 1, by omega, by go_num, b8⟩
   case measure => simp [intOf]; omega
  ·go_wp2_with fail
   go_ret
   exact ⟨rfl, hb⟩
set_option maxHeartbeats 4000000 in
theorem refBookCount_any (v : Value) (l : List Ey) (t : Int) (w : World) (h : ReadsL eyV 7 w v l) :
  Calls Tryz.prog 35 #[v, .int .i64 t] w fun e w' => e = .returned (.int .i64 (cntE t l)) ∧ Below w.heap.size w w' := by
 obtain ⟨hm, p, c, rfl, h3⟩ := ey_open h
 clear h
 go_enter Tryz.func35, Tryz.ntmps35
 go_wp2_with fail
 go_loopw [5, 6] (fun n' i' wr => ∃ k : Nat, k ≤ l.length ∧ i' = .int .i64 k ∧ n' = .int .i64 (cntE t (l.take k)) ∧ Hid (Below w.heap.size w wr)) (fun _ i' _ => l.length - (intOf i').toNat)
 case atStart => exact ⟨0, by omega, rfl, rfl, Below.refl _ _⟩
 case round =>
  obtain ⟨k, hk, rfl, rfl, HB⟩ := hrel
  by_cases hlt : k < l.length
  ·obtain ⟨x, hx⟩ : ∃ x, l[k]? = some x := ⟨_, List.getElem?_eq_getElem hlt⟩
   obtain ⟨b, o, rfl, h4, h5, h6⟩ := h3 (by omega)
   obtain ⟨k0, k1, k2, k3, k4, k5, k6⟩ := h6 k x hx
   have k4 := keep HB.out h5 k4
   have q1 : (0 : Int) ≤ (k : Int) := by omega
   have q2 : (k : Int) < (l.length : Int) := by omega
   have hS := cntE_snoc t (l.take k) x
   rw [← show l.take (k + 1) = l.take k ++ [x] by rw [List.take_add_one, hx, Option.toList_some]] at hS
   have HS := zh hS
   have hcl : cntE t (l.take k) ≤ k := Nat.le_trans (cntE_le _ _) (by rw [List.length_take]; omega)
   clear hx h6 hS k0 k1 k2 k3 k5 k6
   by_cases hc : x.state = t
   ·have HS2 : Hid (cntE t (l.take (k + 1)) = cntE t (l.take k) + 1) := by show _ = _; rw [HS.out, if_pos hc]
    have f1 : (x.state == t) = true := by simpa using hc
    clear hc
    go_wp2_with fail
    go_roundw
    case rel => exact ⟨k + 1, by omega, by go_num, by rw [HS2.out]; go_num, HB.out⟩
    case measure => simp [intOf]; omega
   ·have HS2 : Hid (cntE t (l.take (k + 1)) = cntE t (l.take k)) := by show _ = _; rw [HS.out, if_neg hc]; rfl
    have f1 : (x.state == t) = false := by simpa using hc
    clear hc
    go_wp2_with fail
    go_roundw
    case rel => exact ⟨k + 1, by omega, by go_num, by rw [HS2.out], HB.out⟩
    case measure => simp [intOf]; omega
  ·obtain rfl : k = l.length := by omega
   have HR : Hid (cntE t (l.take l.length) = cntE t l) := by show _ = _; rw [List.take_length]
   go_wp2_with fail
   go_ret
   exact ⟨by rw [HR.out]; rfl, HB.out⟩
set_option maxHeartbeats 4000000 in
theorem small37_any (vb vk vp : Value) (bl : List Ba) (kl : List Ey) (pl : List Pe) (w : World) (hb : ReadsL baV 5 w vb bl) (hk : ReadsL eyV 7 w vk kl) (hp : ReadsL peV 10 w vp pl) :
  Calls Tryz.prog 6 #[.agg #[vb, vk, vp]] w fun e w' => e = .returned (.bool (decide (bl.length ≤ 20) && (decide (kl.length ≤ 20) && decide (pl.length ≤ 20)))) ∧ Below w.heap.size w w' := by
 obtain ⟨_, a1, c1, rfl, _⟩ := ba_open hb
 obtain ⟨_, a2, c2, rfl, _⟩ := ey_open hk
 obtain ⟨_, a3, c3, rfl, _⟩ := pes_open hp
 clear hb hk hp
 generalize bl.length = n1; generalize kl.length = n2; generalize pl.length = n3
 rcases Nat.lt_or_ge 20 n1 with h1 | h1
 ·have f1 : decide ((n1 : Int) ≤ 20) = false := decide_eq_false (by omega)
  rw [decide_eq_false (show ¬ n1 ≤ 20 by omega)]
  have f1' : decide (n1 ≤ 20) = false := decide_eq_false (by omega)
  go_enter Tryz.func6, Tryz.ntmps6
  go_wp2_with fail
  go_ret
  exact ⟨rfl, by exact bel⟩
 ·have f1 : decide ((n1 : Int) ≤ 20) = true := decide_eq_true (by omega)
  have f1' : decide (n1 ≤ 20) = true := decide_eq_true h1
  rw [f1', Bool.true_and]
  rcases Nat.lt_or_ge 20 n2 with h2 | h2
  ·have f2 : decide ((n2 : Int) ≤ 20) = false := decide_eq_false (by omega)
   have f2' : decide (n2 ≤ 20) = false := decide_eq_false (by omega)
   rw [f2', Bool.false_and]
   go_enter Tryz.func6, Tryz.ntmps6
   go_wp2_with fail
   go_ret
   exact ⟨rfl, by exact bel⟩
  ·have f2 : decide ((n2 : Int) ≤ 20) = true := decide_eq_true (by omega)
   have f2' : decide (n2 ≤ 20) = true := decide_eq_true h2
   rw [f2', Bool.true_and]
   rcases Nat.lt_or_ge 20 n3 with h3 | h3
   ·have f3 : decide ((n3 : Int) ≤ 20) = false := decide_eq_false (by omega)
    have f3' : decide (n3 ≤ 20) = false := decide_eq_false (by omega)
    rw [f3']
    go_enter Tryz.func6, Tryz.ntmps6
    go_wp2_with fail
    go_ret
    exact ⟨rfl, by exact bel⟩
   ·have f3 : decide ((n3 : Int) ≤ 20) = true := decide_eq_true (by omega)
    have f3' : decide (n3 ≤ 20) = true := decide_eq_true h3
    rw [f3']
    go_enter Tryz.func6, Tryz.ntmps6
    go_wp2_with fail
    go_ret
    exact ⟨rfl, by exact bel⟩
set_option maxHeartbeats 4000000 in
theorem book_same (v u : Value) (l : List Ey) (w : World) (hv : ReadsL eyV 7 w v l) (hu : ReadsL eyV 7 w u l) : Calls Tryz.prog 26 #[v, u] w fun e w' => e = .returned (.bool true) ∧ Below w.heap.size w w' := by
 obtain ⟨hn, a, cap, rfl, ho⟩ := ey_open hv
 obtain ⟨_, a', cap', rfl, ho'⟩ := ey_open hu
 clear hv hu
 rcases Nat.eq_zero_or_pos l.length with h0 | hp
 ·rw [h0]
  clear ho ho' h0
  go_enter Tryz.func26, Tryz.ntmps26
  go_wp2_with fail
  refine wp_loop_rounds 1 ?_; rw [rounds_succ]
  go_wp2_with fail
  go_ret
  exact ⟨rfl, Below.refl _ _⟩
 ·obtain ⟨b, o, rfl, hc, hlt, hx⟩ := ho hp
  obtain ⟨b', o', rfl, hc', hlt', hx'⟩ := ho' hp
  obtain ⟨HX, HX'⟩ := zh2 hx hx'
  clear ho hx ho' hx'
  go_enter Tryz.func26, Tryz.ntmps26
  go_wp2_with fail
  go_loopw [5] (fun i wr => ∃ (k : Nat), k ≤ l.length ∧ i = .int .i64 k ∧ Below w.heap.size w wr) (fun i _ => l.length - (intOf i).toNat)
  case atStart => exact ⟨0, Nat.zero_le _, rfl, Below.refl _ _⟩
  case round =>
   obtain ⟨k, hk, rfl, hb⟩ := hrel
   by_cases hk2 : k < l.length
   ·obtain ⟨p, hp'⟩ : ∃ p, l[k]? = some p := ⟨_, List.getElem?_eq_getElem hk2⟩
    obtain ⟨c0, c1, c2, c3, c4, c5, c6⟩ := (HX.out k p hp').below hb hlt
    obtain ⟨d0, d1, d2, d3, d4, d5, d6⟩ := (HX'.out k p hp').below hb hlt'
    clear hp'
    have q1 : (k : Int) < (l.length : Int) := by omega
    have q2 : (0 : Int) ≤ (k : Int) := by omega
    have qq := fun W => neqEy_self p W
    go_wp2_with fail
    go_quiet (fail)
    go_wp2_with fail
    go_roundw
    case rel => exact ⟨k + 1, by omega, by go_num, below_drewN hb _⟩
    case measure => simp [intOf]; omega
   ·obtain rfl : k = l.length := by omega
    go_wp2_with fail
    go_ret
    exact ⟨rfl, hb⟩

theorem tsorted_firm (v : Value) (l : List Pe) (w : World) (h : ReadsL peV 10 w v l) (hl : l.length ≤ 1000000) :
  Calls Tryz.prog 79 #[v] w fun e w' => ∃ r, e = .returned r ∧ (∀ W, (∀ b arr T, w.heap.size ≤ b → BlockIs w' b arr T → BlockIs W b arr T) → ReadsL peV 10 W r (pstL l)) ∧ Below w.heap.size w w' := by
 by_cases hn : l = []
 ·subst hn
  refine (sorted_none v w h).mono ?_
  rintro e w' ⟨r, rfl, hr, b⟩
  obtain ⟨_, a, c, e, _⟩ := pes_open hr
  refine ⟨r, rfl, fun W _ => ?_, b⟩
  rw [e]; exact ReadsL.nil _ _ _ _ _
 ·refine (sorted_any v l w h hl (srtL_len l) hn).mono ?_
  rintro e w' ⟨r, rfl, o, b⟩
  rw [srtL_is] at o
  have hlen : (pstL l).length = l.length := pstL_len l
  rw [← hlen] at o
  exact ⟨r, rfl, fun W hW => owns_readsL (owns_held o fun g arr hg hh => hW g arr _ hg hh), b⟩
set_option maxHeartbeats 8000000 in
theorem shJoin_firm (v : Value) (ss : List Sh) (w : World) (h : ReadsSh w v ss) (hs : ∀ s ∈ ss, s.l.length ≤ 1000000) (hl : ∀ k, ((ss.take k).flatMap pesS).length ≤ 1000000) :
  Calls Tryz.prog 57 #[v] w fun e w' => ∃ r, e = .returned r ∧ (∀ W, (∀ b arr T, w.heap.size ≤ b → BlockIs w' b arr T → BlockIs W b arr T) → ReadsL peV 10 W r (pstL (ss.flatMap pesS))) ∧ Below w.heap.size w w' := by
 obtain ⟨hm, a0, c, rfl, h3⟩ := shs_open h.1
 obtain ⟨HV, HL⟩ := zh2 h hl
 clear h hl
 go_enter Tryz.func57, Tryz.ntmps57
 go_wp2_with fail
 go_loopw [3, 8] (fun u' i' wr => ∃ k : Nat, k ≤ ss.length ∧ i' = .int .i64 k ∧ Hid (wr.ownsRow w.heap.size 52 10 u' ((ss.take k).flatMap pesS).length (((ss.take k).flatMap pesS).flatMap peV)) ∧ Hid (Below w.heap.size w wr)) (fun _ i' _ => ss.length - (intOf i').toNat)
 case atStart => exact ⟨0, by omega, rfl, World.ownsRow_nil _ _ _ _, Below.refl _ _⟩
 case round =>
  obtain ⟨k, hk, rfl, HU, HB⟩ := hrel
  by_cases hlt : k < ss.length
  ·obtain ⟨⟨z, y, m⟩, hx⟩ : ∃ x, ss[k]? = some x := ⟨_, List.getElem?_eq_getElem hlt⟩
   obtain ⟨b, o, rfl, h4, h5, h6⟩ := h3 (by omega)
   obtain ⟨c0, c1⟩ := h6 k _ hx
   have k0 := keep HB.out h5 c0; have k1 := keep HB.out h5 c1
   have hmem := List.mem_of_getElem? hx
   have hrd := HV.out.2 _ hmem
   have hml := hs _ hmem
   simp only at k0 k1 hrd hml
   have q1 : (0 : Int) ≤ (k : Int) := by omega
   have q2 : (k : Int) < (ss.length : Int) := by omega
   have hS : (ss.take (k + 1)).flatMap pesS = (ss.take k).flatMap pesS ++ m.take z.toNat := by rw [List.take_add_one, hx, Option.toList_some, List.flatMap_append]; simp [pesS]
   have hll := HL.out (k + 1)
   rw [hS, List.length_append] at hll
   have HS := zh hS
   have hb0 : Below w.heap.size w (wr.alloc (.cells #[.int .i64 z, y] 112)) := HB.out.alloc HB.out.size _
   have hP := fun W (hW : Below w.heap.size w W) => shPeers_any z y m W (ReadsL.below hrd hW) hml
   generalize m.take z.toNat = q at hP HS hll
   have HP := zh hP
   obtain ⟨hmm, pm, cm, rfl, -⟩ := pes_open hrd
   clear hx h6 h3 c0 c1 hmem hrd hS hs hP
   have HA := zh hb0
   clear hb0
   go_wp2_with (first
    | (go_at_call 78; (with_reducible refine (HP.out _ HA.out).mono ?_); rintro e w6 ⟨r6, rfl, rd6, b6⟩; obtain ⟨hm6, p6, c6, rfl, -⟩ := pes_open rd6; have HB6 : Hid (Below wr.heap.size wr w6) := ((Below.refl wr.heap.size wr).alloc (Nat.le_refl _) _).trans (b6.mono (by simp)))
    | (at_builtin; refine list_app_reads peRow rfl (.tmp 12) (.tmp 14) rfl w.heap.size _ ((ss.take k).flatMap pesS).length (((ss.take k).flatMap pesS).flatMap peV) rfl (owns_below HU.out HB6.out) _ q.length (q.flatMap peV) rfl rd6 (peV_ones _) (by omega) (by omega) (Nat.le_trans HB.out.size HB6.out.size) w.heap.size w6 (Below.refl _ _) (Nat.le_refl _) ?_; intro v7 w7 o7 b7; rw [← List.length_append, ← List.flatMap_append, ← HS.out] at o7))
   go_roundw
   case rel => exact ⟨k + 1, by omega, by go_num, o7, (HB.out.trans (HB6.out.mono HB.out.size)).trans b7⟩
   case measure => simp [intOf]; omega
  ·obtain rfl : k = ss.length := by omega
   have hTk : ss.take ss.length = ss := List.take_length
   have hll := HL.out ss.length
   rw [hTk] at HU hll
   obtain ⟨AL, hAL⟩ : ∃ AL, AL = ss.flatMap pesS := ⟨_, rfl⟩
   rw [← hAL] at HU hll
   have HAL := zh hAL
   have HSo := zh (tsorted_firm _ _ wr (owns_readsL HU.out) hll)
   clear hTk h3 hs hAL
   obtain ⟨g, cc, rfl⟩ := owns_slice HU.out
   go_wp2_with (go_at_call 79; (with_reducible refine HSo.out.mono ?_); rintro e w6 ⟨r6, rfl, rd6, b6⟩)
   go_ret
   exact ⟨_, rfl, fun W hW => (by rw [← HAL.out]; exact rd6 W fun b arr T hb hh => hW b arr T (Nat.le_trans HB.out.size hb) hh), below2 HB.out b6⟩
set_option maxHeartbeats 8000000 in
theorem memState_any (m : Mm) (w : World) (h : MmAt w m) (hb : m.bans.2.length ≤ 1000) (hk : m.book.2.length ≤ 1000) (hs : ∀ s ∈ m.parts.2, s.l.length ≤ 1000000) (hl : ∀ k, ((m.parts.2.take k).flatMap pesS).length ≤ 1000000) :
  Calls Tryz.prog 21 #[.agg #[.int .i64 m.inn, .int .i64 m.out, m.bans.1, m.book.1, m.parts.1, m.locks.1]] w fun e w' => ∃ (a b d : Option Addr) (c1 c2 c3 : Nat), e = .returned (.agg #[.slice a m.bans.2.length c1, .slice b m.book.2.length c2, .slice d (pstL (m.parts.2.flatMap pesS)).length c3]) ∧ ReadsL baV 5 w' (.slice a m.bans.2.length c1) m.bans.2 ∧ ReadsL eyV 7 w' (.slice b m.book.2.length c2) m.book.2 ∧ ReadsL peV 10 w' (.slice d (pstL (m.parts.2.flatMap pesS)).length c3) (pstL (m.parts.2.flatMap pesS)) ∧ Below w.heap.size w w' := by
 have HCB := zh (fun (W : World) (hB : Below w.heap.size w W) => cloneBn m.bans.1 m.bans.2.length (m.bans.2.flatMap baV) W (ReadsL.below h.1 hB) (baV_onesM _) (by omega))
 have HCK := zh (fun (W : World) (hB : Below w.heap.size w W) => cloneEy m.book.1 m.book.2.length (m.book.2.flatMap eyV) W (ReadsL.below h.2.1 hB) (eyV_ones _) (by omega))
 have HJO := zh (fun (W : World) (hB : Below w.heap.size w W) => shJoin_firm m.parts.1 m.parts.2 W (h.2.2.1.below hB) hs hl)
 obtain ⟨a1, a2, a3, a4, c1, c2, c3, c4, e1, e2, e3, e4⟩ := mm_slices h
 simp only [e1, e2, e3, e4] at HCB HCK HJO ⊢
 clear e1 e2 e3 e4 h hb hk hs hl
 go_enter Tryz.func21, Tryz.ntmps21
 go_upto_region 1 with fail
 refine wpn2 fun W3 B3 hBm hBr _ => ?_
 have s2 := hBm.c2; have s3 := hBm.c3; have s4 := hBm.c4
 refine wp_region_noPanic ?_
 have hS0 : (fun wq => wq.cell? ⟨w.heap.size, 2, none⟩ = some (.slice a1 m.bans.2.length c1) ∧ wq.cell? ⟨w.heap.size, 3, none⟩ = some (.slice a2 m.book.2.length c2) ∧ wq.cell? ⟨w.heap.size, 4, none⟩ = some (.slice a3 m.parts.2.length c3)) W3.drew := ⟨s2, s3, s4⟩
 refine wp_region_headH (fun wq => wq.cell? ⟨w.heap.size, 2, none⟩ = some (.slice a1 m.bans.2.length c1) ∧ wq.cell? ⟨w.heap.size, 3, none⟩ = some (.slice a2 m.book.2.length c2) ∧ wq.cell? ⟨w.heap.size, 4, none⟩ = some (.slice a3 m.parts.2.length c3)) 10 (by kernel_rfl) (by kernel_rfl) ?_

 refine hP 0 rfl ?_
 refine hP 1 rfl ?_
 refine hP 3 rfl ?_
 refine hP 4 rfl ?_
 refine hP 6 rfl ?_
 refine hP 7 rfl ?_
 refine headH_one (i := 2) rfl rfl (by kernel_rfl) (fun K hK => ?_)
 go_simp
 go_at_call 32
 refine (HCB.out _ B3.drew).mono ?_
 rintro e w5 ⟨r5, rfl, own5, b5⟩
 obtain ⟨x5, y5, e5⟩ := owns_slice own5
 subst e5
 have B5 := below2 (w := w) B3.drew b5; have hBm5 := hBm.drew'.below b5; have hBr5 := hBr.drew'.below b5
 have HO5 : Hid (w5.ownsRow (w.heap.size + 1 + 1) 84 5 (.slice x5 m.bans.2.length y5) m.bans.2.length (m.bans.2.flatMap baV)) := owns_base own5 (by have := hBr.lt; simp only [World.size_drew]; omega)
 clear own5
 clear s2 s3 s4
 have s2 := hBm5.c2; have s3 := hBm5.c3; have s4 := hBm5.c4
 refine hK.out _ _ ?_ (fun hS5 => ?_)
 ·exact ⟨s2, s3, s4⟩
 clear hK K
 try simp only [Act.put, zs1, zs2, zs3]
 refine headH_one (i := 5) rfl rfl (by kernel_rfl) (fun K hK => ?_)
 go_simp
 go_at_call 33
 refine (HCK.out _ B5).mono ?_
 rintro e w6 ⟨r6, rfl, own6, b6⟩
 obtain ⟨x6, y6, e6⟩ := owns_slice own6
 subst e6
 have B6 := below2 (w := w) B5 b6; have hBm6 := hBm5.below b6; have hBr6 := hBr5.below b6
 have HO6 : Hid (w6.ownsRow (w.heap.size + 1 + 1) 87 7 (.slice x6 m.book.2.length y6) m.book.2.length (m.book.2.flatMap eyV)) := owns_base own6 (by have := hBr5.lt; omega)
 have HO56 := zh (owns_below HO5.out b6)
 clear own6
 clear s2 s3 s4
 have s2 := hBm6.c2; have s3 := hBm6.c3; have s4 := hBm6.c4
 refine hK.out _ _ ?_ (fun hS6 => ?_)
 ·exact ⟨s2, s3, s4⟩
 clear hK K
 try simp only [Act.put, zs1, zs2, zs3]
 refine headH_one (i := 8) rfl rfl (by kernel_rfl) (fun K hK => ?_)
 go_simp
 go_at_call 57
 refine (HJO.out _ B6).mono ?_
 rintro e w7 ⟨r7, rfl, rd7, b7⟩
 obtain ⟨_, x7, y7, e7, _⟩ := pes_open (rd7 w7 fun _ _ _ _ h => h)
 subst e7
 have B7 := below2 (w := w) B6 b7; have hBm7 := hBm6.below b7; have hBr7 := hBr6.below b7
 have h6lt := hBr6.lt
 have HO57 := zh (owns_below HO56.out b7); have HO67 := zh (owns_below HO6.out b7)
 have HR7 := zh (fun (W : World) (hW : ∀ b arr T, w.heap.size + 1 + 1 ≤ b → BlockIs w7 b arr T → BlockIs W b arr T) => rd7 W fun b arr T hb hh => hW b arr T (by omega) hh)
 clear rd7
 clear s2 s3 s4
 have s2 := hBm7.c2; have s3 := hBm7.c3; have s4 := hBm7.c4
 refine hK.out _ _ ?_ (fun hS7 => ?_)
 ·exact ⟨s2, s3, s4⟩
 clear hK K
 try simp only [Act.put, zs1, zs2, zs3]
 refine hP 9 rfl ?_
 refine headH_done (by kernel_rfl) ?_
 simp only [List.drop_succ_cons, List.drop_zero]
 go_wp2_with (refine list_store_blk rfl 31 _ _ rfl (w.heap.size + 1) _ _ 31 hBr7 rfl rfl (by kernel_rfl) rfl (by simp [Value.oneCell']) w.heap.size w B7 (by omega) ?_; intro w20 hR20 hoth20 hsz20 bw20)
 refine NoPanic.normal ?_
 go_wp2_with fail
 have hmv : ∀ b arr T, w.heap.size + 1 + 1 ≤ b → BlockIs w7 b arr T → BlockIs w20 b arr T := fun b arr T hb hh => hoth20 b arr T (by omega) hh
 obtain ⟨f0, f1, f2⟩ := hR20.e3
 exact bodyPost_ret (v := .agg #[.slice x5 m.bans.2.length y5, .slice x6 m.book.2.length y6, .slice x7 (pstL (m.parts.2.flatMap pesS)).length y7]) (by simp [results, Tryz.results21, go_sem, f0, f1, f2]) rfl ⟨x5, x6, x7, y5, y6, y7, rfl, owns_reads (owns_held HO57.out fun g arr hg hh => hmv g arr _ hg hh), owns_reads (owns_held HO67.out fun g arr hg hh => hmv g arr _ hg hh), HR7.out w20 hmv, bw20⟩
set_option maxHeartbeats 8000000 in
theorem sameState_any (v1 v2 v3 u1 u2 u3 : Value) (bl : List Ba) (kl : List Ey) (pl : List Pe) (w : World) (h1 : ReadsL baV 5 w v1 bl) (h2 : ReadsL eyV 7 w v2 kl) (h3 : ReadsL peV 10 w v3 pl) (g1 : ReadsL baV 5 w u1 bl) (g2 : ReadsL eyV 7 w u2 kl) (g3 : ReadsL peV 10 w u3 pl) :
  Calls Tryz.prog 20 #[.agg #[v1, v2, v3], .agg #[u1, u2, u3]] w fun e w' => e = .returned (.bool true) ∧ Below w.heap.size w w' := by
 have HB := zh (fun (W : World) (hB : Below w.heap.size w W) => bans_same v1 u1 bl W (ReadsL.below h1 hB) (ReadsL.below g1 hB))
 have HK := zh (fun (W : World) (hB : Below w.heap.size w W) => book_same v2 u2 kl W (ReadsL.below h2 hB) (ReadsL.below g2 hB))
 have HP := zh (fun (W : World) (hB : Below w.heap.size w W) => peers_same v3 u3 pl W (ReadsL.below h3 hB) (ReadsL.below g3 hB))
 obtain ⟨_, a1, c1, rfl, _⟩ := ba_open h1
 obtain ⟨_, a2, c2, rfl, _⟩ := ey_open h2
 obtain ⟨_, a3, c3, rfl, _⟩ := pes_open h3
 obtain ⟨_, d1, e1, rfl, _⟩ := ba_open g1
 obtain ⟨_, d2, e2, rfl, _⟩ := ey_open g2
 obtain ⟨_, d3, e3, rfl, _⟩ := pes_open g3
 clear h1 h2 h3 g1 g2 g3
 generalize bl.length = n1 at *; generalize kl.length = n2 at *; generalize pl.length = n3 at *
 go_enter Tryz.func20, Tryz.ntmps20
 go_upto_region 1 with fail
 refine wpn2 fun W3 B3 hX hY _ => ?_
 have x0 := hX.c0; have y0 := hY.c0
 go_wp2_with (first
  | (go_at_call 25; (with_reducible refine (HB.out _ B3).mono ?_); rintro e w4 ⟨rfl, b4⟩; have B4 := below2 B3 b4; have hX4 := hX.below b4; have hY4 := hY.below b4; have x1 := hX4.c1; have y1 := hY4.c1)
  | (go_at_call 26; (with_reducible refine (HK.out _ B4).mono ?_); rintro e w5 ⟨rfl, b5⟩; have B5 := below2 B4 b5; have hX5 := hX4.below b5; have hY5 := hY4.below b5; have x2 := hX5.c2; have y2 := hY5.c2)
  | (go_at_call 56; (with_reducible refine (HP.out _ B5).mono ?_); rintro e w6 ⟨rfl, b6⟩; have B6 := below2 B5 b6))
 go_ret
 exact ⟨rfl, B6⟩
theorem pl_alike {m q : Mm} (h : m.pl = q.pl) : AlikeS m.parts.2 q.parts.2 := by
 have h1 : m.parts.2.map (fun s => (s.size, s.l)) = q.parts.2.map (fun s => (s.size, s.l)) := congrArg Pm.parts h
 have hl : m.parts.2.length = q.parts.2.length := by have := congrArg List.length h1; simpa using this
 refine ⟨hl, fun i x y hx hy => ?_⟩
 have := congrArg (·[i]?) h1
 simp only [List.getElem?_map, hx, hy, Option.map_some, Option.some.injEq, Prod.mk.injEq] at this
 exact this
theorem pl_locks {m q : Mm} (h : m.pl = q.pl) : m.locks.2.length = q.locks.2.length ∧ ∀ (i : Nat) (x y : Lk), m.locks.2[i]? = some x → q.locks.2[i]? = some y → x.b = y.b ∧ x.l = y.l := by
 have h1 : m.locks.2.map (fun s => (s.b, s.l)) = q.locks.2.map (fun s => (s.b, s.l)) := congrArg Pm.locks h
 have hl : m.locks.2.length = q.locks.2.length := by have := congrArg List.length h1; simpa using this
 refine ⟨hl, fun i x y hx hy => ?_⟩
 have := congrArg (·[i]?) h1
 simp only [List.getElem?_map, hx, hy, Option.map_some, Option.some.injEq, Prod.mk.injEq] at this
 exact this
set_option maxHeartbeats 16000000 in
theorem mems_same (m q : Mm) (w : World) (hm : MmAt w m) (hq : MmAt w q) (hp : m.pl = q.pl) :
  Calls Tryz.prog 11 #[.agg #[.int .i64 m.inn, .int .i64 m.out, m.bans.1, m.book.1, m.parts.1, m.locks.1], .agg #[.int .i64 q.inn, .int .i64 q.out, q.bans.1, q.book.1, q.parts.1, q.locks.1]] w fun e w' => e = .returned (.bool true) ∧ Below w.heap.size w w' := by
 have p0 : q.inn = m.inn := (congrArg Pm.inn hp).symm
 have p1 : q.out = m.out := (congrArg Pm.out hp).symm
 have p2 : q.bans.2 = m.bans.2 := (congrArg Pm.bans hp).symm
 have p3 : q.book.2 = m.book.2 := (congrArg Pm.book hp).symm
 have hA := pl_alike hp
 obtain ⟨hLn, hLk⟩ := pl_locks hp
 have HLK := zh hLk
 have HB := zh (fun (W : World) (hB : Below w.heap.size w W) => bans_same m.bans.1 q.bans.1 m.bans.2 W (ReadsL.below hm.1 hB) (by rw [← p2]; exact ReadsL.below hq.1 hB))
 have HK := zh (fun (W : World) (hB : Below w.heap.size w W) => book_same m.book.1 q.book.1 m.book.2 W (ReadsL.below hm.2.1 hB) (by rw [← p3]; exact ReadsL.below hq.2.1 hB))
 have HS := zh (fun (W : World) (hB : Below w.heap.size w W) => parts_same m.parts.1 q.parts.1 m.parts.2 q.parts.2 W (hm.2.2.1.below hB) (hq.2.2.1.below hB) hA)
 have HR1 := zh hm.2.2.2.2
 have HR2 := zh hq.2.2.2.2
 obtain ⟨a1, a2, a3, a4, c1, c2, c3, c4, e1, e2, e3, e4⟩ := mm_slices hm
 obtain ⟨d1, d2, d3, d4, g1, g2, g3, g4, u1, u2, u3, u4⟩ := mm_slices hq
 obtain ⟨_, p, c, e6, h3⟩ := lks_open hm.2.2.2.1
 obtain ⟨_, pq, cq, e7, h4⟩ := lks_open hq.2.2.2.1
 have ex := e4.symm.trans e6
 injection ex with ea en ec
 subst ea ec
 have ey := u4.symm.trans e7
 injection ey with ea en2 ec
 subst ea ec
 have hl3 : q.parts.2.length = m.parts.2.length := hA.1.symm
 simp only [e1, e2, e3, u1, u2, u3, p2, p3, hl3] at HB HK HS
 rw [e1, e2, e3, e4, u1, u2, u3, u4, p0, p1]
 rw [p2, p3, hl3, ← hLn]
 rw [← hLn] at h4
 clear e1 e2 e3 e4 e6 e7 u1 u2 u3 u4 en en2 hm hq hp p0 p1 p2 p3 hA hLk
 generalize m.inn = x0 at *; generalize m.out = x1 at *; generalize m.bans.2.length = n1 at *; generalize m.book.2.length = n2 at *; generalize m.parts.2.length = n3 at *
 generalize m.locks.2 = L at *
 generalize q.locks.2 = L2 at *
 have HLN := zh hLn
 clear hLn hl3
 go_enter Tryz.func11, Tryz.ntmps11
 go_upto_region 1 with fail
 refine wpn2 fun W3 B3 hX hY _ => ?_
 obtain ⟨x0', x1', x2, x3, x4, x5⟩ := hX.e6; obtain ⟨y0', y1', y2, y3, y4, y5⟩ := hY.e6
 go_upto_region 3 with (first
  | (go_at_call 25; (with_reducible refine (HB.out _ B3).mono ?_); rintro e w4 ⟨rfl, b4⟩; have B4 := below2 B3 b4; have hX4 := hX.below b4; have hY4 := hY.below b4; clear x2 x3 x4 x5 y2 y3 y4 y5; have x2 := hX4.c2; have x3 := hX4.c3; have x4 := hX4.c4; have x5 := hX4.c5; have y2 := hY4.c2; have y3 := hY4.c3; have y4 := hY4.c4; have y5 := hY4.c5)
  | (go_at_call 26; (with_reducible refine (HK.out _ B4).mono ?_); rintro e w5 ⟨rfl, b5⟩; have B5 := below2 B4 b5; have hX5 := hX4.below b5; have hY5 := hY4.below b5; clear x2 x3 x4 x5 y2 y3 y4 y5; have x2 := hX5.c2; have x3 := hX5.c3; have x4 := hX5.c4; have x5 := hX5.c5; have y2 := hY5.c2; have y3 := hY5.c3; have y4 := hY5.c4; have y5 := hY5.c5)
  | (go_at_call 37; (with_reducible refine (HS.out _ B5).mono ?_); rintro e w6 ⟨rfl, b6⟩; have B6 := below2 B5 b6; have hX6 := hX5.below b6; have hY6 := hY5.below b6; clear x2 x3 x4 x5 y2 y3 y4 y5; have x2 := hX6.c2; have x3 := hX6.c3; have x4 := hX6.c4; have x5 := hX6.c5; have y2 := hY6.c2; have y3 := hY6.c3; have y4 := hY6.c4; have y5 := hY6.c5))
 obtain ⟨HX6, HY6, HB6⟩ := zh3 hX6 hY6 B6
 clear x2 x3 x4 x5 y2 y3 y4 y5 hX6 hY6 B6 hX hX4 hX5 hY hY4 hY5 B3 B4 B5 b4 b5 b6 x0' x1' y0' y1'
 go_wp2_with fail
 go_loopw [5] (fun i' wr => ∃ k : Nat, k ≤ L.length ∧ i' = .int .i64 k ∧ Hid (BlockIs wr w.heap.size [.int .i64 x0, .int .i64 x1, .slice a1 n1 c1, .slice a2 n2 c2, .slice a3 n3 c3, .slice a4 L.length c4] 40) ∧ Hid (BlockIs wr (w.heap.size + 1) [.int .i64 x0, .int .i64 x1, .slice d1 n1 g1, .slice d2 n2 g2, .slice d3 n3 g3, .slice d4 L.length g4] 40) ∧ Hid (Below w.heap.size w wr)) (fun i' _ => L.length - (intOf i').toNat)
 case atStart => exact ⟨0, by omega, rfl, HX6.out, HY6.out, HB6.out⟩
 case round =>
  clear HX6 HY6 HB6
  obtain ⟨k, hk, rfl, HX, HY, HBw⟩ := hrel
  have x5 := HX.out.c5; have y5 := HY.out.c5
  by_cases hlt : k < L.length
  ·obtain ⟨x, hx⟩ : ∃ x, L[k]? = some x := ⟨_, List.getElem?_eq_getElem hlt⟩
   obtain ⟨y, hy⟩ : ∃ y, L2[k]? = some y := ⟨_, List.getElem?_eq_getElem (by rw [← HLN.out]; exact hlt)⟩
   obtain ⟨hb, hl⟩ := HLK.out k x y hx hy
   obtain ⟨b, o, rfl, h41, h51, h61⟩ := h3 (by omega)
   obtain ⟨b2, o2, rfl, h42, h52, h62⟩ := h4 (by omega)
   obtain ⟨k0, k1⟩ := h61 k x hx
   obtain ⟨j0, j1⟩ := h62 k y hy
   have r1 := HR1.out x (List.mem_of_getElem? hx)
   have r2 := HR2.out y (List.mem_of_getElem? hy)
   rw [← hl] at r2
   have HI := zh (fun (z : Grow) => ints_sameI x.v y.v x.l (Go.Proofs.YtnplgagaoeckoaaGreat.ext wr z) (ReadsL.below r1 (below2 HBw.out (ext_below wr z))) (ReadsL.below r2 (below2 HBw.out (ext_below wr z))))
   obtain ⟨_, p1, e1, ev1, _⟩ := ins_open r1
   obtain ⟨_, p2, e2, ev2, _⟩ := ins_open r2
   rw [ev1] at k1; rw [ev2] at j1; rw [ev1, ev2] at HI
   rw [← hb] at j0
   obtain ⟨xb, hxb, xn, hxn⟩ := nz2 x.b x.l.length
   rw [← hxb] at k0 j0
   rw [← hxn] at k1 j1 HI
   have k0 := keep HBw.out h51 k0; have k1 := keep HBw.out h51 k1; have j0 := keep HBw.out h52 j0; have j1 := keep HBw.out h52 j1
   have lb := Nat.lt_of_lt_of_le h51 HBw.out.size; have lb2 := Nat.lt_of_lt_of_le h52 HBw.out.size
   have f1 := fun z => (ext_cell wr z (p := ⟨w.heap.size, 5, none⟩) HX.out.lt).trans x5
   have f2 := fun z => (ext_cell wr z (p := ⟨w.heap.size + 1, 5, none⟩) HY.out.lt).trans y5
   have f3 := fun z => (ext_cell wr z (p := ⟨b, o + k * 2, none⟩) lb).trans k0
   have f4 := fun z => (ext_cell wr z (p := ⟨b, o + k * 2 + 1, none⟩) lb).trans k1
   have f5 := fun z => (ext_cell wr z (p := ⟨b2, o2 + k * 2, none⟩) lb2).trans j0
   have f6 := fun z => (ext_cell wr z (p := ⟨b2, o2 + k * 2 + 1, none⟩) lb2).trans j1
   have q1 : (0 : Int) ≤ (k : Int) := by omega
   have q2 : (k : Int) < (L.length : Int) := by omega
   clear hx hy hb hl h61 h62 k0 k1 j0 j1 r1 r2 ev1 ev2 hxb hxn h3 h4
   go_wp2_with fail
   refine wp_region_ext (by kernel_rfl) (by kernel_rfl) ?_
   repeat (go_big_quiet_step ((first | (go_at_call 17; with_reducible exact qe (HI.out _)))))
   refine wpQuiet_nil ?_
   intro _ hw'
   obtain ⟨gx, hw''⟩ := hw'
   subst hw''
   clear f1 f2 f3 f4 f5 f6 x5 y5
   have HX9 := zh (HX.out.below (ext_below wr gx)); have HY9 := zh (HY.out.below (ext_below wr gx)); have HB9 := zh (below2 HBw.out (ext_below wr gx))
   go_wp2_with fail
   go_roundw
   case rel => exact ⟨k + 1, by omega, by go_num, HX9.out, HY9.out, HB9.out⟩
   case measure => simp [intOf]; omega
  ·obtain rfl : k = L.length := by omega
   clear h3 h4
   go_wp2_with fail
   go_ret
   exact ⟨rfl, HBw.out⟩
theorem wout_less (l : List Int) (n : Int) : decide (((woutL l n).length : Int) < (l.length : Int)) = decide (n ∈ l) := by
 refine decide_eq_decide.2 ⟨fun h => ?_, fun h => ?_⟩
 ·refine Classical.byContradiction fun hn => ?_
  have : woutL l n = l := List.filter_eq_self.2 fun x hx => by
   have : x ≠ n := fun e => hn (e ▸ hx)
   simp [this]
  rw [this] at h
  omega
 ·have : (woutL l n).length < l.length := by
   unfold woutL
   induction l with
   | nil => cases h
   | cons a r ih =>
    rw [List.filter_cons]
    have := List.length_filter_le (fun x => !decide (x = n)) r
    by_cases ha : a = n
    ·rw [if_neg (by simp [ha])]; simp only [List.length_cons]; omega
    ·rw [if_pos (by simp [ha])]
     rcases List.mem_cons.1 h with e | e
     ·exact absurd e.symm ha
     ·have := ih e; simp only [List.length_cons]; omega
  omega
theorem blk_mono {w w' : World} {B b : Nat} {arr : List Value} {T : TypeId} (h : BlockIs w b arr T) (hb : Below B w w') (hlt : b < B) : BlockIs w' b arr T := by
 unfold BlockIs at *
 rw [hb.block b hlt]; exact h
set_option maxHeartbeats 16000000 in
theorem refHeld_any (m : Mm) (who : Int) (w : World) (h : MmAt w m) (hwho : 0 ≤ who ∧ who ≤ 100) (hl : m.locks.2.length ≤ 1000) (hll : ∀ k ∈ m.locks.2, k.l.length ≤ 1000) :
  Calls Tryz.prog 19 #[.agg #[.int .i64 m.inn, .int .i64 m.out, m.bans.1, m.book.1, m.parts.1, m.locks.1], .int .i64 who] w fun e w' => ∃ a c, e = .returned (.slice a (heldP m.pl who).length c) ∧ ReadsL inV 1 w' (.slice a (heldP m.pl who).length c) ((heldP m.pl who).map fun i : Nat => (i : Int)) ∧ Below w.heap.size w w' := by
 have hpl := heldL_pl m who
 have hpn : (heldP m.pl who).length = (heldL m.locks.2 who m.locks.2.length).length := by rw [hpl, List.length_map]
 rw [← hpl, hpn]
 clear hpl hpn
 have HLK := zh h.2.2.2.2; have HLL := zh hll
 obtain ⟨a1, a2, a3, a4, c1, c2, c3, c4, e1, e2, e3, e4⟩ := mm_slices h
 obtain ⟨hm, p, c, e6, h3⟩ := lks_open h.2.2.2.1
 rw [e1, e2, e3, e6]
 rw [e4] at e6
 clear e1 e2 e3 e4 e6 h hll
 generalize m.inn = x0; generalize m.out = x1; generalize m.bans.2.length = n1; generalize m.book.2.length = n2; generalize m.parts.2.length = n3
 generalize m.locks.2 = L at *
 have hwr : IntKind.i64.wrap (who + 1) = who + 1 := by rw [IntKind.wrap_i64]; omega
 go_enter Tryz.func19, Tryz.ntmps19
 go_upto_region 1 with fail
 refine wpn1 fun W1 hB1 hX1 hs1 => ?_
 have HX2 := zh (hX1.alloc' (.cells #[] 3))
 have HB2 := zh (hB1.alloc hB1.size (.cells #[] 3))
 have HO2 := zh (own_made (w := W1) (base := w.heap.size + 1) (g := w.heap.size + 1) (e := 3) (size := 1) hs1.symm (by omega))
 clear hX1 hB1
 go_wp2_with fail
 clear hs1
 go_loopw [5, 6] (fun v' i' wr => ∃ k : Nat, k ≤ L.length ∧ i' = .int .i64 k ∧ Hid (BlockIs wr w.heap.size [.int .i64 x0, .int .i64 x1, .slice a1 n1 c1, .slice a2 n2 c2, .slice a3 n3 c3, .slice p L.length c] 40) ∧ Hid (wr.ownsRow (w.heap.size + 1) 3 1 v' (heldL L who k).length ((heldL L who k).flatMap inV)) ∧ Hid (Below w.heap.size w wr)) (fun _ i' _ => L.length - (intOf i').toNat)
 case atStart => exact ⟨0, by omega, rfl, HX2.out, HO2.out, HB2.out⟩
 case round =>
  clear HX2 HO2 HB2
  obtain ⟨k, hk, rfl, HX, HO, HB⟩ := hrel
  have x5 := HX.out.c5
  by_cases hlt : k < L.length
  ·obtain ⟨x, hx⟩ : ∃ x, L[k]? = some x := ⟨_, List.getElem?_eq_getElem hlt⟩
   obtain ⟨b, o, rfl, h4, h5, h6⟩ := h3 (by omega)
   obtain ⟨k0, k1⟩ := h6 k x hx
   have k0 := keep HB.out h5 k0; have k1 := keep HB.out h5 k1
   have q1 : (0 : Int) ≤ (k : Int) := by omega
   have q2 : (k : Int) < (L.length : Int) := by omega
   have hxl := HLK.out x (List.mem_of_getElem? hx)
   have hxm := HLL.out x (List.mem_of_getElem? hx)
   have HWO := zh (fun (W : World) (hb : Below w.heap.size w W) => refWithout_any x.v x.l who W (ReadsL.below hxl hb) (by omega))
   have hless := wout_less x.l who
   obtain ⟨_, xa, xc, ex, _⟩ := ins_open hxl
   have hS := heldL_snoc L who k x hx
   have hcl := heldL_len L who k
   have lb := Nat.lt_of_lt_of_le h5 HB.out.size
   rw [ex] at k1 HWO
   generalize hxn : x.l.length = xn at k1 HWO hless
   generalize hxb : x.b = xb at k0
   generalize hwn : (woutL x.l who).length = wn at HWO hless
   have HXB := zh hxb
   have HS := zh hS
   clear hx h6 hxl hxm ex hxn hxb hwn hS h3
   by_cases hc : xb = who + 1
   ·have HS2 : Hid (heldL L who (k + 1) = heldL L who k ++ [(k : Int)]) := by show _ = _; rw [HS.out]; unfold holdP; rw [HXB.out, decide_eq_true hc]; rfl
    have f1 : (xb == who + 1) = true := by simpa using hc
    have g1 := fun z => (ext_cell wr z (p := ⟨w.heap.size, 5, none⟩) HX.out.lt).trans x5
    have g2 := fun z => (ext_cell wr z (p := ⟨b, o + k * 2, none⟩) lb).trans k0
    clear hc hless k1
    go_wp2_with fail
    refine wp_region_ext (by kernel_rfl) (by kernel_rfl) ?_
    repeat (go_big_quiet_step (fail))
    refine wpQuiet_nil ?_
    intro _ hw'
    obtain ⟨gx, hw''⟩ := hw'
    subst hw''
    clear g1 g2 x5 k0
    have HX6 := zh (HX.out.below (ext_below wr gx)); have HO6 := zh (owns_below HO.out (ext_below wr gx)); have HB6 := zh (below2 HB.out (ext_below wr gx))
    generalize Go.Proofs.YtnplgagaoeckoaaGreat.ext wr gx = w6 at *
    go_wp2_with (at_builtin; refine list_app_reads_g inRow rfl _ _ rfl (w.heap.size + 1) _ (heldL L who k).length _ rfl (HO6.out.alloc _) _ 1 (inV (k : Int)) rfl (reads_one (us := inV (k : Int)) rfl (Nat.succ_pos 0)) (inV_one1 _) (by omega) (by omega) (by have := HX6.out.lt; simp; omega) ?_; intro v' w7 hO7 hg7)
    have hb7 : Below (w.heap.size + 1) w6 w7 := below_grown (HO6.out.alloc _) ((Below.refl _ _).alloc (by have := HX6.out.lt; omega) _) (Nat.le_refl _) (by have := HX6.out.lt; simp; omega) hg7
    have hx7 := blk_mono HX6.out hb7 (Nat.lt_succ_self _)
    have HX7 := zh hx7; have HB7 := zh (HB6.out.trans (hb7.mono (Nat.le_succ _)))
    clear hx7 hb7
    go_roundw
    case rel => exact ⟨k + 1, by omega, by go_num, HX7.out, (by rw [HS2.out, List.length_append, in_snoc]; exact hO7), HB7.out⟩
    case measure => simp [intOf]; omega
   ·have f1 : (xb == who + 1) = false := by simpa using hc
    by_cases hi : who ∈ x.l
    ·have HS2 : Hid (heldL L who (k + 1) = heldL L who k ++ [(k : Int)]) := by show _ = _; rw [HS.out]; unfold holdP; rw [decide_eq_true hi, Bool.or_true]; rfl
     rw [decide_eq_true hi] at hless
     have hless2 : (wn : Int) < (xn : Int) := of_decide_eq_true hless
     clear hc hi
     go_wp2_with fail
     refine wp_region_noPanic ?_
     have hS0 : (fun wq => wq.cell? ⟨w.heap.size, 5, none⟩ = some (.slice (some ⟨b, o, none⟩) L.length c) ∧ wq.cell? ⟨b, o + k * 2, none⟩ = some (.int .i64 xb) ∧ wq.cell? ⟨b, o + k * 2 + 1, none⟩ = some (.slice xa xn xc)) wr.drew := ⟨x5, k0, k1⟩
     refine wp_region_headH (fun wq => wq.cell? ⟨w.heap.size, 5, none⟩ = some (.slice (some ⟨b, o, none⟩) L.length c) ∧ wq.cell? ⟨b, o + k * 2, none⟩ = some (.int .i64 xb) ∧ wq.cell? ⟨b, o + k * 2 + 1, none⟩ = some (.slice xa xn xc)) 27 (by kernel_rfl) (by kernel_rfl) ?_
     refine hP 0 rfl ?_
     refine hP 1 rfl ?_
     refine hP 2 rfl ?_
     refine hP 3 rfl ?_
     refine hP 4 rfl ?_
     refine hP 5 rfl ?_
     refine hP 6 rfl ?_
     refine hP 7 rfl ?_
     refine hP 8 rfl ?_
     refine hP 9 rfl ?_
     refine hP 10 rfl ?_
     refine hP 11 rfl ?_
     refine hP 12 rfl ?_
     refine hP 13 rfl ?_
     refine hP 14 rfl ?_
     refine hP 15 rfl ?_
     refine hP 16 rfl ?_
     refine hP 19 rfl ?_
     refine hP 20 rfl ?_
     refine hP 21 rfl ?_
     refine hP 22 rfl ?_
     refine hP 23 rfl ?_
     refine hP 24 rfl ?_
     refine hP 25 rfl ?_
     refine headH_one (i := 17) rfl rfl (by kernel_rfl) (fun K hK => ?_)
     go_simp
     go_at_call 52
     refine (HWO.out _ HB.out.drew).mono ?_
     rintro e w6 ⟨ga, gc, rfl, og, b6⟩
     have B6 := below2 (w := w) HB.out.drew b6
     have hX6 : BlockIs w6 w.heap.size [.int .i64 x0, .int .i64 x1, .slice a1 n1 c1, .slice a2 n2 c2, .slice a3 n3 c3, .slice (some ⟨b, o, none⟩) L.length c] 40 := (BlockIs.drew' HX.out).below b6
     have HO6 := zh (owns_below (World.ownsRow.drew HO.out) b6)
     have HB6 := zh B6
     have HX6 := zh hX6
     have z0 := keep b6 (show b < wr.drew.heap.size from lb) k0; have z1 := keep b6 (show b < wr.drew.heap.size from lb) k1; have z5 := hX6.c5
     clear x5 k0 k1 og
     refine hK.out _ _ ⟨z5, z0, z1⟩ (fun hS7 => ?_)
     clear hK K
     try simp only [Act.put, zg1, zg2, zg3, zs1, zs2, zs3]
     refine hP 18 rfl ?_
     refine hP 26 rfl ?_
     refine headH_done (by kernel_rfl) ?_
     simp only [List.drop_succ_cons, List.drop_zero]
     go_wp2_with fail
     refine NoPanic.normal ?_
     clear z0 z1 z5 hS0 hS7 hX6 B6 b6
     go_wp2_with (at_builtin; refine list_app_reads_g inRow rfl _ _ rfl (w.heap.size + 1) _ (heldL L who k).length _ rfl (HO6.out.alloc _) _ 1 (inV (k : Int)) rfl (reads_one (us := inV (k : Int)) rfl (Nat.succ_pos 0)) (inV_one1 _) (by omega) (by omega) (by have := HX6.out.lt; simp; omega) ?_; intro v' w7 hO7 hg7)
     have hb7 : Below (w.heap.size + 1) w6 w7 := below_grown (HO6.out.alloc _) ((Below.refl _ _).alloc (by have := HX6.out.lt; omega) _) (Nat.le_refl _) (by have := HX6.out.lt; simp; omega) hg7
     have hx7 := blk_mono HX6.out hb7 (Nat.lt_succ_self _)
     have HX7 := zh hx7; have HB7 := zh (HB6.out.trans (hb7.mono (Nat.le_succ _)))
     clear hx7 hb7
     go_roundw
     case rel => exact ⟨k + 1, by omega, by go_num, HX7.out, (by rw [HS2.out, List.length_append, in_snoc]; exact hO7), HB7.out⟩
     case measure => simp [intOf]; omega
    ·have HS2 : Hid (heldL L who (k + 1) = heldL L who k) := by show _ = _; rw [HS.out]; unfold holdP; rw [decide_eq_false hi, HXB.out, decide_eq_false hc]; simp
     rw [decide_eq_false hi] at hless
     have hless2 : ¬ (wn : Int) < (xn : Int) := of_decide_eq_false hless
     clear hc hi
     go_wp2_with fail
     refine wp_region_noPanic ?_
     have hS0 : (fun wq => wq.cell? ⟨w.heap.size, 5, none⟩ = some (.slice (some ⟨b, o, none⟩) L.length c) ∧ wq.cell? ⟨b, o + k * 2, none⟩ = some (.int .i64 xb) ∧ wq.cell? ⟨b, o + k * 2 + 1, none⟩ = some (.slice xa xn xc)) wr.drew := ⟨x5, k0, k1⟩
     refine wp_region_headH (fun wq => wq.cell? ⟨w.heap.size, 5, none⟩ = some (.slice (some ⟨b, o, none⟩) L.length c) ∧ wq.cell? ⟨b, o + k * 2, none⟩ = some (.int .i64 xb) ∧ wq.cell? ⟨b, o + k * 2 + 1, none⟩ = some (.slice xa xn xc)) 27 (by kernel_rfl) (by kernel_rfl) ?_
     refine hP 0 rfl ?_
     refine hP 1 rfl ?_
     refine hP 2 rfl ?_
     refine hP 3 rfl ?_
     refine hP 4 rfl ?_
     refine hP 5 rfl ?_
     refine hP 6 rfl ?_
     refine hP 7 rfl ?_
     refine hP 8 rfl ?_
     refine hP 9 rfl ?_
     refine hP 10 rfl ?_
     refine hP 11 rfl ?_
     refine hP 12 rfl ?_
     refine hP 13 rfl ?_
     refine hP 14 rfl ?_
     refine hP 15 rfl ?_
     refine hP 16 rfl ?_
     refine hP 19 rfl ?_
     refine hP 20 rfl ?_
     refine hP 21 rfl ?_
     refine hP 22 rfl ?_
     refine hP 23 rfl ?_
     refine hP 24 rfl ?_
     refine hP 25 rfl ?_
     refine headH_one (i := 17) rfl rfl (by kernel_rfl) (fun K hK => ?_)
     go_simp
     go_at_call 52
     refine (HWO.out _ HB.out.drew).mono ?_
     rintro e w6 ⟨ga, gc, rfl, og, b6⟩
     have B6 := below2 (w := w) HB.out.drew b6
     have hX6 : BlockIs w6 w.heap.size [.int .i64 x0, .int .i64 x1, .slice a1 n1 c1, .slice a2 n2 c2, .slice a3 n3 c3, .slice (some ⟨b, o, none⟩) L.length c] 40 := (BlockIs.drew' HX.out).below b6
     have HO6 := zh (owns_below (World.ownsRow.drew HO.out) b6)
     have HB6 := zh B6
     have HX6 := zh hX6
     have z0 := keep b6 (show b < wr.drew.heap.size from lb) k0; have z1 := keep b6 (show b < wr.drew.heap.size from lb) k1; have z5 := hX6.c5
     clear x5 k0 k1 og
     refine hK.out _ _ ⟨z5, z0, z1⟩ (fun hS7 => ?_)
     clear hK K
     try simp only [Act.put, zg1, zg2, zg3, zs1, zs2, zs3]
     refine hP 18 rfl ?_
     refine hP 26 rfl ?_
     refine headH_done (by kernel_rfl) ?_
     simp only [List.drop_succ_cons, List.drop_zero]
     go_wp2_with fail
     refine NoPanic.normal ?_
     clear z0 z1 z5 hS0 hS7 hX6 B6 b6
     go_wp2_with fail
     go_roundw
     case rel => exact ⟨k + 1, by omega, by go_num, HX6.out, (by rw [HS2.out]; exact HO6.out), HB6.out⟩
     case measure => simp [intOf]; omega
  ·obtain rfl : k = L.length := by omega
   obtain ⟨a9, c9, e9⟩ := owns_slice HO.out
   subst e9
   have HR : Hid (ReadsL inV 1 wr (.slice a9 (heldL L who L.length).length c9) (heldL L who L.length)) := owns_readsL HO.out
   clear h3
   go_wp2_with fail
   go_ret
   exact ⟨_, _, rfl, HR.out, HB.out⟩
end Go.Proofs.YtnplgagaoeckoaaGreat
namespace Go.Proofs.YtnplgagaoeckoaaGreat
open Go.RowKit
set_option maxHeartbeats 32000000 in
theorem refNew_any (c : Cf) (hs : c.secret < 18446744073709551616) (vb vk vp : Value) (bl : List Ba) (kl : List Ey) (pl : List Pe) (w : World) (hb : ReadsL baV 5 w vb bl) (hk : ReadsL eyV 7 w vk kl) (hp : ReadsL peV 10 w vp pl) (hf : ∀ p ∈ pl, p.en.ad.fits) (hbn : bl.length ≤ 1000) (hkn : kl.length ≤ 1000) (hpn : pl.length ≤ 1000000) :
  Calls Tryz.prog 10 #[.agg #[.int .i64 c.mi, .int .i64 c.mo, .int .i64 c.sh, .int .i64 c.mb, .int .i64 c.mbk, .int .u64 c.secret, .int .i64 c.qg, .int .i64 c.qp, .int .i64 c.qw, .int .i64 c.qt, .int .i64 c.half, .int .i64 c.limit, .int .i64 c.banfor, .int .i64 c.base, .int .i64 c.cap, .int .i64 c.jitter], .agg #[vb, vk, vp]] w fun e w' => ∃ m : Mm, e = .returned (.agg #[.int .i64 m.inn, .int .i64 m.out, m.bans.1, m.book.1, m.parts.1, m.locks.1]) ∧ (∀ W, ReadsL baV 5 W vb bl → ReadsL eyV 7 W vk kl → (∀ b arr T, w.heap.size ≤ b → BlockIs w' b arr T → BlockIs W b arr T) → MmAt W m) ∧ m.pl = newP c.secret c.sh bl kl pl ∧ Below w.heap.size w w' := by
 have HSP := zh (fun (W : World) (hB : Below w.heap.size w W) => refShSplit_firm vp pl c.secret hs c.sh W (ReadsL.below hp hB) hf hpn)
 have HCT := zh (fun (W : World) (hB : Below w.heap.size w W) => refTcount_true vp pl W (ReadsL.below hp hB))
 have HCF := zh (fun (W : World) (hB : Below w.heap.size w W) => refTcount_false vp pl W (ReadsL.below hp hB))
 have HCE := zh (fun (W : World) (hB : Below w.heap.size w W) => refBookCount_any vk kl 2 W (ReadsL.below hk hB))
 obtain ⟨_, a1, c1, e1, _⟩ := ba_open hb
 obtain ⟨_, a2, c2, e2, _⟩ := ey_open hk
 obtain ⟨_, a3, c3, e3, _⟩ := pes_open hp
 subst e1 e2 e3
 have hmi := partsN_in c.sh
 have hml : ∀ W, (Instr.makeSlice 38 (.int .i64 ((partsN c.sh : Int) + 2)) (.int .i64 ((partsN c.sh : Int) + 2))).run Tryz.prog W = .ok (.slice (some ⟨W.heap.size, 0, none⟩) (partsN c.sh + 2) (partsN c.sh + 2)) (W.alloc (.cells ((List.replicate (partsN c.sh + 2) zLk).flatMap lkV).toArray 90)) := fun W => by
  have := run_make_lk (partsN c.sh + 2) (by omega) W
  rwa [show ((partsN c.sh + 2 : Nat) : Int) = (partsN c.sh : Int) + 2 by omega] at this
 obtain ⟨M, hM⟩ : ∃ M, M = partsN c.sh := ⟨_, rfl⟩
 have hcw : IntKind.i64.wrap ((cntL false pl : Int) + (cntE 2 kl : Int)) = (cntL false pl : Int) + (cntE 2 kl : Int) := by
  have h1 := cntL_le false pl; have h2 := cntE_le 2 kl
  rw [IntKind.wrap_i64]; omega
 obtain ⟨n1, hn1, n2, hn2, n3, hn3⟩ := nz3 bl.length kl.length pl.length
 simp only [← hn1, ← hn2, ← hn3] at HSP HCT HCF HCE ⊢
 rw [← hM] at hml hmi
 have hlen : IntKind.i64.wrap ((M : Int) + 2) = (M : Int) + 2 := by rw [IntKind.wrap_i64]; omega
 obtain ⟨HN1, HN2, HN3, HMM⟩ := zh4 hn1 hn2 hn3 hM
 clear hn1 hn2 hn3 hM hb hk hp hf hbn hkn hpn hs
 go_enter Tryz.func10, Tryz.ntmps10
 go_upto_region 1 with fail
 refine wpn3 fun w3 B3 hBc3 hBs3 hBr3 _ => ?_
 obtain ⟨s0, s1, s2⟩ := hBs3.e3
 refine wp_region_noPanic ?_
 have hS0 : (fun wq => wq.cell? ⟨w.heap.size + 1, 0, none⟩ = some (.slice a1 n1 c1) ∧ wq.cell? ⟨w.heap.size + 1, 1, none⟩ = some (.slice a2 n2 c2) ∧ wq.cell? ⟨w.heap.size + 1, 2, none⟩ = some (.slice a3 n3 c3)) w3.drew := ⟨s0, s1, s2⟩
 refine wp_region_headH (fun wq => wq.cell? ⟨w.heap.size + 1, 0, none⟩ = some (.slice a1 n1 c1) ∧ wq.cell? ⟨w.heap.size + 1, 1, none⟩ = some (.slice a2 n2 c2) ∧ wq.cell? ⟨w.heap.size + 1, 2, none⟩ = some (.slice a3 n3 c3)) 16 (by kernel_rfl) (by kernel_rfl) ?_
 have B4 : Below w.heap.size w w3.drew := B3.drew
 have hBc4 : BlockIs w3.drew w.heap.size [.int .i64 c.mi, .int .i64 c.mo, .int .i64 c.sh, .int .i64 c.mb, .int .i64 c.mbk, .int .u64 c.secret, .int .i64 c.qg, .int .i64 c.qp, .int .i64 c.qw, .int .i64 c.qt, .int .i64 c.half, .int .i64 c.limit, .int .i64 c.banfor, .int .i64 c.base, .int .i64 c.cap, .int .i64 c.jitter] 26 := BlockIs.drew' hBc3
 have hBs4 : BlockIs w3.drew (w.heap.size + 1) [.slice a1 n1 c1, .slice a2 n2 c2, .slice a3 n3 c3] 31 := BlockIs.drew' hBs3
 have hBr4 : BlockIs w3.drew (w.heap.size + 1 + 1) [.int .i64 0, .int .i64 0, .slice none 0 0, .slice none 0 0, .slice none 0 0, .slice none 0 0] 40 := BlockIs.drew' hBr3
 clear B3 hBc3 hBs3 hBr3 s0 s1 s2
 obtain ⟨s0, s1, s2⟩ := hBs4.e3
 generalize w3.drew = w4 at *
 refine hP 0 rfl ?_
 refine hP 1 rfl ?_
 refine hP 3 rfl ?_
 refine hP 4 rfl ?_
 refine hP 6 rfl ?_
 refine hP 7 rfl ?_
 refine hP 10 rfl ?_
 refine hP 11 rfl ?_
 refine hP 12 rfl ?_
 refine hP 13 rfl ?_
 refine headH_two (i := 2) (j := 15) rfl rfl rfl rfl (by kernel_rfl) (fun K hK => ?_) (fun K hK => ?_)
 go_simp
 go_at_call 34
 refine (HCT.out _ B4).mono ?_
 rintro e w5 ⟨rfl, b5⟩
 have B5 := below2 (w := w) B4 b5
 have hBs5 := hBs4.below b5; have hBr5 := hBr4.below b5; have hBc5 := hBc4.below b5
 have z5 := b5.size
 clear s0 s1 s2
 obtain ⟨s0, s1, s2⟩ := hBs5.e3
 refine hK.out _ _ ?_ (fun hS5 => ?_)
 ·try dsimp only
  (repeat' apply And.intro) <;> assumption
 clear hK K
 try simp only [Act.put, zg1, zg2, zg3, zs1, zs2, zs3]
 refine headH_two (i := 5) (j := 15) rfl rfl rfl rfl (by kernel_rfl) (fun K hK => ?_) (fun K hK => ?_)
 go_simp
 go_at_call 34
 refine (HCF.out _ B5).mono ?_
 rintro e w6 ⟨rfl, b6⟩
 have B6 := below2 (w := w) B5 b6
 have hBs6 := hBs5.below b6; have hBr6 := hBr5.below b6; have hBc6 := hBc5.below b6
 have z6 := b6.size
 clear s0 s1 s2
 obtain ⟨s0, s1, s2⟩ := hBs6.e3
 refine hK.out _ _ ?_ (fun hS6 => ?_)
 ·try dsimp only
  (repeat' apply And.intro) <;> assumption
 clear hK K
 try simp only [Act.put, zg1, zg2, zg3, zs1, zs2, zs3]
 refine headH_two (i := 8) (j := 15) rfl rfl rfl rfl (by kernel_rfl) (fun K hK => ?_) (fun K hK => ?_)
 go_simp
 go_at_call 35
 refine (HCE.out _ B6).mono ?_
 rintro e w7 ⟨rfl, b7⟩
 have B7 := below2 (w := w) B6 b7
 have hBs7 := hBs6.below b7; have hBr7 := hBr6.below b7; have hBc7 := hBc6.below b7
 have z7 := b7.size
 clear s0 s1 s2
 obtain ⟨s0, s1, s2⟩ := hBs7.e3
 refine hK.out _ _ ?_ (fun hS7 => ?_)
 ·try dsimp only
  (repeat' apply And.intro) <;> assumption
 clear hK K
 try simp only [Act.put, zg1, zg2, zg3, zs1, zs2, zs3]
 refine hP 9 rfl ?_
 refine hP 14 rfl ?_
 refine headH_one (i := 15) rfl rfl (by kernel_rfl) (fun K hK => ?_)
 go_simp
 refine named_world (K := K) fun w8 hw8 => ?_
 obtain ⟨G8, hG8⟩ : ∃ G, G = w7.heap.size := ⟨_, rfl⟩
 rw [← hG8]
 have b8 : Below w7.heap.size w7 w8 := by subst hw8; exact (Below.refl _ _).alloc (Nat.le_refl _) _
 have hBl8 : BlockIs w8 G8 [.int .i64 0, .int .i64 0, .slice none 0 0, .slice none 0 0, .slice none 0 0, .slice none 0 0] 40 := by subst hw8 hG8; exact BlockIs.new w7 _ _
 have gL8 : w.heap.size + 1 + 1 + 1 ≤ G8 := by have := B7.size; have := hBr7.lt; omega
 clear hw8 hG8
 have B8 := below2 (w := w) B7 b8
 have hBs8 := hBs7.below b8; have hBr8 := hBr7.below b8; have hBc8 := hBc7.below b8
 have z8 := b8.size
 clear s0 s1 s2
 obtain ⟨s0, s1, s2⟩ := hBs8.e3
 refine hK.out _ _ ?_ (fun hS8 => ?_)
 ·try dsimp only
  (repeat' apply And.intro) <;> assumption
 clear hK K
 try simp only [Act.put, zg1, zg2, zg3, zs1, zs2, zs3]
 refine headH_done (by kernel_rfl) ?_
 simp only [List.drop_succ_cons, List.drop_zero]
 go_wp2_with (refine list_store_blk rfl 40 _ _ rfl G8 _ _ 40 hBl8 rfl rfl (by kernel_rfl) rfl (by simp [Value.oneCell']) w.heap.size w B8 (by omega) ?_; intro w20 hG20 hoth20 hsz20 bw20)
 refine NoPanic.normal ?_
 have hBc20 := hoth20 _ _ _ (by omega) hBc8; have hBs20 := hoth20 _ _ _ (by omega) hBs8; have hBr20 := hoth20 _ _ _ (by omega) hBr8
 have lG : G8 < w20.heap.size := hG20.lt
 clear s0 s1 s2
 have s2 := hBs20.c2; have k2 := hBc20.c2; have k5 := hBc20.c5; have lf := hG20.frozen
 obtain ⟨l0, l1, l2, l3, l4, l5⟩ := hG20.e6
 go_upto_region 3 with (go_at_call 36; (with_reducible refine (HSP.out _ bw20).mono ?_); rintro e w30 ⟨r30, ss, rfl, hS30, hPO, b30⟩; obtain ⟨_, a4, c4, e4, _⟩ := shs_open (hS30 w30 fun _ _ _ _ h => h).1; have hMs : M = ss.length := (by rw [hPO.1]; exact HMM.out); rw [← hMs] at e4; subst e4; obtain ⟨HS30, HPO⟩ := zh2 hS30 hPO; have hG30 := hG20.below b30; have hBr30 := hBr20.below b30; have B30 := below2 bw20 b30; have z30 := b30.size; clear l0 l1 l2 l3 l4 l5 lf s2 k2 k5 hS30 hPO hMs; obtain ⟨l0, l1, l2, l3, l4, l5⟩ := hG30.e6; have lf := hG30.frozen)
 obtain ⟨W31, hW31⟩ : ∃ W31, W31 = w30.setCell ⟨G8, 4, none⟩ (.slice a4 M c4) := ⟨_, rfl⟩
 try rw [← hW31]
 have B31 : Below w.heap.size w W31 := by subst hW31; exact B30.setCell (by show _ ≤ G8; omega) _
 have hG31 : BlockIs W31 G8 [.int .i64 (cntL true pl), .int .i64 ((cntL false pl : Int) + (cntE 2 kl : Int)), .slice a1 n1 c1, .slice a2 n2 c2, .slice a4 M c4, .slice none 0 0] 40 := by subst hW31; exact hG30.set 4 _
 have hBr31 : BlockIs W31 (w.heap.size + 1 + 1) [.int .i64 0, .int .i64 0, .slice none 0 0, .slice none 0 0, .slice none 0 0, .slice none 0 0] 40 := by subst hW31; exact hBr30.other (by simp; omega) _
 have hs31 : W31.heap.size = w30.heap.size := by subst hW31; exact World.size_setCell _ _ _
 have HKE : Hid (∀ k arr u, w20.heap.size ≤ k → BlockIs w30 k arr u → BlockIs W31 k arr u) := by
  subst hW31
  unfold Hid
  intro k arr u hk hb
  exact hb.other (by simp; omega) _
 have HS31 := zh hs31
 clear hW31 l0 l1 l2 l3 l4 l5 lf hs31
 obtain ⟨l0, l1, l2, l3, l4, l5⟩ := hG31.e6; have lf := hG31.frozen; have lg := hG31.lt
 obtain ⟨t0, t1, t2, t3, t4, t5⟩ := hBr31.e6; have tf := hBr31.frozen; have tl := hBr31.lt
 go_upto_region 4 with fail
 obtain ⟨W40, hW40⟩ : ∃ W40, W40 = (W31.setCell ⟨G8, 5, none⟩ (.slice (some ⟨W31.heap.size, 0, none⟩) (M + 2) (M + 2))).alloc (.cells ((List.replicate (M + 2) zLk).flatMap lkV).toArray 90) := ⟨_, rfl⟩
 try rw [← hW40]
 obtain ⟨LB, hLB⟩ : ∃ LB, LB = W31.heap.size := ⟨_, rfl⟩
 have B40 : Below w.heap.size w W40 := by subst hW40; exact (B31.setCell (by show _ ≤ G8; omega) _).alloc (by simp; exact B31.size) _
 have hG40 : BlockIs W40 G8 [.int .i64 (cntL true pl), .int .i64 ((cntL false pl : Int) + (cntE 2 kl : Int)), .slice a1 n1 c1, .slice a2 n2 c2, .slice a4 M c4, .slice (some ⟨LB, 0, none⟩) (M + 2) (M + 2)] 40 := by subst hW40 hLB; exact (hG31.set 5 _).alloc' _
 have hBr40 : BlockIs W40 (w.heap.size + 1 + 1) [.int .i64 0, .int .i64 0, .slice none 0 0, .slice none 0 0, .slice none 0 0, .slice none 0 0] 40 := by subst hW40; exact (hBr31.other (by simp; omega) _).alloc' _
 have hL40 : BlockIs W40 LB ((List.replicate (M + 2) zLk).flatMap lkV) 90 := by subst hW40 hLB; exact BlockIs.newAt' _ _ _ (by simp)
 have HKE2 : Hid (∀ k arr u, w20.heap.size ≤ k → BlockIs w30 k arr u → BlockIs W40 k arr u) := by
  subst hW40
  unfold Hid
  intro k arr u hk hb
  exact ((HKE.out k arr u hk hb).other (by simp; omega) _).alloc' _
 have hLw : w.heap.size ≤ LB := by have := B31.size; omega
 have hLr : w.heap.size + 1 + 1 < LB := by have := hBr31.lt; omega
 rw [← hLB]
 clear hW40 hLB l0 l1 l2 l3 l4 l5 lf lg t0 t1 t2 t3 t4 t5 tf tl
 obtain ⟨l0, l1, l2, l3, l4, l5⟩ := hG40.e6
 go_wp2_with (refine list_store_blk rfl 40 _ _ rfl (w.heap.size + 1 + 1) _ _ 40 hBr40 rfl rfl (by kernel_rfl) rfl (by simp [Value.oneCell']) w.heap.size w B40 (by omega) ?_; intro w50 hR50 hoth50 hsz50 bw50)
 obtain ⟨e0, e1, e2, e3, e4, e5⟩ := hR50.e6
 have hL50 := hoth50 _ _ _ (by omega) hL40
 exact bodyPost_ret (v := .agg #[.int .i64 (cntL true pl), .int .i64 ((cntL false pl : Int) + (cntE 2 kl : Int)), .slice a1 n1 c1, .slice a2 n2 c2, .slice a4 M c4, .slice (some ⟨LB, 0, none⟩) (M + 2) (M + 2)]) (by simp [results, Tryz.results10, go_sem, e0, e1, e2, e3, e4, e5]) rfl
  ⟨⟨cntL true pl, (cntL false pl : Int) + (cntE 2 kl : Int), (.slice a1 n1 c1, bl), (.slice a2 n2 c2, kl), (.slice a4 M c4, ss), (.slice (some ⟨LB, 0, none⟩) (M + 2) (M + 2), List.replicate (M + 2) zLk)⟩, rfl,
   fun W h1 h2 hkp => ⟨h1, h2, HS30.out W fun b arr T hb hh => hkp b arr T (by omega) (hoth50 b arr T (by omega) (HKE2.out b arr T hb hh)), lks_made (hkp LB _ _ hLw hL50) (by omega) (by omega)⟩,
   (by unfold newP Mm.pl; rw [← HMM.out]; simp only [parts_pl HPO.out, List.map_replicate]; rw [← HMM.out]; rfl), bw50⟩
 go_simp
 refine named_world (K := K) fun w7 hw7 => ?_
 obtain ⟨G7, hG7⟩ : ∃ G, G = w6.heap.size := ⟨_, rfl⟩
 rw [← hG7]
 have b7 : Below w6.heap.size w6 w7 := by subst hw7; exact (Below.refl _ _).alloc (Nat.le_refl _) _
 have hBl7 : BlockIs w7 G7 [.int .i64 0, .int .i64 0, .slice none 0 0, .slice none 0 0, .slice none 0 0, .slice none 0 0] 40 := by subst hw7 hG7; exact BlockIs.new w6 _ _
 have gL7 : w.heap.size + 1 + 1 + 1 ≤ G7 := by have := B6.size; have := hBr6.lt; omega
 clear hw7 hG7
 have B7 := below2 (w := w) B6 b7
 have hBs7 := hBs6.below b7; have hBr7 := hBr6.below b7; have hBc7 := hBc6.below b7
 have z7 := b7.size
 clear s0 s1 s2
 obtain ⟨s0, s1, s2⟩ := hBs7.e3
 refine hK.out _ _ ?_ (fun hS7 => ?_)
 ·try dsimp only
  (repeat' apply And.intro) <;> assumption
 clear hK K
 try simp only [Act.put, zg1, zg2, zg3, zs1, zs2, zs3]
 refine headH_one (i := 8) rfl rfl (by kernel_rfl) (fun K hK => ?_)
 go_simp
 go_at_call 35
 refine (HCE.out _ B7).mono ?_
 rintro e w8 ⟨rfl, b8⟩
 have B8 := below2 (w := w) B7 b8
 have hBs8 := hBs7.below b8; have hBr8 := hBr7.below b8; have hBc8 := hBc7.below b8
 have z8 := b8.size
 have hBl8 := hBl7.below b8
 clear s0 s1 s2
 obtain ⟨s0, s1, s2⟩ := hBs8.e3
 refine hK.out _ _ ?_ (fun hS8 => ?_)
 ·try dsimp only
  (repeat' apply And.intro) <;> assumption
 clear hK K
 try simp only [Act.put, zg1, zg2, zg3, zs1, zs2, zs3]
 refine hP 9 rfl ?_
 refine hP 14 rfl ?_
 refine headH_done (by kernel_rfl) ?_
 simp only [List.drop_succ_cons, List.drop_zero]
 go_wp2_with (refine list_store_blk rfl 40 _ _ rfl G7 _ _ 40 hBl8 rfl rfl (by kernel_rfl) rfl (by simp [Value.oneCell']) w.heap.size w B8 (by omega) ?_; intro w20 hG20 hoth20 hsz20 bw20)
 refine NoPanic.normal ?_
 have hBc20 := hoth20 _ _ _ (by omega) hBc8; have hBs20 := hoth20 _ _ _ (by omega) hBs8; have hBr20 := hoth20 _ _ _ (by omega) hBr8
 have lG : G7 < w20.heap.size := hG20.lt
 clear s0 s1 s2
 have s2 := hBs20.c2; have k2 := hBc20.c2; have k5 := hBc20.c5; have lf := hG20.frozen
 obtain ⟨l0, l1, l2, l3, l4, l5⟩ := hG20.e6
 go_upto_region 3 with (go_at_call 36; (with_reducible refine (HSP.out _ bw20).mono ?_); rintro e w30 ⟨r30, ss, rfl, hS30, hPO, b30⟩; obtain ⟨_, a4, c4, e4, _⟩ := shs_open (hS30 w30 fun _ _ _ _ h => h).1; have hMs : M = ss.length := (by rw [hPO.1]; exact HMM.out); rw [← hMs] at e4; subst e4; obtain ⟨HS30, HPO⟩ := zh2 hS30 hPO; have hG30 := hG20.below b30; have hBr30 := hBr20.below b30; have B30 := below2 bw20 b30; have z30 := b30.size; clear l0 l1 l2 l3 l4 l5 lf s2 k2 k5 hS30 hPO hMs; obtain ⟨l0, l1, l2, l3, l4, l5⟩ := hG30.e6; have lf := hG30.frozen)
 obtain ⟨W31, hW31⟩ : ∃ W31, W31 = w30.setCell ⟨G7, 4, none⟩ (.slice a4 M c4) := ⟨_, rfl⟩
 try rw [← hW31]
 have B31 : Below w.heap.size w W31 := by subst hW31; exact B30.setCell (by show _ ≤ G7; omega) _
 have hG31 : BlockIs W31 G7 [.int .i64 (cntL true pl), .int .i64 ((cntL false pl : Int) + (cntE 2 kl : Int)), .slice a1 n1 c1, .slice a2 n2 c2, .slice a4 M c4, .slice none 0 0] 40 := by subst hW31; exact hG30.set 4 _
 have hBr31 : BlockIs W31 (w.heap.size + 1 + 1) [.int .i64 0, .int .i64 0, .slice none 0 0, .slice none 0 0, .slice none 0 0, .slice none 0 0] 40 := by subst hW31; exact hBr30.other (by simp; omega) _
 have hs31 : W31.heap.size = w30.heap.size := by subst hW31; exact World.size_setCell _ _ _
 have HKE : Hid (∀ k arr u, w20.heap.size ≤ k → BlockIs w30 k arr u → BlockIs W31 k arr u) := by
  subst hW31
  unfold Hid
  intro k arr u hk hb
  exact hb.other (by simp; omega) _
 have HS31 := zh hs31
 clear hW31 l0 l1 l2 l3 l4 l5 lf hs31
 obtain ⟨l0, l1, l2, l3, l4, l5⟩ := hG31.e6; have lf := hG31.frozen; have lg := hG31.lt
 obtain ⟨t0, t1, t2, t3, t4, t5⟩ := hBr31.e6; have tf := hBr31.frozen; have tl := hBr31.lt
 go_upto_region 4 with fail
 obtain ⟨W40, hW40⟩ : ∃ W40, W40 = (W31.setCell ⟨G7, 5, none⟩ (.slice (some ⟨W31.heap.size, 0, none⟩) (M + 2) (M + 2))).alloc (.cells ((List.replicate (M + 2) zLk).flatMap lkV).toArray 90) := ⟨_, rfl⟩
 try rw [← hW40]
 obtain ⟨LB, hLB⟩ : ∃ LB, LB = W31.heap.size := ⟨_, rfl⟩
 have B40 : Below w.heap.size w W40 := by subst hW40; exact (B31.setCell (by show _ ≤ G7; omega) _).alloc (by simp; exact B31.size) _
 have hG40 : BlockIs W40 G7 [.int .i64 (cntL true pl), .int .i64 ((cntL false pl : Int) + (cntE 2 kl : Int)), .slice a1 n1 c1, .slice a2 n2 c2, .slice a4 M c4, .slice (some ⟨LB, 0, none⟩) (M + 2) (M + 2)] 40 := by subst hW40 hLB; exact (hG31.set 5 _).alloc' _
 have hBr40 : BlockIs W40 (w.heap.size + 1 + 1) [.int .i64 0, .int .i64 0, .slice none 0 0, .slice none 0 0, .slice none 0 0, .slice none 0 0] 40 := by subst hW40; exact (hBr31.other (by simp; omega) _).alloc' _
 have hL40 : BlockIs W40 LB ((List.replicate (M + 2) zLk).flatMap lkV) 90 := by subst hW40 hLB; exact BlockIs.newAt' _ _ _ (by simp)
 have HKE2 : Hid (∀ k arr u, w20.heap.size ≤ k → BlockIs w30 k arr u → BlockIs W40 k arr u) := by
  subst hW40
  unfold Hid
  intro k arr u hk hb
  exact ((HKE.out k arr u hk hb).other (by simp; omega) _).alloc' _
 have hLw : w.heap.size ≤ LB := by have := B31.size; omega
 have hLr : w.heap.size + 1 + 1 < LB := by have := hBr31.lt; omega
 rw [← hLB]
 clear hW40 hLB l0 l1 l2 l3 l4 l5 lf lg t0 t1 t2 t3 t4 t5 tf tl
 obtain ⟨l0, l1, l2, l3, l4, l5⟩ := hG40.e6
 go_wp2_with (refine list_store_blk rfl 40 _ _ rfl (w.heap.size + 1 + 1) _ _ 40 hBr40 rfl rfl (by kernel_rfl) rfl (by simp [Value.oneCell']) w.heap.size w B40 (by omega) ?_; intro w50 hR50 hoth50 hsz50 bw50)
 obtain ⟨e0, e1, e2, e3, e4, e5⟩ := hR50.e6
 have hL50 := hoth50 _ _ _ (by omega) hL40
 exact bodyPost_ret (v := .agg #[.int .i64 (cntL true pl), .int .i64 ((cntL false pl : Int) + (cntE 2 kl : Int)), .slice a1 n1 c1, .slice a2 n2 c2, .slice a4 M c4, .slice (some ⟨LB, 0, none⟩) (M + 2) (M + 2)]) (by simp [results, Tryz.results10, go_sem, e0, e1, e2, e3, e4, e5]) rfl
  ⟨⟨cntL true pl, (cntL false pl : Int) + (cntE 2 kl : Int), (.slice a1 n1 c1, bl), (.slice a2 n2 c2, kl), (.slice a4 M c4, ss), (.slice (some ⟨LB, 0, none⟩) (M + 2) (M + 2), List.replicate (M + 2) zLk)⟩, rfl,
   fun W h1 h2 hkp => ⟨h1, h2, HS30.out W fun b arr T hb hh => hkp b arr T (by omega) (hoth50 b arr T (by omega) (HKE2.out b arr T hb hh)), lks_made (hkp LB _ _ hLw hL50) (by omega) (by omega)⟩,
   (by unfold newP Mm.pl; rw [← HMM.out]; simp only [parts_pl HPO.out, List.map_replicate]; rw [← HMM.out]; rfl), bw50⟩
 go_simp
 refine named_world (K := K) fun w6 hw6 => ?_
 obtain ⟨G6, hG6⟩ : ∃ G, G = w5.heap.size := ⟨_, rfl⟩
 rw [← hG6]
 have b6 : Below w5.heap.size w5 w6 := by subst hw6; exact (Below.refl _ _).alloc (Nat.le_refl _) _
 have hBl6 : BlockIs w6 G6 [.int .i64 0, .int .i64 0, .slice none 0 0, .slice none 0 0, .slice none 0 0, .slice none 0 0] 40 := by subst hw6 hG6; exact BlockIs.new w5 _ _
 have gL6 : w.heap.size + 1 + 1 + 1 ≤ G6 := by have := B5.size; have := hBr5.lt; omega
 clear hw6 hG6
 have B6 := below2 (w := w) B5 b6
 have hBs6 := hBs5.below b6; have hBr6 := hBr5.below b6; have hBc6 := hBc5.below b6
 have z6 := b6.size
 clear s0 s1 s2
 obtain ⟨s0, s1, s2⟩ := hBs6.e3
 refine hK.out _ _ ?_ (fun hS6 => ?_)
 ·try dsimp only
  (repeat' apply And.intro) <;> assumption
 clear hK K
 try simp only [Act.put, zg1, zg2, zg3, zs1, zs2, zs3]
 refine headH_one (i := 5) rfl rfl (by kernel_rfl) (fun K hK => ?_)
 go_simp
 go_at_call 34
 refine (HCF.out _ B6).mono ?_
 rintro e w7 ⟨rfl, b7⟩
 have B7 := below2 (w := w) B6 b7
 have hBs7 := hBs6.below b7; have hBr7 := hBr6.below b7; have hBc7 := hBc6.below b7
 have z7 := b7.size
 have hBl7 := hBl6.below b7
 clear s0 s1 s2
 obtain ⟨s0, s1, s2⟩ := hBs7.e3
 refine hK.out _ _ ?_ (fun hS7 => ?_)
 ·try dsimp only
  (repeat' apply And.intro) <;> assumption
 clear hK K
 try simp only [Act.put, zg1, zg2, zg3, zs1, zs2, zs3]
 refine headH_one (i := 8) rfl rfl (by kernel_rfl) (fun K hK => ?_)
 go_simp
 go_at_call 35
 refine (HCE.out _ B7).mono ?_
 rintro e w8 ⟨rfl, b8⟩
 have B8 := below2 (w := w) B7 b8
 have hBs8 := hBs7.below b8; have hBr8 := hBr7.below b8; have hBc8 := hBc7.below b8
 have z8 := b8.size
 have hBl8 := hBl7.below b8
 clear s0 s1 s2
 obtain ⟨s0, s1, s2⟩ := hBs8.e3
 refine hK.out _ _ ?_ (fun hS8 => ?_)
 ·try dsimp only
  (repeat' apply And.intro) <;> assumption
 clear hK K
 try simp only [Act.put, zg1, zg2, zg3, zs1, zs2, zs3]
 refine hP 9 rfl ?_
 refine hP 14 rfl ?_
 refine headH_done (by kernel_rfl) ?_
 simp only [List.drop_succ_cons, List.drop_zero]
 go_wp2_with (refine list_store_blk rfl 40 _ _ rfl G6 _ _ 40 hBl8 rfl rfl (by kernel_rfl) rfl (by simp [Value.oneCell']) w.heap.size w B8 (by omega) ?_; intro w20 hG20 hoth20 hsz20 bw20)
 refine NoPanic.normal ?_
 have hBc20 := hoth20 _ _ _ (by omega) hBc8; have hBs20 := hoth20 _ _ _ (by omega) hBs8; have hBr20 := hoth20 _ _ _ (by omega) hBr8
 have lG : G6 < w20.heap.size := hG20.lt
 clear s0 s1 s2
 have s2 := hBs20.c2; have k2 := hBc20.c2; have k5 := hBc20.c5; have lf := hG20.frozen
 obtain ⟨l0, l1, l2, l3, l4, l5⟩ := hG20.e6
 go_upto_region 3 with (go_at_call 36; (with_reducible refine (HSP.out _ bw20).mono ?_); rintro e w30 ⟨r30, ss, rfl, hS30, hPO, b30⟩; obtain ⟨_, a4, c4, e4, _⟩ := shs_open (hS30 w30 fun _ _ _ _ h => h).1; have hMs : M = ss.length := (by rw [hPO.1]; exact HMM.out); rw [← hMs] at e4; subst e4; obtain ⟨HS30, HPO⟩ := zh2 hS30 hPO; have hG30 := hG20.below b30; have hBr30 := hBr20.below b30; have B30 := below2 bw20 b30; have z30 := b30.size; clear l0 l1 l2 l3 l4 l5 lf s2 k2 k5 hS30 hPO hMs; obtain ⟨l0, l1, l2, l3, l4, l5⟩ := hG30.e6; have lf := hG30.frozen)
 obtain ⟨W31, hW31⟩ : ∃ W31, W31 = w30.setCell ⟨G6, 4, none⟩ (.slice a4 M c4) := ⟨_, rfl⟩
 try rw [← hW31]
 have B31 : Below w.heap.size w W31 := by subst hW31; exact B30.setCell (by show _ ≤ G6; omega) _
 have hG31 : BlockIs W31 G6 [.int .i64 (cntL true pl), .int .i64 ((cntL false pl : Int) + (cntE 2 kl : Int)), .slice a1 n1 c1, .slice a2 n2 c2, .slice a4 M c4, .slice none 0 0] 40 := by subst hW31; exact hG30.set 4 _
 have hBr31 : BlockIs W31 (w.heap.size + 1 + 1) [.int .i64 0, .int .i64 0, .slice none 0 0, .slice none 0 0, .slice none 0 0, .slice none 0 0] 40 := by subst hW31; exact hBr30.other (by simp; omega) _
 have hs31 : W31.heap.size = w30.heap.size := by subst hW31; exact World.size_setCell _ _ _
 have HKE : Hid (∀ k arr u, w20.heap.size ≤ k → BlockIs w30 k arr u → BlockIs W31 k arr u) := by
  subst hW31
  unfold Hid
  intro k arr u hk hb
  exact hb.other (by simp; omega) _
 have HS31 := zh hs31
 clear hW31 l0 l1 l2 l3 l4 l5 lf hs31
 obtain ⟨l0, l1, l2, l3, l4, l5⟩ := hG31.e6; have lf := hG31.frozen; have lg := hG31.lt
 obtain ⟨t0, t1, t2, t3, t4, t5⟩ := hBr31.e6; have tf := hBr31.frozen; have tl := hBr31.lt
 go_upto_region 4 with fail
 obtain ⟨W40, hW40⟩ : ∃ W40, W40 = (W31.setCell ⟨G6, 5, none⟩ (.slice (some ⟨W31.heap.size, 0, none⟩) (M + 2) (M + 2))).alloc (.cells ((List.replicate (M + 2) zLk).flatMap lkV).toArray 90) := ⟨_, rfl⟩
 try rw [← hW40]
 obtain ⟨LB, hLB⟩ : ∃ LB, LB = W31.heap.size := ⟨_, rfl⟩
 have B40 : Below w.heap.size w W40 := by subst hW40; exact (B31.setCell (by show _ ≤ G6; omega) _).alloc (by simp; exact B31.size) _
 have hG40 : BlockIs W40 G6 [.int .i64 (cntL true pl), .int .i64 ((cntL false pl : Int) + (cntE 2 kl : Int)), .slice a1 n1 c1, .slice a2 n2 c2, .slice a4 M c4, .slice (some ⟨LB, 0, none⟩) (M + 2) (M + 2)] 40 := by subst hW40 hLB; exact (hG31.set 5 _).alloc' _
 have hBr40 : BlockIs W40 (w.heap.size + 1 + 1) [.int .i64 0, .int .i64 0, .slice none 0 0, .slice none 0 0, .slice none 0 0, .slice none 0 0] 40 := by subst hW40; exact (hBr31.other (by simp; omega) _).alloc' _
 have hL40 : BlockIs W40 LB ((List.replicate (M + 2) zLk).flatMap lkV) 90 := by subst hW40 hLB; exact BlockIs.newAt' _ _ _ (by simp)
 have HKE2 : Hid (∀ k arr u, w20.heap.size ≤ k → BlockIs w30 k arr u → BlockIs W40 k arr u) := by
  subst hW40
  unfold Hid
  intro k arr u hk hb
  exact ((HKE.out k arr u hk hb).other (by simp; omega) _).alloc' _
 have hLw : w.heap.size ≤ LB := by have := B31.size; omega
 have hLr : w.heap.size + 1 + 1 < LB := by have := hBr31.lt; omega
 rw [← hLB]
 clear hW40 hLB l0 l1 l2 l3 l4 l5 lf lg t0 t1 t2 t3 t4 t5 tf tl
 obtain ⟨l0, l1, l2, l3, l4, l5⟩ := hG40.e6
 go_wp2_with (refine list_store_blk rfl 40 _ _ rfl (w.heap.size + 1 + 1) _ _ 40 hBr40 rfl rfl (by kernel_rfl) rfl (by simp [Value.oneCell']) w.heap.size w B40 (by omega) ?_; intro w50 hR50 hoth50 hsz50 bw50)
 obtain ⟨e0, e1, e2, e3, e4, e5⟩ := hR50.e6
 have hL50 := hoth50 _ _ _ (by omega) hL40
 exact bodyPost_ret (v := .agg #[.int .i64 (cntL true pl), .int .i64 ((cntL false pl : Int) + (cntE 2 kl : Int)), .slice a1 n1 c1, .slice a2 n2 c2, .slice a4 M c4, .slice (some ⟨LB, 0, none⟩) (M + 2) (M + 2)]) (by simp [results, Tryz.results10, go_sem, e0, e1, e2, e3, e4, e5]) rfl
  ⟨⟨cntL true pl, (cntL false pl : Int) + (cntE 2 kl : Int), (.slice a1 n1 c1, bl), (.slice a2 n2 c2, kl), (.slice a4 M c4, ss), (.slice (some ⟨LB, 0, none⟩) (M + 2) (M + 2), List.replicate (M + 2) zLk)⟩, rfl,
   fun W h1 h2 hkp => ⟨h1, h2, HS30.out W fun b arr T hb hh => hkp b arr T (by omega) (hoth50 b arr T (by omega) (HKE2.out b arr T hb hh)), lks_made (hkp LB _ _ hLw hL50) (by omega) (by omega)⟩,
   (by unfold newP Mm.pl; rw [← HMM.out]; simp only [parts_pl HPO.out, List.map_replicate]; rw [← HMM.out]; rfl), bw50⟩
 go_simp
 refine named_world (K := K) fun w5 hw5 => ?_
 obtain ⟨G5, hG5⟩ : ∃ G, G = w4.heap.size := ⟨_, rfl⟩
 rw [← hG5]
 have b5 : Below w4.heap.size w4 w5 := by subst hw5; exact (Below.refl _ _).alloc (Nat.le_refl _) _
 have hBl5 : BlockIs w5 G5 [.int .i64 0, .int .i64 0, .slice none 0 0, .slice none 0 0, .slice none 0 0, .slice none 0 0] 40 := by subst hw5 hG5; exact BlockIs.new w4 _ _
 have gL5 : w.heap.size + 1 + 1 + 1 ≤ G5 := by have := B4.size; have := hBr4.lt; omega
 clear hw5 hG5
 have B5 := below2 (w := w) B4 b5
 have hBs5 := hBs4.below b5; have hBr5 := hBr4.below b5; have hBc5 := hBc4.below b5
 have z5 := b5.size
 clear s0 s1 s2
 obtain ⟨s0, s1, s2⟩ := hBs5.e3
 refine hK.out _ _ ?_ (fun hS5 => ?_)
 ·try dsimp only
  (repeat' apply And.intro) <;> assumption
 clear hK K
 try simp only [Act.put, zg1, zg2, zg3, zs1, zs2, zs3]
 refine headH_one (i := 2) rfl rfl (by kernel_rfl) (fun K hK => ?_)
 go_simp
 go_at_call 34
 refine (HCT.out _ B5).mono ?_
 rintro e w6 ⟨rfl, b6⟩
 have B6 := below2 (w := w) B5 b6
 have hBs6 := hBs5.below b6; have hBr6 := hBr5.below b6; have hBc6 := hBc5.below b6
 have z6 := b6.size
 have hBl6 := hBl5.below b6
 clear s0 s1 s2
 obtain ⟨s0, s1, s2⟩ := hBs6.e3
 refine hK.out _ _ ?_ (fun hS6 => ?_)
 ·try dsimp only
  (repeat' apply And.intro) <;> assumption
 clear hK K
 try simp only [Act.put, zg1, zg2, zg3, zs1, zs2, zs3]
 refine headH_one (i := 5) rfl rfl (by kernel_rfl) (fun K hK => ?_)
 go_simp
 go_at_call 34
 refine (HCF.out _ B6).mono ?_
 rintro e w7 ⟨rfl, b7⟩
 have B7 := below2 (w := w) B6 b7
 have hBs7 := hBs6.below b7; have hBr7 := hBr6.below b7; have hBc7 := hBc6.below b7
 have z7 := b7.size
 have hBl7 := hBl6.below b7
 clear s0 s1 s2
 obtain ⟨s0, s1, s2⟩ := hBs7.e3
 refine hK.out _ _ ?_ (fun hS7 => ?_)
 ·try dsimp only
  (repeat' apply And.intro) <;> assumption
 clear hK K
 try simp only [Act.put, zg1, zg2, zg3, zs1, zs2, zs3]
 refine headH_one (i := 8) rfl rfl (by kernel_rfl) (fun K hK => ?_)
 go_simp
 go_at_call 35
 refine (HCE.out _ B7).mono ?_
 rintro e w8 ⟨rfl, b8⟩
 have B8 := below2 (w := w) B7 b8
 have hBs8 := hBs7.below b8; have hBr8 := hBr7.below b8; have hBc8 := hBc7.below b8
 have z8 := b8.size
 have hBl8 := hBl7.below b8
 clear s0 s1 s2
 obtain ⟨s0, s1, s2⟩ := hBs8.e3
 refine hK.out _ _ ?_ (fun hS8 => ?_)
 ·try dsimp only
  (repeat' apply And.intro) <;> assumption
 clear hK K
 try simp only [Act.put, zg1, zg2, zg3, zs1, zs2, zs3]
 refine hP 9 rfl ?_
 refine hP 14 rfl ?_
 refine headH_done (by kernel_rfl) ?_
 simp only [List.drop_succ_cons, List.drop_zero]
 go_wp2_with (refine list_store_blk rfl 40 _ _ rfl G5 _ _ 40 hBl8 rfl rfl (by kernel_rfl) rfl (by simp [Value.oneCell']) w.heap.size w B8 (by omega) ?_; intro w20 hG20 hoth20 hsz20 bw20)
 refine NoPanic.normal ?_
 have hBc20 := hoth20 _ _ _ (by omega) hBc8; have hBs20 := hoth20 _ _ _ (by omega) hBs8; have hBr20 := hoth20 _ _ _ (by omega) hBr8
 have lG : G5 < w20.heap.size := hG20.lt
 clear s0 s1 s2
 have s2 := hBs20.c2; have k2 := hBc20.c2; have k5 := hBc20.c5; have lf := hG20.frozen
 obtain ⟨l0, l1, l2, l3, l4, l5⟩ := hG20.e6
 go_upto_region 3 with (go_at_call 36; (with_reducible refine (HSP.out _ bw20).mono ?_); rintro e w30 ⟨r30, ss, rfl, hS30, hPO, b30⟩; obtain ⟨_, a4, c4, e4, _⟩ := shs_open (hS30 w30 fun _ _ _ _ h => h).1; have hMs : M = ss.length := (by rw [hPO.1]; exact HMM.out); rw [← hMs] at e4; subst e4; obtain ⟨HS30, HPO⟩ := zh2 hS30 hPO; have hG30 := hG20.below b30; have hBr30 := hBr20.below b30; have B30 := below2 bw20 b30; have z30 := b30.size; clear l0 l1 l2 l3 l4 l5 lf s2 k2 k5 hS30 hPO hMs; obtain ⟨l0, l1, l2, l3, l4, l5⟩ := hG30.e6; have lf := hG30.frozen)
 obtain ⟨W31, hW31⟩ : ∃ W31, W31 = w30.setCell ⟨G5, 4, none⟩ (.slice a4 M c4) := ⟨_, rfl⟩
 try rw [← hW31]
 have B31 : Below w.heap.size w W31 := by subst hW31; exact B30.setCell (by show _ ≤ G5; omega) _
 have hG31 : BlockIs W31 G5 [.int .i64 (cntL true pl), .int .i64 ((cntL false pl : Int) + (cntE 2 kl : Int)), .slice a1 n1 c1, .slice a2 n2 c2, .slice a4 M c4, .slice none 0 0] 40 := by subst hW31; exact hG30.set 4 _
 have hBr31 : BlockIs W31 (w.heap.size + 1 + 1) [.int .i64 0, .int .i64 0, .slice none 0 0, .slice none 0 0, .slice none 0 0, .slice none 0 0] 40 := by subst hW31; exact hBr30.other (by simp; omega) _
 have hs31 : W31.heap.size = w30.heap.size := by subst hW31; exact World.size_setCell _ _ _
 have HKE : Hid (∀ k arr u, w20.heap.size ≤ k → BlockIs w30 k arr u → BlockIs W31 k arr u) := by
  subst hW31
  unfold Hid
  intro k arr u hk hb
  exact hb.other (by simp; omega) _
 have HS31 := zh hs31
 clear hW31 l0 l1 l2 l3 l4 l5 lf hs31
 obtain ⟨l0, l1, l2, l3, l4, l5⟩ := hG31.e6; have lf := hG31.frozen; have lg := hG31.lt
 obtain ⟨t0, t1, t2, t3, t4, t5⟩ := hBr31.e6; have tf := hBr31.frozen; have tl := hBr31.lt
 go_upto_region 4 with fail
 obtain ⟨W40, hW40⟩ : ∃ W40, W40 = (W31.setCell ⟨G5, 5, none⟩ (.slice (some ⟨W31.heap.size, 0, none⟩) (M + 2) (M + 2))).alloc (.cells ((List.replicate (M + 2) zLk).flatMap lkV).toArray 90) := ⟨_, rfl⟩
 try rw [← hW40]
 obtain ⟨LB, hLB⟩ : ∃ LB, LB = W31.heap.size := ⟨_, rfl⟩
 have B40 : Below w.heap.size w W40 := by subst hW40; exact (B31.setCell (by show _ ≤ G5; omega) _).alloc (by simp; exact B31.size) _
 have hG40 : BlockIs W40 G5 [.int .i64 (cntL true pl), .int .i64 ((cntL false pl : Int) + (cntE 2 kl : Int)), .slice a1 n1 c1, .slice a2 n2 c2, .slice a4 M c4, .slice (some ⟨LB, 0, none⟩) (M + 2) (M + 2)] 40 := by subst hW40 hLB; exact (hG31.set 5 _).alloc' _
 have hBr40 : BlockIs W40 (w.heap.size + 1 + 1) [.int .i64 0, .int .i64 0, .slice none 0 0, .slice none 0 0, .slice none 0 0, .slice none 0 0] 40 := by subst hW40; exact (hBr31.other (by simp; omega) _).alloc' _
 have hL40 : BlockIs W40 LB ((List.replicate (M + 2) zLk).flatMap lkV) 90 := by subst hW40 hLB; exact BlockIs.newAt' _ _ _ (by simp)
 have HKE2 : Hid (∀ k arr u, w20.heap.size ≤ k → BlockIs w30 k arr u → BlockIs W40 k arr u) := by
  subst hW40
  unfold Hid
  intro k arr u hk hb
  exact ((HKE.out k arr u hk hb).other (by simp; omega) _).alloc' _
 have hLw : w.heap.size ≤ LB := by have := B31.size; omega
 have hLr : w.heap.size + 1 + 1 < LB := by have := hBr31.lt; omega
 rw [← hLB]
 clear hW40 hLB l0 l1 l2 l3 l4 l5 lf lg t0 t1 t2 t3 t4 t5 tf tl
 obtain ⟨l0, l1, l2, l3, l4, l5⟩ := hG40.e6
 go_wp2_with (refine list_store_blk rfl 40 _ _ rfl (w.heap.size + 1 + 1) _ _ 40 hBr40 rfl rfl (by kernel_rfl) rfl (by simp [Value.oneCell']) w.heap.size w B40 (by omega) ?_; intro w50 hR50 hoth50 hsz50 bw50)
 obtain ⟨e0, e1, e2, e3, e4, e5⟩ := hR50.e6
 have hL50 := hoth50 _ _ _ (by omega) hL40
 exact bodyPost_ret (v := .agg #[.int .i64 (cntL true pl), .int .i64 ((cntL false pl : Int) + (cntE 2 kl : Int)), .slice a1 n1 c1, .slice a2 n2 c2, .slice a4 M c4, .slice (some ⟨LB, 0, none⟩) (M + 2) (M + 2)]) (by simp [results, Tryz.results10, go_sem, e0, e1, e2, e3, e4, e5]) rfl
  ⟨⟨cntL true pl, (cntL false pl : Int) + (cntE 2 kl : Int), (.slice a1 n1 c1, bl), (.slice a2 n2 c2, kl), (.slice a4 M c4, ss), (.slice (some ⟨LB, 0, none⟩) (M + 2) (M + 2), List.replicate (M + 2) zLk)⟩, rfl,
   fun W h1 h2 hkp => ⟨h1, h2, HS30.out W fun b arr T hb hh => hkp b arr T (by omega) (hoth50 b arr T (by omega) (HKE2.out b arr T hb hh)), lks_made (hkp LB _ _ hLw hL50) (by omega) (by omega)⟩,
   (by unfold newP Mm.pl; rw [← HMM.out]; simp only [parts_pl HPO.out, List.map_replicate]; rw [← HMM.out]; rfl), bw50⟩

/-- peers do not lie in a block of slices -/
theorem reads_off {w w' : World} {v : Value} {l : List Pe} {B : Nat} {arr : List Value} {T : TypeId} (h : ReadsL peV 10 w v l) (hB : BlockIs w B arr T) (ha : ∀ x ∈ arr, ∃ a n c, x = .slice a n c) (hs : w.heap.size ≤ w'.heap.size) (hc : ∀ b o, b ≠ B → w'.cell? ⟨b, o, none⟩ = w.cell? ⟨b, o, none⟩) : ReadsL peV 10 w' v l := by
 obtain ⟨h1, h2, h3⟩ := h
 refine ⟨h1, h2, ?_⟩
 rcases h3 with h3 | ⟨hp, b, o, c, rfl, hc', hlt, hx⟩
 ·exact Or.inl h3
 ·have hne : b ≠ B := by
   intro e
   subst e
   cases l with
   | nil => simp at hp
   | cons p r =>
    have x0 := hx 0 (.bool p.en.ad.v6) rfl
    unfold World.cell? at x0
    unfold BlockIs at hB
    simp only [hB] at x0
    have hm : Value.bool p.en.ad.v6 ∈ arr := by
     have : arr[o + 0]? = some (.bool p.en.ad.v6) := by simpa using x0
     exact List.mem_of_getElem? this
    obtain ⟨_, _, _, e⟩ := ha _ hm
    cases e
  exact Or.inr ⟨hp, b, o, c, rfl, hc', by omega, fun j x hj => by rw [hc _ _ hne]; exact hx j x hj⟩
set_option maxHeartbeats 8000000 in
theorem refState_any (m : Mm) (w : World) (h : MmAt w m) (hs : ∀ s ∈ m.parts.2, s.l.length ≤ 1000000) (hl : ∀ k, ((m.parts.2.take k).flatMap pesS).length ≤ 1000000) :
  Calls Tryz.prog 22 #[.agg #[.int .i64 m.inn, .int .i64 m.out, m.bans.1, m.book.1, m.parts.1, m.locks.1]] w fun e w' => ∃ (a b d : Option Addr) (c1 c2 c3 : Nat), e = .returned (.agg #[.slice a m.bans.2.length c1, .slice b m.book.2.length c2, .slice d (pstL (m.parts.2.flatMap pesS)).length c3]) ∧ ReadsL baV 5 w' (.slice a m.bans.2.length c1) m.bans.2 ∧ ReadsL eyV 7 w' (.slice b m.book.2.length c2) m.book.2 ∧ ReadsL peV 10 w' (.slice d (pstL (m.parts.2.flatMap pesS)).length c3) (pstL (m.parts.2.flatMap pesS)) ∧ Below w.heap.size w w' := by
 have HJO := zh (fun (W : World) (hB : Below w.heap.size w W) => refShJoin_any m.parts.1 m.parts.2 W (h.2.2.1.below hB) hs hl)
 have HBA := zh (fun (W : World) (hB : Below w.heap.size w W) => ReadsL.below h.1 hB)
 have HBO := zh (fun (W : World) (hB : Below w.heap.size w W) => ReadsL.below h.2.1 hB)
 obtain ⟨a1, a2, a3, a4, c1, c2, c3, c4, e1, e2, e3, e4⟩ := mm_slices h
 simp only [e1, e2, e3, e4] at HJO HBA HBO ⊢
 clear e1 e2 e3 e4 h hs hl
 go_enter Tryz.func22, Tryz.ntmps22
 go_upto_region 1 with fail
 refine wpn2 fun W3 B3 hBm hBr _ => ?_
 have s2 := hBm.c2; have s3 := hBm.c3; have s4 := hBm.c4
 refine wp_region_noPanic ?_
 have hS0 : (fun wq => wq.cell? ⟨w.heap.size, 2, none⟩ = some (.slice a1 m.bans.2.length c1) ∧ wq.cell? ⟨w.heap.size, 3, none⟩ = some (.slice a2 m.book.2.length c2) ∧ wq.cell? ⟨w.heap.size, 4, none⟩ = some (.slice a3 m.parts.2.length c3)) W3.drew := ⟨s2, s3, s4⟩
 refine wp_region_headH (fun wq => wq.cell? ⟨w.heap.size, 2, none⟩ = some (.slice a1 m.bans.2.length c1) ∧ wq.cell? ⟨w.heap.size, 3, none⟩ = some (.slice a2 m.book.2.length c2) ∧ wq.cell? ⟨w.heap.size, 4, none⟩ = some (.slice a3 m.parts.2.length c3)) 7 (by kernel_rfl) (by kernel_rfl) ?_
 refine hP 0 rfl ?_
 refine hP 1 rfl ?_
 refine hP 2 rfl ?_
 refine hP 3 rfl ?_
 refine hP 4 rfl ?_
 refine hP 5 rfl ?_
 refine headH_one (i := 6) rfl rfl (by kernel_rfl) (fun K hK => ?_)
 go_simp
 go_at_call 58
 refine (HJO.out _ B3.drew).mono ?_
 rintro e w7 ⟨r7, rfl, rd7, b7⟩
 obtain ⟨_, x7, y7, e7, _⟩ := pes_open rd7
 subst e7
 have B7 := below2 (w := w) B3.drew b7; have hBm7 := hBm.drew'.below b7; have hBr7 := hBr.drew'.below b7
 have HRD7 := zh rd7
 have z7 := b7.size
 clear rd7 s2 s3 s4
 have s2 := hBm7.c2; have s3 := hBm7.c3; have s4 := hBm7.c4
 refine hK.out _ _ ?_ (fun hS7 => ?_)
 ·exact ⟨s2, s3, s4⟩
 clear hK K
 try simp only [Act.put, zg1, zg2, zg3, zs1, zs2, zs3]
 refine headH_done (by kernel_rfl) ?_
 simp only [List.drop_succ_cons, List.drop_zero]
 obtain ⟨r0, r1, r2⟩ := hBr7.e3; have rf := hBr7.frozen; have rl := hBr7.lt
 go_wp2_with fail
 refine NoPanic.normal ?_
 go_wp2_with fail
 refine bodyPost_named fun W9 h9 => ?_
 have hR9 : BlockIs W9 (w.heap.size + 1) [.slice a1 m.bans.2.length c1, .slice a2 m.book.2.length c2, .slice x7 (pstL (m.parts.2.flatMap pesS)).length y7] 31 := by subst h9; exact rcx hBr7
 have b9 : Below w.heap.size w W9 := by subst h9; exact bel
 have rd9 : ReadsL peV 10 W9 (.slice x7 (pstL (m.parts.2.flatMap pesS)).length y7) (pstL (m.parts.2.flatMap pesS)) := by
  refine reads_off HRD7.out hBr7 (fun x hx => by simp only [List.mem_cons, List.not_mem_nil, or_false] at hx; rcases hx with rfl | rfl | rfl <;> exact ⟨_, _, _, rfl⟩) (by subst h9; simp) (fun b o hne => ?_)
  subst h9
  have hne' := Ne.symm hne
  simp [go_sem, hne, hne']
 clear h9
 obtain ⟨f0, f1, f2⟩ := hR9.e3
 exact bodyPost_ret (v := .agg #[.slice a1 m.bans.2.length c1, .slice a2 m.book.2.length c2, .slice x7 (pstL (m.parts.2.flatMap pesS)).length y7]) (by simp [results, Tryz.results22, go_sem, f0, f1, f2]) rfl ⟨a1, a2, x7, c1, c2, y7, rfl, HBA.out _ b9, HBO.out _ b9, rd9, b9⟩
set_option maxHeartbeats 8000000 in
theorem vals_same (v u : Vm) (w : World) (hv : VmAt w v) (hu : VmAt w u) (hp : v.pl = u.pl) :
  Calls Tryz.prog 16 #[.agg #[.int .i64 v.n, .bool v.pe.en.ad.v6, .int .u64 v.pe.en.ad.hi, .int .u64 v.pe.en.ad.lo, .int .i64 v.pe.en.port, .bool v.pe.came, .int .i64 v.pe.since, .int .i64 v.pe.pts, .int .i64 v.pe.at_, .int .i64 v.pe.ping, .int .i64 v.pe.work, v.bans.1, v.book.1], .agg #[.int .i64 u.n, .bool u.pe.en.ad.v6, .int .u64 u.pe.en.ad.hi, .int .u64 u.pe.en.ad.lo, .int .i64 u.pe.en.port, .bool u.pe.came, .int .i64 u.pe.since, .int .i64 u.pe.pts, .int .i64 u.pe.at_, .int .i64 u.pe.ping, .int .i64 u.pe.work, u.bans.1, u.book.1]] w fun e w' => e = .returned (.bool true) ∧ Below w.heap.size w w' := by
 have p0 : u.n = v.n := (congrArg Vp.n hp).symm
 have p1 : u.pe = v.pe := (congrArg Vp.pe hp).symm
 have p2 : u.bans.2 = v.bans.2 := (congrArg Vp.bans hp).symm
 have p3 : u.book.2 = v.book.2 := (congrArg Vp.book hp).symm
 have HB := zh (fun (W : World) (hB : Below w.heap.size w W) => bans_same v.bans.1 u.bans.1 v.bans.2 W (ReadsL.below hv.1 hB) (by rw [← p2]; exact ReadsL.below hu.1 hB))
 have HK := zh (fun (W : World) (hB : Below w.heap.size w W) => book_same v.book.1 u.book.1 v.book.2 W (ReadsL.below hv.2 hB) (by rw [← p3]; exact ReadsL.below hu.2 hB))
 obtain ⟨_, a1, c1, e1, _⟩ := ba_open hv.1
 obtain ⟨_, a2, c2, e2, _⟩ := ey_open hv.2
 obtain ⟨_, d1, g1, u1, _⟩ := ba_open hu.1
 obtain ⟨_, d2, g2, u2, _⟩ := ey_open hu.2
 simp only [e1, e2, u1, u2] at HB HK
 rw [e1, e2, u1, u2, p0, p1]
 rw [p2, p3] at *
 clear e1 e2 u1 u2 hv hu hp p0 p1 p2 p3
 generalize v.n = z at *; generalize v.pe = pe at *; generalize v.bans.2.length = n1 at *; generalize v.book.2.length = n2 at *
 have hNE := fun W => eqlPe_one pe W
 go_enter Tryz.func16, Tryz.ntmps16
 go_upto_region 1 with fail
 refine wpn2 fun W3 B3 hX hY _ => ?_
 obtain ⟨x0, x1, x2, x3, x4, x5, x6, x7, x8, x9, x10, x11⟩ := hX.e12; obtain ⟨y0, y1, y2, y3, y4, y5, y6, y7, y8, y9, y10, y11⟩ := hY.e12
 go_wp2_with (first
  | (go_at_call 25; (with_reducible refine (HB.out _ B3).mono ?_); rintro e w4 ⟨rfl, b4⟩; have B4 := below2 B3 b4; have hX4 := hX.below b4; have hY4 := hY.below b4; have x12 := hX4.c12; have y12 := hY4.c12)
  | (go_at_call 26; (with_reducible refine (HK.out _ B4).mono ?_); rintro e w5 ⟨rfl, b5⟩; have B5 := below2 B4 b5))
 go_ret
 exact ⟨rfl, B5⟩
end Go.Proofs.YtnplgagaoeckoaaGreat
namespace Go.Proofs.YtnplgagaoeckoaaGreat
open Go.RowKit Go.Lib
structure Ac where
 who : Int
 op : Oq
def acV (a : Ac) : List Value := .int .i64 a.who :: [.int .i64 a.op.kind, .int .i64 a.op.lock, .int .i64 a.op.lk, .int .i64 a.op.ls, .int .i64 a.op.lt, .int .i64 a.op.old, .int .i64 a.op.new, .int .i64 a.op.vn, .bool a.op.pe.en.ad.v6, .int .u64 a.op.pe.en.ad.hi, .int .u64 a.op.pe.en.ad.lo, .int .i64 a.op.pe.en.port, .bool a.op.pe.came, .int .i64 a.op.pe.since, .int .i64 a.op.pe.pts, .int .i64 a.op.pe.at_, .int .i64 a.op.pe.ping, .int .i64 a.op.pe.work, a.op.bans.1, a.op.book.1, .bool a.op.mark]
theorem acV_len (a : Ac) : (acV a).length = 22 := rfl
def ReadsAc (w : World) (v : Value) (l : List Ac) : Prop := ReadsL acV 22 w v l ∧ ∀ a ∈ l, OqAt w a.op
theorem ReadsAc.below {w w' : World} {v : Value} {l : List Ac} (h : ReadsAc w v l) (hb : Below w.heap.size w w') : ReadsAc w' v l := ⟨ReadsL.below h.1 hb, fun a ha => (h.2 a ha).below hb⟩
/-- an act's cells -/
def AcIn (w : World) (b o : Nat) (a : Ac) : Prop := ∀ (j : Nat) (u : Value), (acV a)[j]? = some u → w.cell? ⟨b, o + j, none⟩ = some u
theorem AcIn.below {w w' : World} {b o : Nat} {a : Ac} (h : AcIn w b o a) (hb : Below w.heap.size w w') (hlt : b < w.heap.size) : AcIn w' b o a := fun j u hj => keep hb hlt (h j u hj)
theorem acs_open {w : World} {v : Value} {l : List Ac} (h : ReadsAc w v l) : l.length ≤ 9223372036854775807 ∧ ∃ (a : Option Addr) (c : Nat), v = .slice a l.length c ∧ (0 < l.length → ∃ b o, a = some ⟨b, o, none⟩ ∧ l.length ≤ c ∧ b < w.heap.size ∧
   ∀ (i : Nat) (p : Ac), l[i]? = some p → AcIn w b (o + i * 22) p) := by
 obtain ⟨h1, a, c, h2, h3⟩ := h.1.open acV_len (by omega)
 refine ⟨h1, a, c, h2, fun hp => ?_⟩
 obtain ⟨b, o, h4, h5, h6, h7⟩ := h3 hp
 exact ⟨b, o, h4, h5, h6, fun i x hi j u hj => by have := h7 i x hi j u hj; rwa [← Nat.add_assoc] at this⟩
def acOk (a : Ac) : Bool := decide (a.op.bans.2.length ≤ 20) && decide (a.op.book.2.length ≤ 20)
def acLight (l : List Ac) : Bool := (l.take 60).all acOk && decide (l.length ≤ 60)
theorem acLight_of {l : List Ac} (h : acLight l = true) : l.length ≤ 60 ∧ ∀ a ∈ l, a.op.bans.2.length ≤ 20 ∧ a.op.book.2.length ≤ 20 := by
 unfold acLight at h
 rw [Bool.and_eq_true] at h
 have hl := of_decide_eq_true h.2
 refine ⟨hl, fun a ha => ?_⟩
 rw [List.take_of_length_le hl, List.all_eq_true] at h
 have := h.1 a ha
 unfold acOk at this
 rw [Bool.and_eq_true] at this
 exact ⟨of_decide_eq_true this.1, of_decide_eq_true this.2⟩
theorem acLight_bad {l : List Ac} {k : Nat} {a : Ac} (hk : k < 60) (ha : l[k]? = some a) (h : acOk a = false) : acLight l = false := by
 unfold acLight
 rw [Bool.and_eq_false_iff]; left
 rw [List.all_eq_false]
 exact ⟨a, List.mem_of_getElem? (i := k) (by rw [List.getElem?_take_of_lt hk]; exact ha), by rw [h]; simp⟩
theorem acLight_long {l : List Ac} (h : 60 < l.length) : acLight l = false := by
 unfold acLight
 rw [decide_eq_false (by omega), Bool.and_false]
theorem acLight_end {l : List Ac} (h : l.length ≤ 60) (ha : ∀ i a, i < l.length → l[i]? = some a → acOk a = true) : acLight l = true := by
 unfold acLight
 rw [decide_eq_true h, Bool.and_true, List.all_eq_true]
 intro a hm
 obtain ⟨i, hi⟩ := List.mem_iff_getElem?.1 (List.mem_of_mem_take hm)
 exact ha i a (List.getElem?_eq_some_iff.1 hi).1 hi
set_option maxHeartbeats 8000000 in
theorem light37_any (v : Value) (l : List Ac) (w : World) (h : ReadsAc w v l) :
  Calls Tryz.prog 5 #[v] w fun e w' => e = .returned (.bool (acLight l)) ∧ Below w.heap.size w w' := by
 obtain ⟨hm, a0, c, rfl, h3⟩ := acs_open h
 have HR := zh h.2
 clear h
 go_enter Tryz.func5, Tryz.ntmps5
 go_wp2_with fail
 go_loopw [3] (fun i' wr => ∃ k : Nat, k ≤ l.length ∧ k ≤ 60 ∧ i' = .int .i64 k ∧ Hid (∀ i a, i < k → l[i]? = some a → acOk a = true) ∧ Hid (Below w.heap.size w wr)) (fun i' _ => l.length - (intOf i').toNat)
 case atStart => exact ⟨0, by omega, by omega, rfl, fun i s hi => absurd hi (Nat.not_lt_zero _), Below.refl _ _⟩
 case round =>
  obtain ⟨k, hk, hk10, rfl, HL, HB⟩ := hrel
  have q1 : (0 : Int) ≤ (k : Int) := by omega
  by_cases hlt : k < l.length
  ·have q2 : (k : Int) < (l.length : Int) := by omega
   by_cases h10 : k < 60
   ·have q3 : (k : Int) < 60 := by omega
    have q3d : decide ((k : Int) < 60) = true := decide_eq_true q3
    have q3e : decide (k < 60) = true := decide_eq_true h10
    obtain ⟨x, hx⟩ : ∃ x, l[k]? = some x := ⟨_, List.getElem?_eq_getElem hlt⟩
    obtain ⟨b, o, rfl, h4, h5, h6⟩ := h3 (by omega)
    have hc := h6 k _ hx
    have hr := HR.out _ (List.mem_of_getElem? hx)
    obtain ⟨hm1, p1, d1, e1, -⟩ := ba_open hr.1
    obtain ⟨hm2, p2, d2, e2, -⟩ := ey_open hr.2
    have s1 := keep HB.out h5 (hc 19 _ rfl); have s2 := keep HB.out h5 (hc 20 _ rfl)
    rw [e1] at s1; rw [e2] at s2
    obtain ⟨nb, hnb, nk, hnk⟩ := nz2 x.op.bans.2.length x.op.book.2.length
    rw [← hnb] at s1 hm1; rw [← hnk] at s2 hm2
    obtain ⟨HX, HNB, HNK⟩ := zh3 hx hnb hnk
    clear hx h6 hc hr h3 e1 e2 hnb hnk
    rcases Nat.lt_or_ge 20 nb with hb | hb
    ·have q4 : (20 : Int) < (nb : Int) := by omega
     have q4d : decide ((20 : Int) < (nb : Int)) = true := decide_eq_true q4
     have q4e : decide (20 < nb) = true := decide_eq_true hb
     have HF : Hid (acLight l = false) := acLight_bad h10 HX.out (by unfold acOk; rw [← HNB.out, decide_eq_false (by omega), Bool.false_and])
     go_wp2_with fail
     go_ret
     exact ⟨by rw [HF.out]; rfl, HB.out⟩
    ·have q4 : ¬ (20 : Int) < (nb : Int) := by omega
     have q4d : decide ((20 : Int) < (nb : Int)) = false := decide_eq_false q4
     have q4e : decide (20 < nb) = false := decide_eq_false (by omega)
     rcases Nat.lt_or_ge 20 nk with hc | hc
     ·have q5 : (20 : Int) < (nk : Int) := by omega
      have q5d : decide ((20 : Int) < (nk : Int)) = true := decide_eq_true q5
      have q5e : decide (20 < nk) = true := decide_eq_true hc
      have HF : Hid (acLight l = false) := acLight_bad h10 HX.out (by unfold acOk; rw [← HNK.out, decide_eq_false (show ¬ nk ≤ 20 by omega), Bool.and_false])
      go_wp2_with fail
      go_ret
      exact ⟨by rw [HF.out]; rfl, HB.out⟩
     ·have q5 : ¬ (20 : Int) < (nk : Int) := by omega
      have q5d : decide ((20 : Int) < (nk : Int)) = false := decide_eq_false q5
      have q5e : decide (20 < nk) = false := decide_eq_false (by omega)
      go_wp2_with fail
      go_roundw
      case rel =>
       refine ⟨k + 1, by omega, by omega, by go_num, fun i s hi hs => ?_, HB.out⟩
       rcases Nat.lt_or_ge i k with e | e
       ·exact HL.out i s e hs
       ·rw [show i = k by omega, HX.out] at hs
        injection hs with hs
        subst hs
        unfold acOk; rw [← HNB.out, ← HNK.out, decide_eq_true hb, decide_eq_true hc]; rfl
      case measure => simp [intOf]; omega
   ·have q3 : ¬ (k : Int) < 60 := by omega
    have q3d : decide ((k : Int) < 60) = false := decide_eq_false q3
    have q3e : decide (k < 60) = false := decide_eq_false h10
    have q6 : ¬ (l.length : Int) ≤ 60 := by omega
    have q7 : ¬ l.length ≤ 60 := by omega
    have HF : Hid (acLight l = false) := acLight_long (by omega)
    clear h3
    go_wp2_with fail
    go_ret
    first | exact ⟨by rw [HF.out]; rfl, HB.out⟩ | exact ⟨by rw [HF.out]; simp, HB.out⟩
  ·obtain rfl : k = l.length := by omega
   have q6 : (l.length : Int) ≤ 60 := by omega
   have HF : Hid (acLight l = true) := acLight_end hk10 HL.out
   clear h3
   go_wp2_with fail
   go_ret
   first | exact ⟨by rw [HF.out]; rfl, HB.out⟩ | exact ⟨by rw [HF.out]; simp, HB.out⟩
end Go.Proofs.YtnplgagaoeckoaaGreat
namespace Go.Proofs.YtnplgagaoeckoaaGreat
open Go.ChangeShapes Go.WideShapes Go.ChangeAt Go.RowKit Go.Deep
def cfV (c : Cf) : List Value := [.int .i64 c.mi, .int .i64 c.mo, .int .i64 c.sh, .int .i64 c.mb, .int .i64 c.mbk, .int .u64 c.secret, .int .i64 c.qg, .int .i64 c.qp, .int .i64 c.qw, .int .i64 c.qt, .int .i64 c.half, .int .i64 c.limit, .int .i64 c.banfor, .int .i64 c.base, .int .i64 c.cap, .int .i64 c.jitter]
theorem opens_quota : Opens Tryz.prog 24 (fun q : Int × Int × Int × Int => [.int .i64 q.1, .int .i64 q.2.1, .int .i64 q.2.2.1, .int .i64 q.2.2.2]) (fun _ => True) :=
 (opens_of_fields Tryz.underlying24 (opensF_cons (n := 1) (opens_i64 Tryz.underlying3) (by kernel_rfl) rfl (opensF_cons (n := 1) (opens_i64 Tryz.underlying3) (by kernel_rfl) rfl (opensF_cons (n := 1) (opens_i64 Tryz.underlying3) (by kernel_rfl) rfl (opensF_cons (n := 1) (opens_i64 Tryz.underlying3) (by kernel_rfl) rfl opensF_nil)))) (by kernel_rfl)).map
  fun ⟨a, b, c, d, _⟩ _ => ⟨⟨a, b, c, d⟩, trivial, rfl⟩
end Go.Proofs.YtnplgagaoeckoaaGreat
namespace Go.Proofs.YtnplgagaoeckoaaGreat
open Go.RowKit
theorem k6 (k : Int) : k = 1 ∨ k = 2 ∨ k = 3 ∨ k = 4 ∨ k = 5 ∨ k = 6 ∨ (k < 1 ∨ 6 < k) := by omega
/-- short texts, and not many -/
def Few (n : Nat) (l : List (List UInt8)) : Prop := l.length ≤ n ∧ ∀ x ∈ l, x.length ≤ 2000
theorem Few.nil : Few 0 [] := ⟨by simp, fun x h => by simp at h⟩
theorem Few.cons {m : Nat} {x : List UInt8} {k : List (List UInt8)} (h : x.length ≤ 2000) (g : Few m k) : Few (m + 1) (x :: k) := ⟨by have := g.1; simp; omega, fun y hy => by
 rcases List.mem_cons.1 hy with rfl | h'
 ·exact h
 ·exact g.2 y h'⟩
theorem Few.le {n m : Nat} {l : List (List UInt8)} (h : Few n l) (hm : n ≤ m) : Few m l := ⟨Nat.le_trans h.1 hm, h.2⟩

def Oq.good (w : World) (o : Oq) : Prop := i64 o.kind ∧ i64 o.lock ∧ i64 o.lk ∧ i64 o.ls ∧ i64 o.lt ∧ i64 o.old ∧ i64 o.new ∧ i64 o.vn ∧ o.pe.fits ∧ (ReadsL baV 5 w o.bans.1 o.bans.2 ∧ ∀ x ∈ o.bans.2, x.fits) ∧ (ReadsL eyV 7 w o.book.1 o.book.2 ∧ ∀ x ∈ o.book.2, i64 x.state)
theorem k8 (k : Int) : k = 1 ∨ k = 2 ∨ k = 3 ∨ k = 4 ∨ k = 5 ∨ k = 6 ∨ k = 7 ∨ k = 8 ∨ (k < 1 ∨ 8 < k) := by omega
end Go.Proofs.YtnplgagaoeckoaaGreat
namespace Go.Proofs.YtnplgagaoeckoaaGreat
open Go.ChangeShapes Go.WideShapes Go.ChangeAt Go.RowKit Go.Deep
def Ey.fits (e : Ey) : Prop := e.en.fits ∧ i64 e.state ∧ i64 e.fails ∧ i64 e.next
theorem opens_entry : Opens Tryz.prog 87 eyV Ey.fits :=
 (opens_of_fields Tryz.underlying87 (opensF_cons (n := 4) opens_end (by kernel_rfl) rfl (opensF_cons (n := 1) (opens_i64 Tryz.underlying3) (by kernel_rfl) rfl (opensF_cons (n := 1) (opens_i64 Tryz.underlying3) (by kernel_rfl) rfl (opensF_cons (n := 1) (opens_i64 Tryz.underlying3) (by kernel_rfl) rfl opensF_nil)))) (by kernel_rfl)).map
  fun ⟨e, s, f, n, _⟩ ⟨h1, h2, h3, h4, _⟩ => ⟨⟨e, s, f, n⟩, ⟨h1, h2, h3, h4⟩, rfl⟩
structure Lo where
 k : Int
 s : Int
 t : Int
def loV (l : Lo) : List Value := [.int .i64 l.k, .int .i64 l.s, .int .i64 l.t]
theorem opens_loc : Opens Tryz.prog 44 loV (fun l => i64 l.k ∧ i64 l.s ∧ i64 l.t) :=
 (opens_of_fields Tryz.underlying44 (opensF_cons (n := 1) (opens_i64 Tryz.underlying3) (by kernel_rfl) rfl (opensF_cons (n := 1) (opens_i64 Tryz.underlying3) (by kernel_rfl) rfl (opensF_cons (n := 1) (opens_i64 Tryz.underlying3) (by kernel_rfl) rfl opensF_nil))) (by kernel_rfl)).map
  fun ⟨k, s, t, _⟩ ⟨h1, h2, h3, _⟩ => ⟨⟨k, s, t⟩, ⟨h1, h2, h3⟩, rfl⟩
structure Va where
 n : Int
 pe : Pe
 bans : Value × List Ba
 book : Value × List Ey
def vaV (v : Va) : List Value := [.int .i64 v.n, .bool v.pe.en.ad.v6, .int .u64 v.pe.en.ad.hi, .int .u64 v.pe.en.ad.lo, .int .i64 v.pe.en.port, .bool v.pe.came, .int .i64 v.pe.since, .int .i64 v.pe.pts, .int .i64 v.pe.at_, .int .i64 v.pe.ping, .int .i64 v.pe.work, v.bans.1, v.book.1]
def Va.good (w : World) (v : Va) : Prop := i64 v.n ∧ v.pe.fits ∧ (ReadsL baV 5 w v.bans.1 v.bans.2 ∧ ∀ x ∈ v.bans.2, x.fits) ∧ (ReadsL eyV 7 w v.book.1 v.book.2 ∧ ∀ x ∈ v.book.2, x.fits)
theorem opens_value : OpensW Tryz.prog 54 vaV Va.good :=
 (opensW_of_fields Tryz.underlying54 (opensWF_cons (n := 1) (opens_i64 Tryz.underlying3).w (by kernel_rfl) rfl (opensWF_cons (n := 10) opens_peer.w (by kernel_rfl) rfl (opensWF_cons (n := 1) (opensW_slice opens_ban.w baV_len (by omega) Tryz.underlying27 (by kernel_rfl)) (by kernel_rfl) rfl
  (opensWF_cons (n := 1) (opensW_slice opens_entry.w eyV_len (by omega) Tryz.underlying28 (by kernel_rfl)) (by kernel_rfl) rfl opensWF_nil)))) (by kernel_rfl)).map
  fun w ⟨n, p, b, y, _⟩ ⟨h1, h2, h3, h4, _⟩ => ⟨⟨n, p, (b.1, b.2), (y.1, y.2)⟩, ⟨h1, h2, ⟨h3.1, h3.2⟩, ⟨h4.1, h4.2⟩⟩, rfl⟩
def oqV (o : Oq) : List Value := [.int .i64 o.kind, .int .i64 o.lock, .int .i64 o.lk, .int .i64 o.ls, .int .i64 o.lt, .int .i64 o.old, .int .i64 o.new, .int .i64 o.vn, .bool o.pe.en.ad.v6, .int .u64 o.pe.en.ad.hi, .int .u64 o.pe.en.ad.lo, .int .i64 o.pe.en.port, .bool o.pe.came, .int .i64 o.pe.since, .int .i64 o.pe.pts, .int .i64 o.pe.at_, .int .i64 o.pe.ping, .int .i64 o.pe.work, o.bans.1, o.book.1, .bool o.mark]
theorem opens_op : OpensW Tryz.prog 56 oqV Oq.good :=
 (opensW_of_fields Tryz.underlying56 (opensWF_cons (n := 1) (opens_i64 Tryz.underlying3).w (by kernel_rfl) rfl (opensWF_cons (n := 1) (opens_i64 Tryz.underlying3).w (by kernel_rfl) rfl (opensWF_cons (n := 3) opens_loc.w (by kernel_rfl) rfl
  (opensWF_cons (n := 1) (opens_i64 Tryz.underlying3).w (by kernel_rfl) rfl (opensWF_cons (n := 1) (opens_i64 Tryz.underlying3).w (by kernel_rfl) rfl (opensWF_cons (n := 13) opens_value (by kernel_rfl) rfl (opensWF_cons (n := 1) (opens_bool Tryz.underlying4).w (by kernel_rfl) rfl opensWF_nil))))))) (by kernel_rfl)).map
  fun w ⟨k, l, ⟨lk, ls, lt⟩, old, new, ⟨vn, pe, bans, book⟩, m, _⟩ ⟨h1, h2, ⟨h3, h4, h5⟩, h6, h7, ⟨h8, h9, h10, h11⟩, _, _⟩ => ⟨⟨k, l, lk, ls, lt, old, new, vn, pe, bans, book, m⟩, ⟨h1, h2, h3, h4, h5, h6, h7, h8, h9, h10, ⟨h11.1, fun x hx => (h11.2 x hx).2.1⟩⟩, rfl⟩
theorem opens_confS : Opens Tryz.prog 26 cfV (fun c => c.secret < 18446744073709551616) :=
 (opens_of_fields Tryz.underlying26 (opensF_cons (n := 1) (opens_i64 Tryz.underlying3) (by kernel_rfl) rfl (opensF_cons (n := 1) (opens_i64 Tryz.underlying3) (by kernel_rfl) rfl (opensF_cons (n := 1) (opens_i64 Tryz.underlying3) (by kernel_rfl) rfl (opensF_cons (n := 1) (opens_i64 Tryz.underlying3) (by kernel_rfl) rfl (opensF_cons (n := 1) (opens_i64 Tryz.underlying3) (by kernel_rfl) rfl (opensF_cons (n := 1) (opens_u64 Tryz.underlying22) (by kernel_rfl) rfl (opensF_cons (n := 4) opens_quota (by kernel_rfl) rfl (opensF_cons (n := 1) (opens_i64 Tryz.underlying3) (by kernel_rfl) rfl (opensF_cons (n := 1) (opens_i64 Tryz.underlying3) (by kernel_rfl) rfl (opensF_cons (n := 1) (opens_i64 Tryz.underlying3) (by kernel_rfl) rfl (opensF_cons (n := 1) (opens_i64 Tryz.underlying3) (by kernel_rfl) rfl (opensF_cons (n := 1) (opens_i64 Tryz.underlying3) (by kernel_rfl) rfl (opensF_cons (n := 1) (opens_i64 Tryz.underlying3) (by kernel_rfl) rfl opensF_nil))))))))))))) (by kernel_rfl)).map
  fun ⟨a1, a2, a3, a4, a5, s, ⟨q1, q2, q3, q4⟩, h1, h2, h3, h4, h5, h6, _⟩ ⟨_, _, _, _, _, hs, _⟩ => ⟨⟨a1, a2, a3, a4, a5, s, q1, q2, q3, q4, h1, h2, h3, h4, h5, h6⟩, hs, rfl⟩
theorem opens_act37 : OpensW Tryz.prog 58 acV (fun w a => a.op.good w) :=
 (opensW_of_fields Tryz.underlying58 (opensWF_cons (n := 1) (opens_i64 Tryz.underlying3).w (by kernel_rfl) rfl (opensWF_cons (n := 21) opens_op (by kernel_rfl) rfl opensWF_nil)) (by kernel_rfl)).map
  fun w ⟨who, op, _⟩ ⟨_, h2, _⟩ => ⟨⟨who, op⟩, h2, rfl⟩
theorem good_at {w : World} {o : Oq} (h : o.good w) : OqAt w o := ⟨h.2.2.2.2.2.2.2.2.2.1.1, h.2.2.2.2.2.2.2.2.2.2.1⟩
theorem acs_good {w : World} {v : Value} {l : List Ac} (h : ReadsL acV 22 w v l) (hg : ∀ a ∈ l, a.op.good w) : ReadsAc w v l := ⟨h, fun a ha => good_at (hg a ha)⟩
structure Ss where
 b : Value × List Ba
 k : Value × List Ey
 p : Value × List Pe
def ssV (s : Ss) : List Value := [s.b.1, s.k.1, s.p.1]
def Ss.good (w : World) (s : Ss) : Prop := (ReadsL baV 5 w s.b.1 s.b.2 ∧ ∀ x ∈ s.b.2, x.fits) ∧ (ReadsL eyV 7 w s.k.1 s.k.2 ∧ ∀ x ∈ s.k.2, x.fits) ∧ (ReadsL peV 10 w s.p.1 s.p.2 ∧ ∀ x ∈ s.p.2, x.fits)
theorem opens_stateS : OpensW Tryz.prog 31 ssV Ss.good :=
 (opensW_of_fields Tryz.underlying31 (opensWF_cons (n := 1) (opensW_slice opens_ban.w baV_len (by omega) Tryz.underlying27 (by kernel_rfl)) (by kernel_rfl) rfl
  (opensWF_cons (n := 1) (opensW_slice opens_entry.w eyV_len (by omega) Tryz.underlying28 (by kernel_rfl)) (by kernel_rfl) rfl
  (opensWF_cons (n := 1) (opensW_slice opens_peer.w peV_len (by omega) Tryz.underlying29 (by kernel_rfl)) (by kernel_rfl) rfl opensWF_nil))) (by kernel_rfl)).map
  fun w ⟨b, k, p, _⟩ ⟨h1, h2, h3, _⟩ => ⟨⟨(b.1, b.2), (k.1, k.2), (p.1, p.2)⟩, ⟨⟨h1.1, h1.2⟩, ⟨h2.1, h2.2⟩, ⟨h3.1, h3.2⟩⟩, rfl⟩
end Go.Proofs.YtnplgagaoeckoaaGreat
