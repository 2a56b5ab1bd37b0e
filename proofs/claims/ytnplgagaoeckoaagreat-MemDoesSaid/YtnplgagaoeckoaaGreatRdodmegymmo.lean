/- Texts put together: LawMemA, LawMemB, LawMdA. No condition. -/
import Derived.Test.YtnplgagaoeckoaaGreatRqbdocepumj
import Derived.Test.YtnplgagaoeckoaaGreatRmjqxxdzmtd
import Derived.Test.YtnplgagaoeckoaaGreatRihppkpqfio
set_option maxRecDepth 100000
set_option linter.unusedSimpArgs false
set_option linter.unusedVariables false
namespace Go.Proofs.YtnplgagaoeckoaaGreat
open Go.RowKit
def aw0 : Pm := newP 1 4 [] [] []
def awO1 : Oq := ⟨1, 0, 0, 0, 0, 0, 0, 0, ⟨⟨⟨false, 0, 0⟩, 0⟩, false, 0, 0, 0, 0, 0⟩, (.slice none 0 0, []), (.slice none 0 0, []), false⟩
def awO2 : Oq := ⟨7, 0, 1, 0, 0, 0, 5, 0, ⟨⟨⟨false, 0, 0⟩, 0⟩, false, 0, 0, 0, 0, 0⟩, (.slice none 0 0, []), (.slice none 0 0, []), false⟩
def awO3 : Oq := ⟨2, 0, 0, 0, 0, 0, 0, 0, ⟨⟨⟨false, 0, 0⟩, 0⟩, false, 0, 0, 0, 0, 0⟩, (.slice none 0 0, []), (.slice none 0 0, []), false⟩
def awO4 : Oq := ⟨1, 1, 0, 0, 0, 0, 0, 0, ⟨⟨⟨false, 0, 0⟩, 0⟩, false, 0, 0, 0, 0, 0⟩, (.slice none 0 0, []), (.slice none 0 0, []), false⟩
theorem nil_op (w : World) (o : Oq) (h1 : o.bans = (.slice none 0 0, [])) (h2 : o.book = (.slice none 0 0, [])) : OqAt w o := by
 unfold OqAt; rw [h1, h2]; exact ⟨ReadsL.nil _ _ _ _ _, ReadsL.nil _ _ _ _ _⟩
set_option maxHeartbeats 16000000 in
theorem awake37_any (w : World) : Calls Tryz.prog 8 #[] w fun e w' => e = .returned (.bool true) ∧ Below w.heap.size w w' := by
 have HNEW := zh (fun (W : World) => memNew_any plainCf (by decide) (.slice none 0 0) (.slice none 0 0) (.slice none 0 0) [] [] [] W (ReadsL.nil _ _ _ _ _) (ReadsL.nil _ _ _ _ _) (ReadsL.nil _ _ _ _ _) (fun p hp => by cases hp) (by decide) (by decide) (by decide))
 have HD1 := zh (fun (X : Nat → Prop) (m : Mm) (W : World) (hX : ∀ b, X b → b < W.heap.size) (hm : HoldOff X W fun W => MmAt W m) (hd : DoOk m) => memDo_off X m awO1 3 W hX hm (nil_op _ _ rfl rfl) (by decide) hd (by decide) (by decide))
 have HD2 := zh (fun (X : Nat → Prop) (m : Mm) (W : World) (hX : ∀ b, X b → b < W.heap.size) (hm : HoldOff X W fun W => MmAt W m) (hd : DoOk m) => memDo_off X m awO2 4 W hX hm (nil_op _ _ rfl rfl) (by decide) hd (by decide) (by decide))
 have HM3 := zh (fun (m : Mm) (W : World) (hm : MmAt W m) => memMay_any m awO3 4 W hm (nil_op _ _ rfl rfl))
 have HM4 := zh (fun (m : Mm) (W : World) (hm : MmAt W m) => memMay_any m awO4 4 W hm (nil_op _ _ rfl rfl))
 have HHD := zh (fun (m : Mm) (W : World) (hm : MmAt W m) (hl : m.locks.2.length ≤ 1000) => memHeld_any m 3 W hm (by decide) hl)
 unfold awO1 at HD1; unfold awO2 at HD2; unfold awO3 at HM3; unfold awO4 at HM4
 simp only [show ((0 : Nat) : Int) = 0 from rfl] at HD1 HD2 HM3 HM4
 go_enter Tryz.func8, Tryz.ntmps8
 go_upto_region 2 with (first
  | (go_at_call 28; (with_reducible refine (refCfPlain_any _).mono ?_); rintro e w1 ⟨rfl, b1⟩)
  | (go_at_call 9; (with_reducible refine (HNEW.out _).mono ?_); rintro e w2 ⟨m0, rfl, hN0, hp0, b2⟩; have hm0 := hN0 w2 (fun _ _ _ _ h => h); obtain ⟨x1, x2, x3, x4, xc1, xc2, xc3, xc4, u1, u2, u3, u4⟩ := mm_slices hm0; rw [u1, u2, u3, u4]))
 obtain ⟨W3, hW3⟩ : ∃ W3, W3 = w2.alloc (.cells #[.int .i64 m0.inn, .int .i64 m0.out, .slice x1 m0.bans.2.length xc1, .slice x2 m0.book.2.length xc2, .slice x3 m0.parts.2.length xc3, .slice x4 m0.locks.2.length xc4] 40) := ⟨_, rfl⟩
 rw [← hW3]
 have hX3 : BlockIs W3 w2.heap.size [.int .i64 m0.inn, .int .i64 m0.out, .slice x1 m0.bans.2.length xc1, .slice x2 m0.book.2.length xc2, .slice x3 m0.parts.2.length xc3, .slice x4 m0.locks.2.length xc4] 40 := by subst hW3; exact BlockIs.new w2 _ _
 obtain ⟨X, hX⟩ : ∃ X, X = w2.heap.size := ⟨_, rfl⟩
 have hO3 : HoldOff (fun b => b = X) W3 (fun W => MmAt W m0) := (HoldOff.new hN0 (fun b hb => Or.inr (by omega))).step (by subst hW3; exact keep_alloc w2 _)
 have B3 : Below w.heap.size w W3 := by subst hW3; exact (below2 b1 b2).alloc (below2 b1 b2).size _
 have hXw : w.heap.size ≤ X := by have := (below2 b1 b2).size; omega
 rw [← hX] at hX3
 rw [← hX]
 clear hW3 hN0 hm0 hX
 have hS0 : SmallP m0.pl 20 := by rw [hp0]; exact newP_small _ _ _ _ _ (by decide) (by decide) (by decide)
 have hL0 : LocksOk m0.pl := by rw [hp0]; exact newP_locks _ _ _ _ _
 have hD1 := HD1.out (fun b => b = X) m0 W3 (fun b hb => by have := hX3.lt; omega) hO3 (doOk_of hS0 (by decide) hL0)
 simp only [u1, u2, u3, u4] at hD1
 obtain ⟨HDD1, HB3⟩ := zh2 hD1 B3
 clear hD1 hO3 B3 u1 u2 u3 u4 HNEW HD1
 obtain ⟨c0, c1, c2, c3, c4, c5⟩ := hX3.e6
 go_upto_region 3 with (first
  | (go_at_call 14; (with_reducible refine HDD1.out.mono ?_); rintro e w4 ⟨m1, v1, rfl, hO4, hV4, hp1, hq1, b4⟩; obtain ⟨y1, y2, y3, y4, yc1, yc2, yc3, yc4, u1, u2, u3, u4⟩ := mm_slices hO4.now; obtain ⟨_, va, vc, ev, _⟩ := ba_open hV4.now.1; obtain ⟨_, vka, vkc, ek, _⟩ := ey_open hV4.now.2; rw [u1, u2, u3, u4, ev, ek]; have hX4 := hX3.below b4; have B4 := below2 HB3.out b4)
  | (refine list_store_blk rfl 40 _ _ rfl X _ _ 40 hX4 rfl rfl (by kernel_rfl) rfl (by simp [Value.oneCell']) w.heap.size w B4 (by first | omega | exact hXw) ?_; intro w5 hX5 hoth5 hsz5 bw5))
 have hO5 : HoldOff (fun b => b = X) w5 (fun W => MmAt W m1) := hO4.step fun b arr T hb hh => hoth5 b arr T hb hh
 have hS1 : SmallP m1.pl 21 := by rw [hp1]; exact doP_small hS0 _ (by decide) _
 have hL1 : LocksOk m1.pl := by rw [hp1]; exact doP_locks hL0 _ _
 have hD2 := HD2.out (fun b => b = X) m1 w5 (fun b hb => by have := hX5.lt; omega) hO5 (doOk_of hS1 (by decide) hL1)
 simp only [u1, u2, u3, u4] at hD2
 obtain ⟨HDD2, HB5, HP1⟩ := zh3 hD2 bw5 hp1
 clear hD2 hO5 hO4 hV4 hq1 bw5 hoth5 u1 u2 u3 u4 ev ek HD2 c0 c1 c2 c3 c4 c5 hX4 hX3
 obtain ⟨c0, c1, c2, c3, c4, c5⟩ := hX5.e6
 go_upto_region 4 with (first
  | (go_at_call 14; (with_reducible refine HDD2.out.mono ?_); rintro e w6 ⟨m2, v2, rfl, hO6, hV6, hp2, hq2, b6⟩; obtain ⟨z1, z2, z3, z4, zc1, zc2, zc3, zc4, u1, u2, u3, u4⟩ := mm_slices hO6.now; obtain ⟨_, wa, wc, ev, _⟩ := ba_open hV6.now.1; obtain ⟨_, wka, wkc, ek, _⟩ := ey_open hV6.now.2; rw [u1, u2, u3, u4, ev, ek]; have hX6 := (hX5.below b6).alloc' (.cells #[.int .i64 0, .bool false, .int .u64 0, .int .u64 0, .int .i64 0, .bool false, .int .i64 0, .int .i64 0, .int .i64 0, .int .i64 0, .int .i64 0, .slice none 0 0, .slice none 0 0] 54); have hY6 := BlockIs.new w6 [.int .i64 0, .bool false, .int .u64 0, .int .u64 0, .int .i64 0, .bool false, .int .i64 0, .int .i64 0, .int .i64 0, .int .i64 0, .int .i64 0, .slice none 0 0, .slice none 0 0] 54; have B6 := below2 HB5.out b6)
  | (refine list_store_blk rfl 40 _ _ rfl X _ _ 40 hX6 rfl rfl (by kernel_rfl) rfl (by simp [Value.oneCell']) w.heap.size w (B6.alloc B6.size _) (by first | omega | exact hXw) ?_; intro w7 hX7 hoth7 hsz7 bw7)
  | (refine list_store_blk rfl 54 _ _ rfl w6.heap.size _ _ 54 (hoth7 _ _ _ (by have := hX5.lt; have := b6.size; omega) hY6) rfl rfl (by kernel_rfl) rfl (by simp [Value.oneCell']) w.heap.size w bw7 B6.size ?_; intro w8 hY8 hoth8 hsz8 bw8))
 have hX8 := hoth8 _ _ _ (by have := hX5.lt; have := b6.size; omega) hX7
 have hM8 : MmAt w8 m2 := hO6 w8 fun b arr T hb hh => hoth8 b arr T (by have := hh.lt; omega) (hoth7 b arr T hb (hh.alloc' _))
 have hp2' : m2.pl = (doP (doP aw0 awO1 3).1 awO2 4).1 := by rw [hp2, HP1.out, hp0]; rfl
 have hq2' : v2.pl = (doP (doP aw0 awO1 3).1 awO2 4).2 := by rw [hq2, HP1.out, hp0]; rfl
 have hinn : m2.inn = 5 := by
  exact (congrArg Pm.inn hp2').trans (by kernel_rfl)
 have hvn : v2.n = 1 := by
  exact (congrArg Vp.n hq2').trans (by kernel_rfl)
 have hm3 : mayP m2.pl awO3 = false := by rw [hp2']; kernel_rfl
 have hm4 : mayP m2.pl awO4 = true := by rw [hp2']; kernel_rfl
 have hhl : (heldP m2.pl 3).length = 1 := by rw [hp2']; kernel_rfl
 have hll : m2.locks.2.length ≤ 1000 := by
  have : m2.locks.2.length = m2.pl.locks.length := by unfold Mm.pl; simp
  rw [this, hp2']; decide
 have hM3 := fun (W : World) (hb : Below w8.heap.size w8 W) => HM3.out m2 W (hM8.below hb)
 have hM4 := fun (W : World) (hb : Below w8.heap.size w8 W) => HM4.out m2 W (hM8.below hb)
 have hHD := fun (W : World) (hb : Below w8.heap.size w8 W) => HHD.out m2 W (hM8.below hb) hll
 rw [show mayP m2.pl ⟨2, 0, 0, 0, 0, 0, 0, 0, ⟨⟨⟨false, 0, 0⟩, 0⟩, false, 0, 0, 0, 0, 0⟩, (.slice none 0 0, []), (.slice none 0 0, []), false⟩ = false from hm3] at hM3
 rw [show mayP m2.pl ⟨1, 1, 0, 0, 0, 0, 0, 0, ⟨⟨⟨false, 0, 0⟩, 0⟩, false, 0, 0, 0, 0, 0⟩, (.slice none 0 0, []), (.slice none 0 0, []), false⟩ = true from hm4] at hM4
 rw [hhl] at hHD
 simp only [u1, u2, u3, u4, hinn] at hM3 hM4 hHD
 rw [hinn] at hX8; rw [hvn] at hY8
 obtain ⟨HM3', HM4', HHD', HB8⟩ := zh4 hM3 hM4 hHD bw8
 have hYX : w6.heap.size < w8.heap.size := hY8.lt
 clear hM3 hM4 hHD HM3 HM4 HHD hM8 hp2 hq2 hp2' hq2' hm3 hm4 hhl hll hinn hvn u1 u2 u3 u4 ev ek hO6 hV6 hoth7 hoth8 bw7 bw8 hX6 hY6 hX7 c0 c1 c2 c3 c4 c5
 obtain ⟨c0, c1, c2, c3, c4, c5⟩ := hX8.e6; have d0 := hY8.c0
 go_wp2_with (first
  | (go_at_call 12; (first | (with_reducible refine (HM3'.out _ (Below.refl _ _)).mono ?_) | (with_reducible refine (HM4'.out _ b9).mono ?_)); rintro e w10 ⟨rfl, b10⟩; have b9 := (by first | exact below2 b9 b10 | exact b10 : Below w8.heap.size w8 w10); have hX10 := hX8.below b9; have hY10 := hY8.below b9; clear c0 c1 c2 c3 c4 c5 d0; obtain ⟨c0, c1, c2, c3, c4, c5⟩ := hX10.e6; have d0 := hY10.c0)
  | (go_at_call 18; (with_reducible refine (HHD'.out _ b9).mono ?_); rintro e w11 ⟨ha, hc, rfl, hr, b11⟩; have b9 := below2 b9 b11))
 go_ret
 exact ⟨rfl, below2 HB8.out b9⟩
end Go.Proofs.YtnplgagaoeckoaaGreat
namespace Go.Proofs.YtnplgagaoeckoaaGreat
open Go.RowKit Go.Lib
section
variable {P : Program} {ops : Array Oper} {rest : List Oper} {o : Oper} {a : Act} {w : World} {Q : Exit → Act → World → Prop}
/-- a load that its guard passes over -/
theorem list_skip_ld (ty : TypeId) (x : Operand) (ho : o.op = .load ty x) (hw : Region.wanted o (yielded ops a.tmps) = false) (h : wpList P ops Q rest (a.put o.dst undef) w) : wpList P ops Q (o :: rest) a w :=
 wpList_step fun K hK => by rw [if_neg (by rw [hw]; decide)]; exact hK _ _ h
end
set_option maxHeartbeats 16000000 in
theorem memDoes_no (c : Cf) (vb vk vp v : Value) (bl : List Ba) (kl : List Ey) (pl : List Pe) (l : List Ac) (w : World) (hb : ReadsL baV 5 w vb bl) (hk : ReadsL eyV 7 w vk kl) (hp : ReadsL peV 10 w vp pl) (hl : ReadsAc w v l)
  (hno : ¬ (acLight l = true ∧ (bl.length ≤ 20 ∧ kl.length ≤ 20 ∧ pl.length ≤ 20) ∧ cfRight c = true)) :
  Calls Tryz.prog 3 #[.agg #[.int .i64 c.mi, .int .i64 c.mo, .int .i64 c.sh, .int .i64 c.mb, .int .i64 c.mbk, .int .u64 c.secret, .int .i64 c.qg, .int .i64 c.qp, .int .i64 c.qw, .int .i64 c.qt, .int .i64 c.half, .int .i64 c.limit, .int .i64 c.banfor, .int .i64 c.base, .int .i64 c.cap, .int .i64 c.jitter], .agg #[vb, vk, vp], v] w fun e w' => e = .returned (.bool true) ∧ Below w.heap.size w w' := by
 have HLI := zh (fun (W : World) (hb : Below w.heap.size w W) => light37_any v l W (hl.below hb))
 have HSM := zh (fun (W : World) (hB : Below w.heap.size w W) => small37_any vb vk vp bl kl pl W (ReadsL.below hb hB) (ReadsL.below hk hB) (ReadsL.below hp hB))
 obtain ⟨_, a0, c0, e0, _⟩ := acs_open hl
 obtain ⟨_, a1, c1, e1, _⟩ := ba_open hb
 obtain ⟨_, a2, c2, e2, _⟩ := ey_open hk
 obtain ⟨_, a3, c3, e3, _⟩ := pes_open hp
 subst e0 e1 e2 e3
 obtain ⟨n1, hn1, n2, hn2, n3, hn3⟩ := nz3 bl.length kl.length pl.length
 simp only [← hn1, ← hn2, ← hn3] at HSM hno ⊢
 clear hl hb hk hp hn1 hn2 hn3
 cases hli : acLight l with
 | false =>
  rw [hli] at HLI
  clear hno hli
  go_enter Tryz.func3, Tryz.ntmps3
  go_upto_region 1 with fail
  refine wpn2 fun W3 B3 hBc hBs _ => ?_
  obtain ⟨s0, s1, s2⟩ := hBs.e3
  go_wp2_with (first
   | (go_at_call 5; (with_reducible refine (HLI.out _ B3).mono ?_); rintro e w1 ⟨rfl, b1⟩; have B1 := below2 B3 b1; have hBc1 := hBc.below b1; have hBs1 := hBs.below b1; clear s0 s1 s2; obtain ⟨s0, s1, s2⟩ := hBs1.e3)
   | (refine list_skip_ld 31 _ rfl (by rfl) ?_)
   | (refine list_skip_ld 26 _ rfl (by rfl) ?_)
   | (go_at_call 8; (with_reducible refine (awake37_any _).mono ?_); rintro e w9 ⟨rfl, b9⟩; have B9 := below2 B1 b9))
  go_ret
  exact ⟨rfl, B9⟩
 | true =>
  rw [hli] at HLI
  by_cases hsm : n1 ≤ 20 ∧ n2 ≤ 20 ∧ n3 ≤ 20
  ·have hcr : cfRight c = false := by
    cases h : cfRight c with
    | false => rfl
    | true => exact absurd ⟨hli, hsm, h⟩ hno
   rw [decide_eq_true hsm.1, decide_eq_true hsm.2.1, decide_eq_true hsm.2.2] at HSM
   simp only [Bool.and_self] at HSM
   have HCR := zh (fun (W : World) => refCfRight_any c W)
   rw [hcr] at HCR
   clear hno hli hsm hcr
   go_enter Tryz.func3, Tryz.ntmps3
   go_upto_region 1 with fail
   refine wpn2 fun W3 B3 hBc hBs _ => ?_
   obtain ⟨s0, s1, s2⟩ := hBs.e3
   go_wp2_with (first
    | (go_at_call 5; (with_reducible refine (HLI.out _ B3).mono ?_); rintro e w1 ⟨rfl, b1⟩; have B1 := below2 B3 b1; have hBc1 := hBc.below b1; have hBs1 := hBs.below b1; clear s0 s1 s2; obtain ⟨s0, s1, s2⟩ := hBs1.e3)
    | (go_at_call 6; (with_reducible refine (HSM.out _ B1).mono ?_); rintro e w2 ⟨rfl, b2⟩; have B2 := below2 B1 b2; have hBc2 := hBc1.below b2; have hBs2 := hBs1.below b2; clear s0 s1 s2; obtain ⟨s0, s1, s2⟩ := hBs2.e3)
    | (refine list_load_blk_w (by rfl) 26 _ rfl w.heap.size _ 26 hBc2 rfl Tryz.underlying26 (by kernel_rfl) ?_)
    | (go_at_call 7; (with_reducible refine (HCR.out _).mono ?_); rintro e w3 ⟨rfl, b3⟩; have B4 := below2 B2 b3; have hBc3 := hBc2.below b3; have hBs3 := hBs2.below b3)
    | (go_at_call 8; (with_reducible refine (awake37_any _).mono ?_); rintro e w9 ⟨rfl, b9⟩; have B9 := below2 B4 b9))
   go_ret
   exact ⟨rfl, B9⟩
  ·have hq : (decide (n1 ≤ 20) && (decide (n2 ≤ 20) && decide (n3 ≤ 20))) = false := by
    rw [← decide_eq_true_iff (p := n1 ≤ 20), ← decide_eq_true_iff (p := n2 ≤ 20), ← decide_eq_true_iff (p := n3 ≤ 20)] at hsm
    revert hsm
    cases decide (n1 ≤ 20) <;> cases decide (n2 ≤ 20) <;> cases decide (n3 ≤ 20) <;> simp
   rw [hq] at HSM
   clear hno hli hsm hq
   go_enter Tryz.func3, Tryz.ntmps3
   go_upto_region 1 with fail
   refine wpn2 fun W3 B3 hBc hBs _ => ?_
   obtain ⟨s0, s1, s2⟩ := hBs.e3
   go_wp2_with (first
    | (go_at_call 5; (with_reducible refine (HLI.out _ B3).mono ?_); rintro e w1 ⟨rfl, b1⟩; have B1 := below2 B3 b1; have hBc1 := hBc.below b1; have hBs1 := hBs.below b1; clear s0 s1 s2; obtain ⟨s0, s1, s2⟩ := hBs1.e3)
    | (go_at_call 6; (with_reducible refine (HSM.out _ B1).mono ?_); rintro e w2 ⟨rfl, b2⟩; have B2 := below2 B1 b2; have hBc2 := hBc1.below b2; have hBs2 := hBs1.below b2; clear s0 s1 s2; obtain ⟨s0, s1, s2⟩ := hBs2.e3)
    | (refine list_skip_ld 26 _ rfl (by rfl) ?_)
    | (go_at_call 8; (with_reducible refine (awake37_any _).mono ?_); rintro e w9 ⟨rfl, b9⟩; have B9 := below2 B2 b9))
   go_ret
   exact ⟨rfl, B9⟩
end Go.Proofs.YtnplgagaoeckoaaGreat
