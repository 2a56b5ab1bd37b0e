/- Texts put together: LawMdB. No condition. -/
import Derived.Test.YtnplgagaoeckoaaGreatRdodmegymmo
import Derived.Deep.DeepCutAuto
import Derived.Deep.CutRange
set_option maxRecDepth 100000
set_option linter.unusedSimpArgs false
set_option linter.unusedVariables false
namespace Go.Proofs.YtnplgagaoeckoaaGreat
open Go.RowKit Go.Lib
theorem Hold2.future {X : Nat → Prop} {w0 w : World} {P : World → Prop} (h : Hold2 X w0 w P) : Hold2 (fun b => X b ∨ w.heap.size ≤ b) w0 w P := fun W hW =>
 h W ⟨fun b arr T hx hh => hW.1 b arr T (fun hq => hq.elim hx fun h1 => by have := hh.lt; omega) hh, hW.2⟩
theorem held_below {lo hi : Nat} {w w' : World} {P : World → Prop} (h : ∀ W, (∀ b arr T, lo ≤ b → b < hi → BlockIs w b arr T → BlockIs W b arr T) → P W) (hb : Below w.heap.size w w') : ∀ W, (∀ b arr T, lo ≤ b → b < hi → BlockIs w' b arr T → BlockIs W b arr T) → P W := fun W hk => h W fun b arr T h1 h2 h3 => hk b arr T h1 h2 (h3.below hb)
theorem held_below2 {lo hi : Nat} {w0 w w' : World} {P : World → Prop} (h : ∀ W, Below w0.heap.size w0 W → (∀ b arr T, lo ≤ b → b < hi → BlockIs w b arr T → BlockIs W b arr T) → P W) (hb : Below w.heap.size w w') : ∀ W, Below w0.heap.size w0 W → (∀ b arr T, lo ≤ b → b < hi → BlockIs w' b arr T → BlockIs W b arr T) → P W := fun W h0 hk => h W h0 fun b arr T h1 h2 h3 => hk b arr T h1 h2 (h3.below hb)
theorem rangeAt_belowM {w w' : World} {b o : Nat} {cs : List Value} (h : w.rangeAt b o cs) (hb : Below w.heap.size w w') (hlt : b < w.heap.size) : w'.rangeAt b o cs := fun j u hj => keep hb hlt (h j u hj)
theorem AcIn.opM {w : World} {b o : Nat} {a : Ac} (h : AcIn w b o a) : w.rangeAt b (o + 1) [.int .i64 a.op.kind, .int .i64 a.op.lock, .int .i64 a.op.lk, .int .i64 a.op.ls, .int .i64 a.op.lt, .int .i64 a.op.old, .int .i64 a.op.new, .int .i64 a.op.vn, .bool a.op.pe.en.ad.v6, .int .u64 a.op.pe.en.ad.hi, .int .u64 a.op.pe.en.ad.lo, .int .i64 a.op.pe.en.port, .bool a.op.pe.came, .int .i64 a.op.pe.since, .int .i64 a.op.pe.pts, .int .i64 a.op.pe.at_, .int .i64 a.op.pe.ping, .int .i64 a.op.pe.work, a.op.bans.1, a.op.book.1, .bool a.op.mark] := fun j u hj => by
 have := h (j + 1) u (by unfold acV; simpa using hj)
 rwa [show o + (j + 1) = o + 1 + j by omega] at this
def MdNew (w : World) (P0 : Pm) (s7 s8 : Value) (wx : World) : Prop := ∃ (X Y : Nat) (m q : Mm), s7 = .pointer (some ⟨X, 0, none⟩) ∧ s8 = .pointer (some ⟨Y, 0, none⟩) ∧ X ≠ Y ∧ BlockIs wx X [.int .i64 m.inn, .int .i64 m.out, m.bans.1, m.book.1, m.parts.1, m.locks.1] 40 ∧ BlockIs wx Y [.int .i64 q.inn, .int .i64 q.out, q.bans.1, q.book.1, q.parts.1, q.locks.1] 40 ∧ Hold2 (fun b => b = X ∨ b = Y) w wx (fun W => MmAt W m) ∧ Hold2 (fun b => b = X ∨ b = Y) w wx (fun W => MmAt W q) ∧ m.pl = P0 ∧ q.pl = P0 ∧ Below w.heap.size w wx ∧ w.heap.size ≤ X ∧ w.heap.size ≤ Y
theorem md_fin3 {w wx w20 w21 : World} {P0 : Pm} {X Y : Nat} {m q : Mm} {y1 y2 y3 y4 z1 z2 z3 z4 : Value} {lo hi lo2 hi2 : Nat} (hne : X ≠ Y) (u1 : m.bans.1 = y1) (u2 : m.book.1 = y2) (u3 : m.parts.1 = y3) (u4 : m.locks.1 = y4) (v1 : q.bans.1 = z1) (v2 : q.book.1 = z2) (v3 : q.parts.1 = z3) (v4 : q.locks.1 = z4)
  (hX : BlockIs w20 X [.int .i64 m.inn, .int .i64 m.out, y1, y2, y3, y4] 40) (hY : BlockIs w21 Y [.int .i64 q.inn, .int .i64 q.out, z1, z2, z3, z4] 40) (h20 : ∀ k arr u, k ≠ X → BlockIs wx k arr u → BlockIs w20 k arr u) (h21 : ∀ k arr u, k ≠ Y → BlockIs w20 k arr u → BlockIs w21 k arr u)
  (hM : ∀ W, (∀ b arr T, lo ≤ b → b < hi → BlockIs wx b arr T → BlockIs W b arr T) → MmAt W m) (hQ : ∀ W, Below w.heap.size w W → (∀ b arr T, lo2 ≤ b → b < hi2 → BlockIs wx b arr T → BlockIs W b arr T) → MmAt W q)
  (x1 : X < lo ∨ hi ≤ X) (x2 : Y < lo ∨ hi ≤ Y) (x3 : X < lo2 ∨ hi2 ≤ X) (x4 : Y < lo2 ∨ hi2 ≤ Y) (hp : m.pl = P0) (hq : q.pl = P0) (hb : Below w.heap.size w w21) (l1 : w.heap.size ≤ X) (l2 : w.heap.size ≤ Y) : MdNew w P0 (.pointer (some ⟨X, 0, none⟩)) (.pointer (some ⟨Y, 0, none⟩)) w21 :=
 ⟨X, Y, m, q, rfl, rfl, hne, by rw [u1, u2, u3, u4]; exact h21 _ _ _ hne hX, by rw [v1, v2, v3, v4]; exact hY,
  fun W hW => hM W fun b arr T h1 h2 h3 => hW.1 b arr T (by omega) (h21 b arr T (by omega) (h20 b arr T (by omega) h3)),
  fun W hW => hQ W hW.2 fun b arr T h1 h2 h3 => hW.1 b arr T (by omega) (h21 b arr T (by omega) (h20 b arr T (by omega) h3)), hp, hq, hb, l1, l2⟩
def MdDid (X Y : Nat) (w w7 : World) (r : Pm × Vp) (s11 s12 : Value) (wx : World) : Prop := ∃ (A1 A2 : Nat) (m2 : Mm) (v2 : Vm), s11 = .pointer (some ⟨A1, 0, none⟩) ∧ s12 = .pointer (some ⟨A2, 0, none⟩) ∧ BlockIs wx A1 [.int .i64 m2.inn, .int .i64 m2.out, m2.bans.1, m2.book.1, m2.parts.1, m2.locks.1] 40 ∧ BlockIs wx A2 [.int .i64 v2.n, .bool v2.pe.en.ad.v6, .int .u64 v2.pe.en.ad.hi, .int .u64 v2.pe.en.ad.lo, .int .i64 v2.pe.en.port, .bool v2.pe.came, .int .i64 v2.pe.since, .int .i64 v2.pe.pts, .int .i64 v2.pe.at_, .int .i64 v2.pe.ping, .int .i64 v2.pe.work, v2.bans.1, v2.book.1] 54 ∧ A1 ≠ A2 ∧ w7.heap.size ≤ A1 ∧ w7.heap.size ≤ A2 ∧ Hold2 (fun b => b = X ∨ b = Y) w wx (fun W => MmAt W m2) ∧ Hold2 (fun b => b = X ∨ b = Y) w wx (fun W => VmAt W v2) ∧ m2.pl = r.1 ∧ v2.pl = r.2 ∧ Below w7.heap.size w7 wx ∧ Below w.heap.size w wx
theorem md_finDo {X Y : Nat} {w w7 wx w20 w21 : World} {r : Pm × Vp} {A1 A2 : Nat} {m2 : Mm} {v2 : Vm} {y1 y2 y3 y4 y5 y6 : Value} {XN : Nat → Prop} (hne : A1 ≠ A2) (l1 : w7.heap.size ≤ A1) (l2 : w7.heap.size ≤ A2) (u1 : m2.bans.1 = y1) (u2 : m2.book.1 = y2) (u3 : m2.parts.1 = y3) (u4 : m2.locks.1 = y4) (u5 : v2.bans.1 = y5) (u6 : v2.book.1 = y6)
  (hA : BlockIs w20 A1 [.int .i64 m2.inn, .int .i64 m2.out, y1, y2, y3, y4] 40) (hC : BlockIs w21 A2 [.int .i64 v2.n, .bool v2.pe.en.ad.v6, .int .u64 v2.pe.en.ad.hi, .int .u64 v2.pe.en.ad.lo, .int .i64 v2.pe.en.port, .bool v2.pe.came, .int .i64 v2.pe.since, .int .i64 v2.pe.pts, .int .i64 v2.pe.at_, .int .i64 v2.pe.ping, .int .i64 v2.pe.work, y5, y6] 54) (h20 : ∀ k arr u, k ≠ A1 → BlockIs wx k arr u → BlockIs w20 k arr u) (h21 : ∀ k arr u, k ≠ A2 → BlockIs w20 k arr u → BlockIs w21 k arr u)
  (hM : Hold2 XN w wx (fun W => MmAt W m2)) (hV : Hold2 XN w wx (fun W => VmAt W v2)) (hXY : ∀ b, b = X ∨ b = Y → XN b) (x1 : XN A1) (x2 : XN A2) (hp : m2.pl = r.1) (hq : v2.pl = r.2) (hb : Below w7.heap.size w7 w21) (hbw : Below w.heap.size w w21) : MdDid X Y w w7 r (.pointer (some ⟨A1, 0, none⟩)) (.pointer (some ⟨A2, 0, none⟩)) w21 :=
 have hk : KeepOff XN wx w21 := fun b arr T hx hh => h21 b arr T (fun e => hx (e ▸ x2)) (h20 b arr T (fun e => hx (e ▸ x1)) hh)
 ⟨A1, A2, m2, v2, rfl, rfl, by rw [u1, u2, u3, u4]; exact h21 _ _ _ hne hA, by rw [u5, u6]; exact hC, hne, l1, l2, (hM.step hk).mono hXY, (hV.step hk).mono hXY, hp, hq, hb, hbw⟩
section
variable {P : Program} {ops : Array Oper} {md : Region.Mode} {S : World → Prop} {Q : Exit → Act → World → Prop} {L : Nat}
theorem hldL_store {i f : Nat} {o : Oper} {listed : Array Bool} {a : Act} {w : World} (hi : ops[i]? = some o) (hr : Region.ready md ops listed = [i]) (hL : ¬ (listed.setIfInBounds i true).getD L true = false) (hgd : o.guard = none) (ty : TypeId) (x y : Operand) (ho : o.op = .store ty x y) (g : Nat) (old cells : List Value) (t : TypeId) (hB : BlockIs w g old t)
  (hx : a.eval x = .pointer (some ⟨g, 0, none⟩)) (hy : a.eval y = .agg cells.toArray) (hn : (P.info? ty).map (·.size) = some cells.length) (hl : old.length = cells.length) (h1 : cells.all (·.oneCell') = true) (B : Nat) (w0 : World) (hbel : Below B w0 w) (hBg : B ≤ g)
  (h : ∀ w', BlockIs w' g cells t → (∀ k arr u, k ≠ g → BlockIs w k arr u → BlockIs w' k arr u) → Below B w0 w' → hldL P md ops Q S L f (listed.setIfInBounds i true) (a.put o.dst undef) w') : hldL P md ops Q S L (f + 1) listed a w :=
 hldL_one hi hr fun K' hK => step_store_blk hgd ty x y ho g old cells t hB hx hy hn hl h1 B w0 hbel hBg fun w' a1 a2 _ a4 => hK.out _ _ (fun h => absurd h hL) fun _ => h w' a1 a2 a4
end
section
variable {P : Program} {ops : Array Oper} {md : Region.Mode} {S : World → Prop} {Q : Exit → Act → World → Prop}
theorem headH_three {n i j k : Nat} {o p q : Oper} {L : Array Bool → Act → World → Prop} {f : Nat} {listed : Array Bool} {a : Act} {w : World} (hi : ops[i]? = some o) (hj : ops[j]? = some p) (hk : ops[k]? = some q) (hin : Nat.blt i n = true) (hjn : Nat.blt j n = true) (hkn : Nat.blt k n = true) (hr : Region.ready md ops listed = [i, j, k])
  (h : ∀ K' : Act → World → Prop, Hid (∀ a w, S w → (S w → headH P md ops Q S n L f (listed.setIfInBounds i true) a w) → K' a w) → if Region.wanted o (yielded ops a.tmps) = true then Oper.wp P o a w K' Q else K' (a.put o.dst undef) w)
  (h' : ∀ K' : Act → World → Prop, Hid (∀ a w, S w → (S w → headH P md ops Q S n L f (listed.setIfInBounds j true) a w) → K' a w) → if Region.wanted p (yielded ops a.tmps) = true then Oper.wp P p a w K' Q else K' (a.put p.dst undef) w)
  (h'' : ∀ K' : Act → World → Prop, Hid (∀ a w, S w → (S w → headH P md ops Q S n L f (listed.setIfInBounds k true) a w) → K' a w) → if Region.wanted q (yielded ops a.tmps) = true then Oper.wp P q a w K' Q else K' (a.put q.dst undef) w) :
  headH P md ops Q S n L (f + 1) listed a w := by
 refine ⟨by rw [hr]; simp, fun g hg => ?_⟩
 rw [hr] at hg
 rcases List.mem_cons.1 hg with rfl | hg
 ·exact ⟨Eq.mp Nat.blt_eq hin, wpOp_step hi fun K' hK => h K' fun a w hS hW => hK a w ⟨hS, hW hS⟩⟩
 rcases List.mem_cons.1 hg with rfl | hg
 ·exact ⟨Eq.mp Nat.blt_eq hjn, wpOp_step hj fun K' hK => h' K' fun a w hS hW => hK a w ⟨hS, hW hS⟩⟩
 ·obtain rfl : g = k := by simpa using hg
  exact ⟨Eq.mp Nat.blt_eq hkn, wpOp_step hk fun K' hK => h'' K' fun a w hS hW => hK a w ⟨hS, hW hS⟩⟩
end
set_option maxHeartbeats 64000000 in
theorem memDoes_yes (c : Cf) (hsec : c.secret < 18446744073709551616) (vb vk vp v : Value) (bl : List Ba) (kl : List Ey) (pl : List Pe) (l : List Ac) (w : World) (hb : ReadsL baV 5 w vb bl) (hk : ReadsL eyV 7 w vk kl) (hp : ReadsL peV 10 w vp pl) (hl : ReadsAc w v l)
  (hfp : ∀ p ∈ pl, p.en.ad.fits) (hli : acLight l = true) (hsm : bl.length ≤ 20 ∧ kl.length ≤ 20 ∧ pl.length ≤ 20) (hcr : cfRight c = true) :
  Calls Tryz.prog 3 #[.agg #[.int .i64 c.mi, .int .i64 c.mo, .int .i64 c.sh, .int .i64 c.mb, .int .i64 c.mbk, .int .u64 c.secret, .int .i64 c.qg, .int .i64 c.qp, .int .i64 c.qw, .int .i64 c.qt, .int .i64 c.half, .int .i64 c.limit, .int .i64 c.banfor, .int .i64 c.base, .int .i64 c.cap, .int .i64 c.jitter], .agg #[vb, vk, vp], v] w fun e w' => e = .returned (.bool true) ∧ Below w.heap.size w w' := by
 have HLI := zh (fun (W : World) (hb : Below w.heap.size w W) => light37_any v l W (hl.below hb))
 rw [hli] at HLI
 have HSM := zh (fun (W : World) (hB : Below w.heap.size w W) => small37_any vb vk vp bl kl pl W (ReadsL.below hb hB) (ReadsL.below hk hB) (ReadsL.below hp hB))
 rw [decide_eq_true hsm.1, decide_eq_true hsm.2.1, decide_eq_true hsm.2.2] at HSM
 simp only [Bool.and_self] at HSM
 have HCR := zh (fun (W : World) => refCfRight_any c W)
 rw [hcr] at HCR
 have HNEW := zh (fun (W : World) (hB : Below w.heap.size w W) => memNew_any c hsec vb vk vp bl kl pl W (ReadsL.below hb hB) (ReadsL.below hk hB) (ReadsL.below hp hB) hfp (by omega) (by omega) (by omega))
 have HRNW := zh (fun (W : World) (hB : Below w.heap.size w W) => refNew_any c hsec vb vk vp bl kl pl W (ReadsL.below hb hB) (ReadsL.below hk hB) (ReadsL.below hp hB) hfp (by omega) (by omega) (by omega))
 have HARB := zh (fun (W : World) (hB : Below w.heap.size w W) => ReadsL.below hb hB)
 have HARK := zh (fun (W : World) (hB : Below w.heap.size w W) => ReadsL.below hk hB)
 have HSMP := zh (newP_small c.secret c.sh bl kl pl hsm.1 hsm.2.1 hsm.2.2)
 have HLKP := zh (newP_locks c.secret c.sh bl kl pl)
 have HL0 := zh hl
 have HLG := zh (acLight_of hli)
 have hlen60 := (acLight_of hli).1
 obtain ⟨hlm, a0, c0, e0, hz3⟩ := acs_open hl
 obtain ⟨_, a1, c1, e1, _⟩ := ba_open hb
 obtain ⟨_, a2, c2, e2, _⟩ := ey_open hk
 obtain ⟨_, a3, c3, e3, _⟩ := pes_open hp
 subst e0 e1 e2 e3
 obtain ⟨P0, hP0⟩ : ∃ P, P = newP c.secret c.sh bl kl pl := ⟨_, rfl⟩
 rw [← hP0] at HSMP HLKP HNEW HRNW
 generalize bl.length = n1 at *
 generalize kl.length = n2 at *
 generalize pl.length = n3 at *
 clear hl hb hk hp hli hsm hcr hfp hsec hP0
 go_enter Tryz.func3, Tryz.ntmps3
 go_upto_region 1 with fail
 refine wpn2 fun W3 B3 hBc hBs _ => ?_
 obtain ⟨s0, s1, s2⟩ := hBs.e3
 go_upto_region 3 with (first
  | (go_at_call 5; (with_reducible refine (HLI.out _ B3).mono ?_); rintro e w1 ⟨rfl, b1⟩; have B1 := below2 B3 b1; have hBc1 := hBc.below b1; have hBs1 := hBs.below b1; clear s0 s1 s2; obtain ⟨s0, s1, s2⟩ := hBs1.e3)
  | (go_at_call 6; (with_reducible refine (HSM.out _ B1).mono ?_); rintro e w2 ⟨rfl, b2⟩; have B2 := below2 B1 b2; have hBc2 := hBc1.below b2; have hBs2 := hBs1.below b2; clear s0 s1 s2; obtain ⟨s0, s1, s2⟩ := hBs2.e3)
  | (refine list_load_blk_w (by rfl) 26 _ rfl w.heap.size _ 26 hBc2 rfl Tryz.underlying26 (by kernel_rfl) ?_)
  | (go_at_call 7; (with_reducible refine (HCR.out _).mono ?_); rintro e w3 ⟨rfl, b3⟩; have B4 := below2 B2 b3; have hBc3 := hBc2.below b3; have hBs3 := hBs2.below b3))
 obtain ⟨HB4, HBC, HBS⟩ := zh3 B4 hBc3 hBs3
 clear s0 s1 s2 B3 B1 B2 B4 b1 b2 b3 hBc hBc1 hBc2 hBc3 hBs hBs1 hBs2 hBs3 HLI HSM HCR
 go_cut [7, 8] (fun s7 s8 wx => MdNew w P0 s7 s8 wx)
 case first =>
  refine wp_region_noPanic ?_
  have hS0 : (fun wq => wq.rangeAt w.heap.size 0 [.int .i64 c.mi, .int .i64 c.mo, .int .i64 c.sh, .int .i64 c.mb, .int .i64 c.mbk, .int .u64 c.secret, .int .i64 c.qg, .int .i64 c.qp, .int .i64 c.qw, .int .i64 c.qt, .int .i64 c.half, .int .i64 c.limit, .int .i64 c.banfor, .int .i64 c.base, .int .i64 c.cap, .int .i64 c.jitter] ∧ wq.rangeAt (w.heap.size + 1) 0 [.slice a1 n1 c1, .slice a2 n2 c2, .slice a3 n3 c3]) w3.drew := ⟨blk_range (BlockIs.drew' HBC.out), blk_range (BlockIs.drew' HBS.out)⟩
  refine wp_region_headH (fun wq => wq.rangeAt w.heap.size 0 [.int .i64 c.mi, .int .i64 c.mo, .int .i64 c.sh, .int .i64 c.mb, .int .i64 c.mbk, .int .u64 c.secret, .int .i64 c.qg, .int .i64 c.qp, .int .i64 c.qw, .int .i64 c.qt, .int .i64 c.half, .int .i64 c.limit, .int .i64 c.banfor, .int .i64 c.base, .int .i64 c.cap, .int .i64 c.jitter] ∧ wq.rangeAt (w.heap.size + 1) 0 [.slice a1 n1 c1, .slice a2 n2 c2, .slice a3 n3 c3]) 8 (by kernel_rfl) (by kernel_rfl) ?_
  have B4 : Below w.heap.size w w3.drew := HB4.out.drew
  have hl4 : w.heap.size + 1 < w3.drew.heap.size := HBS.out.lt
  generalize w3.drew = w4 at *
  have HSK := zh (show ∀ W, Below w4.heap.size w4 W → (fun wq => wq.rangeAt w.heap.size 0 [.int .i64 c.mi, .int .i64 c.mo, .int .i64 c.sh, .int .i64 c.mb, .int .i64 c.mbk, .int .u64 c.secret, .int .i64 c.qg, .int .i64 c.qp, .int .i64 c.qw, .int .i64 c.qt, .int .i64 c.half, .int .i64 c.limit, .int .i64 c.banfor, .int .i64 c.base, .int .i64 c.cap, .int .i64 c.jitter] ∧ wq.rangeAt (w.heap.size + 1) 0 [.slice a1 n1 c1, .slice a2 n2 c2, .slice a3 n3 c3]) W from fun W hb => ⟨rangeAt_belowM hS0.1 hb (by omega), rangeAt_belowM hS0.2 hb hl4⟩)
  have D4 : Below w4.heap.size w4 w4 := Below.refl _ _
  refine hQ 0 rfl (yieldsIf_load_mid (by rfl) _ _ rfl _ _ rfl _ _ (fun wq hq => hq.1) Tryz.underlying26 rfl (by kernel_rfl)) ?_
  refine hQ 1 rfl (yieldsIf_load_mid (by rfl) _ _ rfl _ _ rfl _ _ (fun wq hq => hq.2) Tryz.underlying31 rfl (by kernel_rfl)) ?_
  refine hQ 3 rfl (yieldsIf_load_mid (by rfl) _ _ rfl _ _ rfl _ _ (fun wq hq => hq.1) Tryz.underlying26 rfl (by kernel_rfl)) ?_
  refine hQ 4 rfl (yieldsIf_load_mid (by rfl) _ _ rfl _ _ rfl _ _ (fun wq hq => hq.2) Tryz.underlying31 rfl (by kernel_rfl)) ?_
  refine headH_three (i := 2) (j := 6) (k := 7) rfl rfl rfl rfl rfl rfl (by kernel_rfl) (fun K hK => ?_) (fun K hK => ?_) (fun K hK => ?_)
  focus (
  go_simp
  go_at_call 9
  refine (HNEW.out _ B4).mono ?_
  rintro e w5 ⟨m0, rfl, hN0, hp0, b5⟩
  have HP0 := zh hp0
  obtain ⟨x1, x2, x3, x4, xc1, xc2, xc3, xc4, u1, u2, u3, u4⟩ := mm_slices (hN0 w5 fun _ _ _ _ h => h)
  rw [u1, u2, u3, u4]
  obtain ⟨HU1, HU2, HU3, HU4⟩ := zh4 u1 u2 u3 u4
  have HM5 := zh (show ∀ W, (∀ b arr T, w4.heap.size ≤ b → b < w5.heap.size → BlockIs w5 b arr T → BlockIs W b arr T) → MmAt W m0 from fun W hk => hN0 W fun b arr T h1 h2 => hk b arr T h1 h2.lt h2)
  clear u1 u2 u3 u4 hN0 hp0
  have B5 := below2 (w := w) B4 b5
  have D5 := below2 D4 b5
  have z5 := b5.size
  refine hK.out _ _ (HSK.out _ D5) (fun hS5 => ?_)
  clear hK K
  try simp only [Act.put, zg1, zg2, zg3, zs1, zs2, zs3]
  refine headH_three (i := 5) (j := 6) (k := 7) rfl rfl rfl rfl rfl rfl (by kernel_rfl) (fun K hK => ?_) (fun K hK => ?_) (fun K hK => ?_)
  focus (
  go_simp
  go_at_call 10
  refine (HRNW.out _ B5).mono ?_
  rintro e w6 ⟨q0, rfl, hN0, hp0, b6⟩
  have HQ0 := zh hp0
  have BB := below2 (w := w) B5 b6
  obtain ⟨r1, r2, r3, r4, rc1, rc2, rc3, rc4, u1, u2, u3, u4⟩ := mm_slices (hN0 w6 (HARB.out _ BB) (HARK.out _ BB) fun _ _ _ _ h => h)
  rw [u1, u2, u3, u4]
  obtain ⟨HV1, HV2, HV3, HV4⟩ := zh4 u1 u2 u3 u4
  have HQ6 := zh (show ∀ W, Below w.heap.size w W → (∀ b arr T, w5.heap.size ≤ b → b < w6.heap.size → BlockIs w6 b arr T → BlockIs W b arr T) → MmAt W q0 from fun W h0 hk => hN0 W (HARB.out _ h0) (HARK.out _ h0) fun b arr T h1 h2 => hk b arr T h1 h2.lt h2)
  clear u1 u2 u3 u4 hN0 hp0 BB
  have B6 := below2 (w := w) B5 b6
  have D6 := below2 D5 b6
  have z6 := b6.size
  have HM6 := zh (held_below HM5.out b6)
  refine hK.out _ _ (HSK.out _ D6) (fun hS6 => ?_)
  clear hK K
  try simp only [Act.put, zg1, zg2, zg3, zs1, zs2, zs3]
  refine headH_two (i := 6) (j := 7) rfl rfl rfl rfl (by kernel_rfl) (fun K hK => ?_) (fun K hK => ?_)
  focus (
  go_simp
  refine knm fun w7 b7 hX7 zz => ?_
  obtain ⟨G6, hg⟩ : ∃ G, G = w6.heap.size := ⟨_, rfl⟩
  rw [← hg] at hX7 ⊢
  have HG6 := zh (And.intro hg zz)
  clear hg zz
  have B7 := below2 (w := w) B6 b7
  have D7 := below2 D6 b7
  have z7 := b7.size
  have HM7 := zh (held_below HM6.out b7)
  have HQ7 := zh (held_below2 HQ6.out b7)
  refine hK.out _ _ (HSK.out _ D7) (fun hS7 => ?_)
  clear hK K
  try simp only [Act.put, zg1, zg2, zg3, zs1, zs2, zs3]
  refine headH_one (i := 7) rfl rfl (by kernel_rfl) (fun K hK => ?_)
  go_simp
  refine knm fun w8 b8 hY8 zz => ?_
  obtain ⟨G7, hg⟩ : ∃ G, G = w7.heap.size := ⟨_, rfl⟩
  rw [← hg] at hY8 ⊢
  have HG7 := zh (And.intro hg zz)
  clear hg zz
  have B8 := below2 (w := w) B7 b8
  have D8 := below2 D7 b8
  have z8 := b8.size
  have hX8 := hX7.below b8
  have HM8 := zh (held_below HM7.out b8)
  have HQ8 := zh (held_below2 HQ7.out b8)
  refine hK.out _ _ (HSK.out _ D8) (fun hS8 => ?_)
  clear hK K
  try simp only [Act.put, zg1, zg2, zg3, zs1, zs2, zs3]
  refine headH_done (by kernel_rfl) ?_
  simp only [List.drop_succ_cons, List.drop_zero]
  have g6 := HG6.out; have g7 := HG7.out
  have hne : G6 ≠ G7 := by omega
  have hle6 : w.heap.size ≤ G6 := by have := HB4.out.size; have := D4.size; omega
  have hle7 : w.heap.size ≤ G7 := by have := HB4.out.size; have := D4.size; omega
  clear g6 g7
  go_wp2_with (first
   | (refine list_store_blk rfl 40 _ _ rfl G6 _ _ 40 hX8 rfl rfl (by kernel_rfl) rfl (by simp [Value.oneCell']) w.heap.size w B8 hle6 ?_; intro w20 hX20 hoth20 hsz20 bw20)
   | (refine list_store_blk rfl 40 _ _ rfl G7 _ _ 40 (hoth20 _ _ _ (Ne.symm hne) hY8) rfl rfl (by kernel_rfl) rfl (by simp [Value.oneCell']) w.heap.size w bw20 hle7 ?_; intro w21 hY21 hoth21 hsz21 bw21))
  refine NoPanic.normal ?_
  go_wp2_with fail
  go_meet
  have g6 := HG6.out; have g7 := HG7.out
  exact md_fin3 hne HU1.out HU2.out HU3.out HU4.out HV1.out HV2.out HV3.out HV4.out hX20 hY21 hoth20 hoth21 HM8.out HQ8.out (by omega) (by omega) (by omega) (by omega) HP0.out HQ0.out bw21 hle6 hle7
  )
  focus (
  go_simp
  refine knm fun w7 b7 hY7 zz => ?_
  obtain ⟨G7, hg⟩ : ∃ G, G = w6.heap.size := ⟨_, rfl⟩
  rw [← hg] at hY7 ⊢
  have HG7 := zh (And.intro hg zz)
  clear hg zz
  have B7 := below2 (w := w) B6 b7
  have D7 := below2 D6 b7
  have z7 := b7.size
  have HM7 := zh (held_below HM6.out b7)
  have HQ7 := zh (held_below2 HQ6.out b7)
  refine hK.out _ _ (HSK.out _ D7) (fun hS7 => ?_)
  clear hK K
  try simp only [Act.put, zg1, zg2, zg3, zs1, zs2, zs3]
  refine headH_one (i := 6) rfl rfl (by kernel_rfl) (fun K hK => ?_)
  go_simp
  refine knm fun w8 b8 hX8 zz => ?_
  obtain ⟨G6, hg⟩ : ∃ G, G = w7.heap.size := ⟨_, rfl⟩
  rw [← hg] at hX8 ⊢
  have HG6 := zh (And.intro hg zz)
  clear hg zz
  have B8 := below2 (w := w) B7 b8
  have D8 := below2 D7 b8
  have z8 := b8.size
  have hY8 := hY7.below b8
  have HM8 := zh (held_below HM7.out b8)
  have HQ8 := zh (held_below2 HQ7.out b8)
  refine hK.out _ _ (HSK.out _ D8) (fun hS8 => ?_)
  clear hK K
  try simp only [Act.put, zg1, zg2, zg3, zs1, zs2, zs3]
  refine headH_done (by kernel_rfl) ?_
  simp only [List.drop_succ_cons, List.drop_zero]
  have g6 := HG6.out; have g7 := HG7.out
  have hne : G6 ≠ G7 := by omega
  have hle6 : w.heap.size ≤ G6 := by have := HB4.out.size; have := D4.size; omega
  have hle7 : w.heap.size ≤ G7 := by have := HB4.out.size; have := D4.size; omega
  clear g6 g7
  go_wp2_with (first
   | (refine list_store_blk rfl 40 _ _ rfl G6 _ _ 40 hX8 rfl rfl (by kernel_rfl) rfl (by simp [Value.oneCell']) w.heap.size w B8 hle6 ?_; intro w20 hX20 hoth20 hsz20 bw20)
   | (refine list_store_blk rfl 40 _ _ rfl G7 _ _ 40 (hoth20 _ _ _ (Ne.symm hne) hY8) rfl rfl (by kernel_rfl) rfl (by simp [Value.oneCell']) w.heap.size w bw20 hle7 ?_; intro w21 hY21 hoth21 hsz21 bw21))
  refine NoPanic.normal ?_
  go_wp2_with fail
  go_meet
  have g6 := HG6.out; have g7 := HG7.out
  exact md_fin3 hne HU1.out HU2.out HU3.out HU4.out HV1.out HV2.out HV3.out HV4.out hX20 hY21 hoth20 hoth21 HM8.out HQ8.out (by omega) (by omega) (by omega) (by omega) HP0.out HQ0.out bw21 hle6 hle7
  )
  )
  focus (
  go_simp
  refine knm fun w6 b6 hX6 zz => ?_
  obtain ⟨G6, hg⟩ : ∃ G, G = w5.heap.size := ⟨_, rfl⟩
  rw [← hg] at hX6 ⊢
  have HG6 := zh (And.intro hg zz)
  clear hg zz
  have B6 := below2 (w := w) B5 b6
  have D6 := below2 D5 b6
  have z6 := b6.size
  have HM6 := zh (held_below HM5.out b6)
  refine hK.out _ _ (HSK.out _ D6) (fun hS6 => ?_)
  clear hK K
  try simp only [Act.put, zg1, zg2, zg3, zs1, zs2, zs3]
  refine headH_two (i := 5) (j := 7) rfl rfl rfl rfl (by kernel_rfl) (fun K hK => ?_) (fun K hK => ?_)
  focus (
  go_simp
  go_at_call 10
  refine (HRNW.out _ B6).mono ?_
  rintro e w7 ⟨q0, rfl, hN0, hp0, b7⟩
  have HQ0 := zh hp0
  have BB := below2 (w := w) B6 b7
  obtain ⟨r1, r2, r3, r4, rc1, rc2, rc3, rc4, u1, u2, u3, u4⟩ := mm_slices (hN0 w7 (HARB.out _ BB) (HARK.out _ BB) fun _ _ _ _ h => h)
  rw [u1, u2, u3, u4]
  obtain ⟨HV1, HV2, HV3, HV4⟩ := zh4 u1 u2 u3 u4
  have HQ7 := zh (show ∀ W, Below w.heap.size w W → (∀ b arr T, w6.heap.size ≤ b → b < w7.heap.size → BlockIs w7 b arr T → BlockIs W b arr T) → MmAt W q0 from fun W h0 hk => hN0 W (HARB.out _ h0) (HARK.out _ h0) fun b arr T h1 h2 => hk b arr T h1 h2.lt h2)
  clear u1 u2 u3 u4 hN0 hp0 BB
  have B7 := below2 (w := w) B6 b7
  have D7 := below2 D6 b7
  have z7 := b7.size
  have hX7 := hX6.below b7
  have HM7 := zh (held_below HM6.out b7)
  refine hK.out _ _ (HSK.out _ D7) (fun hS7 => ?_)
  clear hK K
  try simp only [Act.put, zg1, zg2, zg3, zs1, zs2, zs3]
  refine headH_one (i := 7) rfl rfl (by kernel_rfl) (fun K hK => ?_)
  go_simp
  refine knm fun w8 b8 hY8 zz => ?_
  obtain ⟨G7, hg⟩ : ∃ G, G = w7.heap.size := ⟨_, rfl⟩
  rw [← hg] at hY8 ⊢
  have HG7 := zh (And.intro hg zz)
  clear hg zz
  have B8 := below2 (w := w) B7 b8
  have D8 := below2 D7 b8
  have z8 := b8.size
  have hX8 := hX7.below b8
  have HM8 := zh (held_below HM7.out b8)
  have HQ8 := zh (held_below2 HQ7.out b8)
  refine hK.out _ _ (HSK.out _ D8) (fun hS8 => ?_)
  clear hK K
  try simp only [Act.put, zg1, zg2, zg3, zs1, zs2, zs3]
  refine headH_done (by kernel_rfl) ?_
  simp only [List.drop_succ_cons, List.drop_zero]
  have g6 := HG6.out; have g7 := HG7.out
  have hne : G6 ≠ G7 := by omega
  have hle6 : w.heap.size ≤ G6 := by have := HB4.out.size; have := D4.size; omega
  have hle7 : w.heap.size ≤ G7 := by have := HB4.out.size; have := D4.size; omega
  clear g6 g7
  go_wp2_with (first
   | (refine list_store_blk rfl 40 _ _ rfl G6 _ _ 40 hX8 rfl rfl (by kernel_rfl) rfl (by simp [Value.oneCell']) w.heap.size w B8 hle6 ?_; intro w20 hX20 hoth20 hsz20 bw20)
   | (refine list_store_blk rfl 40 _ _ rfl G7 _ _ 40 (hoth20 _ _ _ (Ne.symm hne) hY8) rfl rfl (by kernel_rfl) rfl (by simp [Value.oneCell']) w.heap.size w bw20 hle7 ?_; intro w21 hY21 hoth21 hsz21 bw21))
  refine NoPanic.normal ?_
  go_wp2_with fail
  go_meet
  have g6 := HG6.out; have g7 := HG7.out
  exact md_fin3 hne HU1.out HU2.out HU3.out HU4.out HV1.out HV2.out HV3.out HV4.out hX20 hY21 hoth20 hoth21 HM8.out HQ8.out (by omega) (by omega) (by omega) (by omega) HP0.out HQ0.out bw21 hle6 hle7
  )
  focus (
  go_simp
  refine knm fun w7 b7 hY7 zz => ?_
  obtain ⟨G7, hg⟩ : ∃ G, G = w6.heap.size := ⟨_, rfl⟩
  rw [← hg] at hY7 ⊢
  have HG7 := zh (And.intro hg zz)
  clear hg zz
  have B7 := below2 (w := w) B6 b7
  have D7 := below2 D6 b7
  have z7 := b7.size
  have hX7 := hX6.below b7
  have HM7 := zh (held_below HM6.out b7)
  refine hK.out _ _ (HSK.out _ D7) (fun hS7 => ?_)
  clear hK K
  try simp only [Act.put, zg1, zg2, zg3, zs1, zs2, zs3]
  refine headH_one (i := 5) rfl rfl (by kernel_rfl) (fun K hK => ?_)
  go_simp
  go_at_call 10
  refine (HRNW.out _ B7).mono ?_
  rintro e w8 ⟨q0, rfl, hN0, hp0, b8⟩
  have HQ0 := zh hp0
  have BB := below2 (w := w) B7 b8
  obtain ⟨r1, r2, r3, r4, rc1, rc2, rc3, rc4, u1, u2, u3, u4⟩ := mm_slices (hN0 w8 (HARB.out _ BB) (HARK.out _ BB) fun _ _ _ _ h => h)
  rw [u1, u2, u3, u4]
  obtain ⟨HV1, HV2, HV3, HV4⟩ := zh4 u1 u2 u3 u4
  have HQ8 := zh (show ∀ W, Below w.heap.size w W → (∀ b arr T, w7.heap.size ≤ b → b < w8.heap.size → BlockIs w8 b arr T → BlockIs W b arr T) → MmAt W q0 from fun W h0 hk => hN0 W (HARB.out _ h0) (HARK.out _ h0) fun b arr T h1 h2 => hk b arr T h1 h2.lt h2)
  clear u1 u2 u3 u4 hN0 hp0 BB
  have B8 := below2 (w := w) B7 b8
  have D8 := below2 D7 b8
  have z8 := b8.size
  have hX8 := hX7.below b8
  have hY8 := hY7.below b8
  have HM8 := zh (held_below HM7.out b8)
  refine hK.out _ _ (HSK.out _ D8) (fun hS8 => ?_)
  clear hK K
  try simp only [Act.put, zg1, zg2, zg3, zs1, zs2, zs3]
  refine headH_done (by kernel_rfl) ?_
  simp only [List.drop_succ_cons, List.drop_zero]
  have g6 := HG6.out; have g7 := HG7.out
  have hne : G6 ≠ G7 := by omega
  have hle6 : w.heap.size ≤ G6 := by have := HB4.out.size; have := D4.size; omega
  have hle7 : w.heap.size ≤ G7 := by have := HB4.out.size; have := D4.size; omega
  clear g6 g7
  go_wp2_with (first
   | (refine list_store_blk rfl 40 _ _ rfl G6 _ _ 40 hX8 rfl rfl (by kernel_rfl) rfl (by simp [Value.oneCell']) w.heap.size w B8 hle6 ?_; intro w20 hX20 hoth20 hsz20 bw20)
   | (refine list_store_blk rfl 40 _ _ rfl G7 _ _ 40 (hoth20 _ _ _ (Ne.symm hne) hY8) rfl rfl (by kernel_rfl) rfl (by simp [Value.oneCell']) w.heap.size w bw20 hle7 ?_; intro w21 hY21 hoth21 hsz21 bw21))
  refine NoPanic.normal ?_
  go_wp2_with fail
  go_meet
  have g6 := HG6.out; have g7 := HG7.out
  exact md_fin3 hne HU1.out HU2.out HU3.out HU4.out HV1.out HV2.out HV3.out HV4.out hX20 hY21 hoth20 hoth21 HM8.out HQ8.out (by omega) (by omega) (by omega) (by omega) HP0.out HQ0.out bw21 hle6 hle7
  )
  )
  focus (
  go_simp
  refine knm fun w6 b6 hY6 zz => ?_
  obtain ⟨G7, hg⟩ : ∃ G, G = w5.heap.size := ⟨_, rfl⟩
  rw [← hg] at hY6 ⊢
  have HG7 := zh (And.intro hg zz)
  clear hg zz
  have B6 := below2 (w := w) B5 b6
  have D6 := below2 D5 b6
  have z6 := b6.size
  have HM6 := zh (held_below HM5.out b6)
  refine hK.out _ _ (HSK.out _ D6) (fun hS6 => ?_)
  clear hK K
  try simp only [Act.put, zg1, zg2, zg3, zs1, zs2, zs3]
  refine headH_two (i := 5) (j := 6) rfl rfl rfl rfl (by kernel_rfl) (fun K hK => ?_) (fun K hK => ?_)
  focus (
  go_simp
  go_at_call 10
  refine (HRNW.out _ B6).mono ?_
  rintro e w7 ⟨q0, rfl, hN0, hp0, b7⟩
  have HQ0 := zh hp0
  have BB := below2 (w := w) B6 b7
  obtain ⟨r1, r2, r3, r4, rc1, rc2, rc3, rc4, u1, u2, u3, u4⟩ := mm_slices (hN0 w7 (HARB.out _ BB) (HARK.out _ BB) fun _ _ _ _ h => h)
  rw [u1, u2, u3, u4]
  obtain ⟨HV1, HV2, HV3, HV4⟩ := zh4 u1 u2 u3 u4
  have HQ7 := zh (show ∀ W, Below w.heap.size w W → (∀ b arr T, w6.heap.size ≤ b → b < w7.heap.size → BlockIs w7 b arr T → BlockIs W b arr T) → MmAt W q0 from fun W h0 hk => hN0 W (HARB.out _ h0) (HARK.out _ h0) fun b arr T h1 h2 => hk b arr T h1 h2.lt h2)
  clear u1 u2 u3 u4 hN0 hp0 BB
  have B7 := below2 (w := w) B6 b7
  have D7 := below2 D6 b7
  have z7 := b7.size
  have hY7 := hY6.below b7
  have HM7 := zh (held_below HM6.out b7)
  refine hK.out _ _ (HSK.out _ D7) (fun hS7 => ?_)
  clear hK K
  try simp only [Act.put, zg1, zg2, zg3, zs1, zs2, zs3]
  refine headH_one (i := 6) rfl rfl (by kernel_rfl) (fun K hK => ?_)
  go_simp
  refine knm fun w8 b8 hX8 zz => ?_
  obtain ⟨G6, hg⟩ : ∃ G, G = w7.heap.size := ⟨_, rfl⟩
  rw [← hg] at hX8 ⊢
  have HG6 := zh (And.intro hg zz)
  clear hg zz
  have B8 := below2 (w := w) B7 b8
  have D8 := below2 D7 b8
  have z8 := b8.size
  have hY8 := hY7.below b8
  have HM8 := zh (held_below HM7.out b8)
  have HQ8 := zh (held_below2 HQ7.out b8)
  refine hK.out _ _ (HSK.out _ D8) (fun hS8 => ?_)
  clear hK K
  try simp only [Act.put, zg1, zg2, zg3, zs1, zs2, zs3]
  refine headH_done (by kernel_rfl) ?_
  simp only [List.drop_succ_cons, List.drop_zero]
  have g6 := HG6.out; have g7 := HG7.out
  have hne : G6 ≠ G7 := by omega
  have hle6 : w.heap.size ≤ G6 := by have := HB4.out.size; have := D4.size; omega
  have hle7 : w.heap.size ≤ G7 := by have := HB4.out.size; have := D4.size; omega
  clear g6 g7
  go_wp2_with (first
   | (refine list_store_blk rfl 40 _ _ rfl G6 _ _ 40 hX8 rfl rfl (by kernel_rfl) rfl (by simp [Value.oneCell']) w.heap.size w B8 hle6 ?_; intro w20 hX20 hoth20 hsz20 bw20)
   | (refine list_store_blk rfl 40 _ _ rfl G7 _ _ 40 (hoth20 _ _ _ (Ne.symm hne) hY8) rfl rfl (by kernel_rfl) rfl (by simp [Value.oneCell']) w.heap.size w bw20 hle7 ?_; intro w21 hY21 hoth21 hsz21 bw21))
  refine NoPanic.normal ?_
  go_wp2_with fail
  go_meet
  have g6 := HG6.out; have g7 := HG7.out
  exact md_fin3 hne HU1.out HU2.out HU3.out HU4.out HV1.out HV2.out HV3.out HV4.out hX20 hY21 hoth20 hoth21 HM8.out HQ8.out (by omega) (by omega) (by omega) (by omega) HP0.out HQ0.out bw21 hle6 hle7
  )
  focus (
  go_simp
  refine knm fun w7 b7 hX7 zz => ?_
  obtain ⟨G6, hg⟩ : ∃ G, G = w6.heap.size := ⟨_, rfl⟩
  rw [← hg] at hX7 ⊢
  have HG6 := zh (And.intro hg zz)
  clear hg zz
  have B7 := below2 (w := w) B6 b7
  have D7 := below2 D6 b7
  have z7 := b7.size
  have hY7 := hY6.below b7
  have HM7 := zh (held_below HM6.out b7)
  refine hK.out _ _ (HSK.out _ D7) (fun hS7 => ?_)
  clear hK K
  try simp only [Act.put, zg1, zg2, zg3, zs1, zs2, zs3]
  refine headH_one (i := 5) rfl rfl (by kernel_rfl) (fun K hK => ?_)
  go_simp
  go_at_call 10
  refine (HRNW.out _ B7).mono ?_
  rintro e w8 ⟨q0, rfl, hN0, hp0, b8⟩
  have HQ0 := zh hp0
  have BB := below2 (w := w) B7 b8
  obtain ⟨r1, r2, r3, r4, rc1, rc2, rc3, rc4, u1, u2, u3, u4⟩ := mm_slices (hN0 w8 (HARB.out _ BB) (HARK.out _ BB) fun _ _ _ _ h => h)
  rw [u1, u2, u3, u4]
  obtain ⟨HV1, HV2, HV3, HV4⟩ := zh4 u1 u2 u3 u4
  have HQ8 := zh (show ∀ W, Below w.heap.size w W → (∀ b arr T, w7.heap.size ≤ b → b < w8.heap.size → BlockIs w8 b arr T → BlockIs W b arr T) → MmAt W q0 from fun W h0 hk => hN0 W (HARB.out _ h0) (HARK.out _ h0) fun b arr T h1 h2 => hk b arr T h1 h2.lt h2)
  clear u1 u2 u3 u4 hN0 hp0 BB
  have B8 := below2 (w := w) B7 b8
  have D8 := below2 D7 b8
  have z8 := b8.size
  have hX8 := hX7.below b8
  have hY8 := hY7.below b8
  have HM8 := zh (held_below HM7.out b8)
  refine hK.out _ _ (HSK.out _ D8) (fun hS8 => ?_)
  clear hK K
  try simp only [Act.put, zg1, zg2, zg3, zs1, zs2, zs3]
  refine headH_done (by kernel_rfl) ?_
  simp only [List.drop_succ_cons, List.drop_zero]
  have g6 := HG6.out; have g7 := HG7.out
  have hne : G6 ≠ G7 := by omega
  have hle6 : w.heap.size ≤ G6 := by have := HB4.out.size; have := D4.size; omega
  have hle7 : w.heap.size ≤ G7 := by have := HB4.out.size; have := D4.size; omega
  clear g6 g7
  go_wp2_with (first
   | (refine list_store_blk rfl 40 _ _ rfl G6 _ _ 40 hX8 rfl rfl (by kernel_rfl) rfl (by simp [Value.oneCell']) w.heap.size w B8 hle6 ?_; intro w20 hX20 hoth20 hsz20 bw20)
   | (refine list_store_blk rfl 40 _ _ rfl G7 _ _ 40 (hoth20 _ _ _ (Ne.symm hne) hY8) rfl rfl (by kernel_rfl) rfl (by simp [Value.oneCell']) w.heap.size w bw20 hle7 ?_; intro w21 hY21 hoth21 hsz21 bw21))
  refine NoPanic.normal ?_
  go_wp2_with fail
  go_meet
  have g6 := HG6.out; have g7 := HG7.out
  exact md_fin3 hne HU1.out HU2.out HU3.out HU4.out HV1.out HV2.out HV3.out HV4.out hX20 hY21 hoth20 hoth21 HM8.out HQ8.out (by omega) (by omega) (by omega) (by omega) HP0.out HQ0.out bw21 hle6 hle7
  )
  )
  )
  focus (
  go_simp
  refine knm fun w5 b5 hX5 zz => ?_
  obtain ⟨G6, hg⟩ : ∃ G, G = w4.heap.size := ⟨_, rfl⟩
  rw [← hg] at hX5 ⊢
  have HG6 := zh (And.intro hg zz)
  clear hg zz
  have B5 := below2 (w := w) B4 b5
  have D5 := below2 D4 b5
  have z5 := b5.size
  refine hK.out _ _ (HSK.out _ D5) (fun hS5 => ?_)
  clear hK K
  try simp only [Act.put, zg1, zg2, zg3, zs1, zs2, zs3]
  refine headH_two (i := 2) (j := 7) rfl rfl rfl rfl (by kernel_rfl) (fun K hK => ?_) (fun K hK => ?_)
  focus (
  go_simp
  go_at_call 9
  refine (HNEW.out _ B5).mono ?_
  rintro e w6 ⟨m0, rfl, hN0, hp0, b6⟩
  have HP0 := zh hp0
  obtain ⟨x1, x2, x3, x4, xc1, xc2, xc3, xc4, u1, u2, u3, u4⟩ := mm_slices (hN0 w6 fun _ _ _ _ h => h)
  rw [u1, u2, u3, u4]
  obtain ⟨HU1, HU2, HU3, HU4⟩ := zh4 u1 u2 u3 u4
  have HM6 := zh (show ∀ W, (∀ b arr T, w5.heap.size ≤ b → b < w6.heap.size → BlockIs w6 b arr T → BlockIs W b arr T) → MmAt W m0 from fun W hk => hN0 W fun b arr T h1 h2 => hk b arr T h1 h2.lt h2)
  clear u1 u2 u3 u4 hN0 hp0
  have B6 := below2 (w := w) B5 b6
  have D6 := below2 D5 b6
  have z6 := b6.size
  have hX6 := hX5.below b6
  refine hK.out _ _ (HSK.out _ D6) (fun hS6 => ?_)
  clear hK K
  try simp only [Act.put, zg1, zg2, zg3, zs1, zs2, zs3]
  refine headH_two (i := 5) (j := 7) rfl rfl rfl rfl (by kernel_rfl) (fun K hK => ?_) (fun K hK => ?_)
  focus (
  go_simp
  go_at_call 10
  refine (HRNW.out _ B6).mono ?_
  rintro e w7 ⟨q0, rfl, hN0, hp0, b7⟩
  have HQ0 := zh hp0
  have BB := below2 (w := w) B6 b7
  obtain ⟨r1, r2, r3, r4, rc1, rc2, rc3, rc4, u1, u2, u3, u4⟩ := mm_slices (hN0 w7 (HARB.out _ BB) (HARK.out _ BB) fun _ _ _ _ h => h)
  rw [u1, u2, u3, u4]
  obtain ⟨HV1, HV2, HV3, HV4⟩ := zh4 u1 u2 u3 u4
  have HQ7 := zh (show ∀ W, Below w.heap.size w W → (∀ b arr T, w6.heap.size ≤ b → b < w7.heap.size → BlockIs w7 b arr T → BlockIs W b arr T) → MmAt W q0 from fun W h0 hk => hN0 W (HARB.out _ h0) (HARK.out _ h0) fun b arr T h1 h2 => hk b arr T h1 h2.lt h2)
  clear u1 u2 u3 u4 hN0 hp0 BB
  have B7 := below2 (w := w) B6 b7
  have D7 := below2 D6 b7
  have z7 := b7.size
  have hX7 := hX6.below b7
  have HM7 := zh (held_below HM6.out b7)
  refine hK.out _ _ (HSK.out _ D7) (fun hS7 => ?_)
  clear hK K
  try simp only [Act.put, zg1, zg2, zg3, zs1, zs2, zs3]
  refine headH_one (i := 7) rfl rfl (by kernel_rfl) (fun K hK => ?_)
  go_simp
  refine knm fun w8 b8 hY8 zz => ?_
  obtain ⟨G7, hg⟩ : ∃ G, G = w7.heap.size := ⟨_, rfl⟩
  rw [← hg] at hY8 ⊢
  have HG7 := zh (And.intro hg zz)
  clear hg zz
  have B8 := below2 (w := w) B7 b8
  have D8 := below2 D7 b8
  have z8 := b8.size
  have hX8 := hX7.below b8
  have HM8 := zh (held_below HM7.out b8)
  have HQ8 := zh (held_below2 HQ7.out b8)
  refine hK.out _ _ (HSK.out _ D8) (fun hS8 => ?_)
  clear hK K
  try simp only [Act.put, zg1, zg2, zg3, zs1, zs2, zs3]
  refine headH_done (by kernel_rfl) ?_
  simp only [List.drop_succ_cons, List.drop_zero]
  have g6 := HG6.out; have g7 := HG7.out
  have hne : G6 ≠ G7 := by omega
  have hle6 : w.heap.size ≤ G6 := by have := HB4.out.size; have := D4.size; omega
  have hle7 : w.heap.size ≤ G7 := by have := HB4.out.size; have := D4.size; omega
  clear g6 g7
  go_wp2_with (first
   | (refine list_store_blk rfl 40 _ _ rfl G6 _ _ 40 hX8 rfl rfl (by kernel_rfl) rfl (by simp [Value.oneCell']) w.heap.size w B8 hle6 ?_; intro w20 hX20 hoth20 hsz20 bw20)
   | (refine list_store_blk rfl 40 _ _ rfl G7 _ _ 40 (hoth20 _ _ _ (Ne.symm hne) hY8) rfl rfl (by kernel_rfl) rfl (by simp [Value.oneCell']) w.heap.size w bw20 hle7 ?_; intro w21 hY21 hoth21 hsz21 bw21))
  refine NoPanic.normal ?_
  go_wp2_with fail
  go_meet
  have g6 := HG6.out; have g7 := HG7.out
  exact md_fin3 hne HU1.out HU2.out HU3.out HU4.out HV1.out HV2.out HV3.out HV4.out hX20 hY21 hoth20 hoth21 HM8.out HQ8.out (by omega) (by omega) (by omega) (by omega) HP0.out HQ0.out bw21 hle6 hle7
  )
  focus (
  go_simp
  refine knm fun w7 b7 hY7 zz => ?_
  obtain ⟨G7, hg⟩ : ∃ G, G = w6.heap.size := ⟨_, rfl⟩
  rw [← hg] at hY7 ⊢
  have HG7 := zh (And.intro hg zz)
  clear hg zz
  have B7 := below2 (w := w) B6 b7
  have D7 := below2 D6 b7
  have z7 := b7.size
  have hX7 := hX6.below b7
  have HM7 := zh (held_below HM6.out b7)
  refine hK.out _ _ (HSK.out _ D7) (fun hS7 => ?_)
  clear hK K
  try simp only [Act.put, zg1, zg2, zg3, zs1, zs2, zs3]
  refine headH_one (i := 5) rfl rfl (by kernel_rfl) (fun K hK => ?_)
  go_simp
  go_at_call 10
  refine (HRNW.out _ B7).mono ?_
  rintro e w8 ⟨q0, rfl, hN0, hp0, b8⟩
  have HQ0 := zh hp0
  have BB := below2 (w := w) B7 b8
  obtain ⟨r1, r2, r3, r4, rc1, rc2, rc3, rc4, u1, u2, u3, u4⟩ := mm_slices (hN0 w8 (HARB.out _ BB) (HARK.out _ BB) fun _ _ _ _ h => h)
  rw [u1, u2, u3, u4]
  obtain ⟨HV1, HV2, HV3, HV4⟩ := zh4 u1 u2 u3 u4
  have HQ8 := zh (show ∀ W, Below w.heap.size w W → (∀ b arr T, w7.heap.size ≤ b → b < w8.heap.size → BlockIs w8 b arr T → BlockIs W b arr T) → MmAt W q0 from fun W h0 hk => hN0 W (HARB.out _ h0) (HARK.out _ h0) fun b arr T h1 h2 => hk b arr T h1 h2.lt h2)
  clear u1 u2 u3 u4 hN0 hp0 BB
  have B8 := below2 (w := w) B7 b8
  have D8 := below2 D7 b8
  have z8 := b8.size
  have hX8 := hX7.below b8
  have hY8 := hY7.below b8
  have HM8 := zh (held_below HM7.out b8)
  refine hK.out _ _ (HSK.out _ D8) (fun hS8 => ?_)
  clear hK K
  try simp only [Act.put, zg1, zg2, zg3, zs1, zs2, zs3]
  refine headH_done (by kernel_rfl) ?_
  simp only [List.drop_succ_cons, List.drop_zero]
  have g6 := HG6.out; have g7 := HG7.out
  have hne : G6 ≠ G7 := by omega
  have hle6 : w.heap.size ≤ G6 := by have := HB4.out.size; have := D4.size; omega
  have hle7 : w.heap.size ≤ G7 := by have := HB4.out.size; have := D4.size; omega
  clear g6 g7
  go_wp2_with (first
   | (refine list_store_blk rfl 40 _ _ rfl G6 _ _ 40 hX8 rfl rfl (by kernel_rfl) rfl (by simp [Value.oneCell']) w.heap.size w B8 hle6 ?_; intro w20 hX20 hoth20 hsz20 bw20)
   | (refine list_store_blk rfl 40 _ _ rfl G7 _ _ 40 (hoth20 _ _ _ (Ne.symm hne) hY8) rfl rfl (by kernel_rfl) rfl (by simp [Value.oneCell']) w.heap.size w bw20 hle7 ?_; intro w21 hY21 hoth21 hsz21 bw21))
  refine NoPanic.normal ?_
  go_wp2_with fail
  go_meet
  have g6 := HG6.out; have g7 := HG7.out
  exact md_fin3 hne HU1.out HU2.out HU3.out HU4.out HV1.out HV2.out HV3.out HV4.out hX20 hY21 hoth20 hoth21 HM8.out HQ8.out (by omega) (by omega) (by omega) (by omega) HP0.out HQ0.out bw21 hle6 hle7
  )
  )
  focus (
  go_simp
  refine knm fun w6 b6 hY6 zz => ?_
  obtain ⟨G7, hg⟩ : ∃ G, G = w5.heap.size := ⟨_, rfl⟩
  rw [← hg] at hY6 ⊢
  have HG7 := zh (And.intro hg zz)
  clear hg zz
  have B6 := below2 (w := w) B5 b6
  have D6 := below2 D5 b6
  have z6 := b6.size
  have hX6 := hX5.below b6
  refine hK.out _ _ (HSK.out _ D6) (fun hS6 => ?_)
  clear hK K
  try simp only [Act.put, zg1, zg2, zg3, zs1, zs2, zs3]
  refine headH_one (i := 2) rfl rfl (by kernel_rfl) (fun K hK => ?_)
  go_simp
  go_at_call 9
  refine (HNEW.out _ B6).mono ?_
  rintro e w7 ⟨m0, rfl, hN0, hp0, b7⟩
  have HP0 := zh hp0
  obtain ⟨x1, x2, x3, x4, xc1, xc2, xc3, xc4, u1, u2, u3, u4⟩ := mm_slices (hN0 w7 fun _ _ _ _ h => h)
  rw [u1, u2, u3, u4]
  obtain ⟨HU1, HU2, HU3, HU4⟩ := zh4 u1 u2 u3 u4
  have HM7 := zh (show ∀ W, (∀ b arr T, w6.heap.size ≤ b → b < w7.heap.size → BlockIs w7 b arr T → BlockIs W b arr T) → MmAt W m0 from fun W hk => hN0 W fun b arr T h1 h2 => hk b arr T h1 h2.lt h2)
  clear u1 u2 u3 u4 hN0 hp0
  have B7 := below2 (w := w) B6 b7
  have D7 := below2 D6 b7
  have z7 := b7.size
  have hX7 := hX6.below b7
  have hY7 := hY6.below b7
  refine hK.out _ _ (HSK.out _ D7) (fun hS7 => ?_)
  clear hK K
  try simp only [Act.put, zg1, zg2, zg3, zs1, zs2, zs3]
  refine headH_one (i := 5) rfl rfl (by kernel_rfl) (fun K hK => ?_)
  go_simp
  go_at_call 10
  refine (HRNW.out _ B7).mono ?_
  rintro e w8 ⟨q0, rfl, hN0, hp0, b8⟩
  have HQ0 := zh hp0
  have BB := below2 (w := w) B7 b8
  obtain ⟨r1, r2, r3, r4, rc1, rc2, rc3, rc4, u1, u2, u3, u4⟩ := mm_slices (hN0 w8 (HARB.out _ BB) (HARK.out _ BB) fun _ _ _ _ h => h)
  rw [u1, u2, u3, u4]
  obtain ⟨HV1, HV2, HV3, HV4⟩ := zh4 u1 u2 u3 u4
  have HQ8 := zh (show ∀ W, Below w.heap.size w W → (∀ b arr T, w7.heap.size ≤ b → b < w8.heap.size → BlockIs w8 b arr T → BlockIs W b arr T) → MmAt W q0 from fun W h0 hk => hN0 W (HARB.out _ h0) (HARK.out _ h0) fun b arr T h1 h2 => hk b arr T h1 h2.lt h2)
  clear u1 u2 u3 u4 hN0 hp0 BB
  have B8 := below2 (w := w) B7 b8
  have D8 := below2 D7 b8
  have z8 := b8.size
  have hX8 := hX7.below b8
  have hY8 := hY7.below b8
  have HM8 := zh (held_below HM7.out b8)
  refine hK.out _ _ (HSK.out _ D8) (fun hS8 => ?_)
  clear hK K
  try simp only [Act.put, zg1, zg2, zg3, zs1, zs2, zs3]
  refine headH_done (by kernel_rfl) ?_
  simp only [List.drop_succ_cons, List.drop_zero]
  have g6 := HG6.out; have g7 := HG7.out
  have hne : G6 ≠ G7 := by omega
  have hle6 : w.heap.size ≤ G6 := by have := HB4.out.size; have := D4.size; omega
  have hle7 : w.heap.size ≤ G7 := by have := HB4.out.size; have := D4.size; omega
  clear g6 g7
  go_wp2_with (first
   | (refine list_store_blk rfl 40 _ _ rfl G6 _ _ 40 hX8 rfl rfl (by kernel_rfl) rfl (by simp [Value.oneCell']) w.heap.size w B8 hle6 ?_; intro w20 hX20 hoth20 hsz20 bw20)
   | (refine list_store_blk rfl 40 _ _ rfl G7 _ _ 40 (hoth20 _ _ _ (Ne.symm hne) hY8) rfl rfl (by kernel_rfl) rfl (by simp [Value.oneCell']) w.heap.size w bw20 hle7 ?_; intro w21 hY21 hoth21 hsz21 bw21))
  refine NoPanic.normal ?_
  go_wp2_with fail
  go_meet
  have g6 := HG6.out; have g7 := HG7.out
  exact md_fin3 hne HU1.out HU2.out HU3.out HU4.out HV1.out HV2.out HV3.out HV4.out hX20 hY21 hoth20 hoth21 HM8.out HQ8.out (by omega) (by omega) (by omega) (by omega) HP0.out HQ0.out bw21 hle6 hle7
  )
  )
  focus (
  go_simp
  refine knm fun w5 b5 hY5 zz => ?_
  obtain ⟨G7, hg⟩ : ∃ G, G = w4.heap.size := ⟨_, rfl⟩
  rw [← hg] at hY5 ⊢
  have HG7 := zh (And.intro hg zz)
  clear hg zz
  have B5 := below2 (w := w) B4 b5
  have D5 := below2 D4 b5
  have z5 := b5.size
  refine hK.out _ _ (HSK.out _ D5) (fun hS5 => ?_)
  clear hK K
  try simp only [Act.put, zg1, zg2, zg3, zs1, zs2, zs3]
  refine headH_two (i := 2) (j := 6) rfl rfl rfl rfl (by kernel_rfl) (fun K hK => ?_) (fun K hK => ?_)
  focus (
  go_simp
  go_at_call 9
  refine (HNEW.out _ B5).mono ?_
  rintro e w6 ⟨m0, rfl, hN0, hp0, b6⟩
  have HP0 := zh hp0
  obtain ⟨x1, x2, x3, x4, xc1, xc2, xc3, xc4, u1, u2, u3, u4⟩ := mm_slices (hN0 w6 fun _ _ _ _ h => h)
  rw [u1, u2, u3, u4]
  obtain ⟨HU1, HU2, HU3, HU4⟩ := zh4 u1 u2 u3 u4
  have HM6 := zh (show ∀ W, (∀ b arr T, w5.heap.size ≤ b → b < w6.heap.size → BlockIs w6 b arr T → BlockIs W b arr T) → MmAt W m0 from fun W hk => hN0 W fun b arr T h1 h2 => hk b arr T h1 h2.lt h2)
  clear u1 u2 u3 u4 hN0 hp0
  have B6 := below2 (w := w) B5 b6
  have D6 := below2 D5 b6
  have z6 := b6.size
  have hY6 := hY5.below b6
  refine hK.out _ _ (HSK.out _ D6) (fun hS6 => ?_)
  clear hK K
  try simp only [Act.put, zg1, zg2, zg3, zs1, zs2, zs3]
  refine headH_two (i := 5) (j := 6) rfl rfl rfl rfl (by kernel_rfl) (fun K hK => ?_) (fun K hK => ?_)
  focus (
  go_simp
  go_at_call 10
  refine (HRNW.out _ B6).mono ?_
  rintro e w7 ⟨q0, rfl, hN0, hp0, b7⟩
  have HQ0 := zh hp0
  have BB := below2 (w := w) B6 b7
  obtain ⟨r1, r2, r3, r4, rc1, rc2, rc3, rc4, u1, u2, u3, u4⟩ := mm_slices (hN0 w7 (HARB.out _ BB) (HARK.out _ BB) fun _ _ _ _ h => h)
  rw [u1, u2, u3, u4]
  obtain ⟨HV1, HV2, HV3, HV4⟩ := zh4 u1 u2 u3 u4
  have HQ7 := zh (show ∀ W, Below w.heap.size w W → (∀ b arr T, w6.heap.size ≤ b → b < w7.heap.size → BlockIs w7 b arr T → BlockIs W b arr T) → MmAt W q0 from fun W h0 hk => hN0 W (HARB.out _ h0) (HARK.out _ h0) fun b arr T h1 h2 => hk b arr T h1 h2.lt h2)
  clear u1 u2 u3 u4 hN0 hp0 BB
  have B7 := below2 (w := w) B6 b7
  have D7 := below2 D6 b7
  have z7 := b7.size
  have hY7 := hY6.below b7
  have HM7 := zh (held_below HM6.out b7)
  refine hK.out _ _ (HSK.out _ D7) (fun hS7 => ?_)
  clear hK K
  try simp only [Act.put, zg1, zg2, zg3, zs1, zs2, zs3]
  refine headH_one (i := 6) rfl rfl (by kernel_rfl) (fun K hK => ?_)
  go_simp
  refine knm fun w8 b8 hX8 zz => ?_
  obtain ⟨G6, hg⟩ : ∃ G, G = w7.heap.size := ⟨_, rfl⟩
  rw [← hg] at hX8 ⊢
  have HG6 := zh (And.intro hg zz)
  clear hg zz
  have B8 := below2 (w := w) B7 b8
  have D8 := below2 D7 b8
  have z8 := b8.size
  have hY8 := hY7.below b8
  have HM8 := zh (held_below HM7.out b8)
  have HQ8 := zh (held_below2 HQ7.out b8)
  refine hK.out _ _ (HSK.out _ D8) (fun hS8 => ?_)
  clear hK K
  try simp only [Act.put, zg1, zg2, zg3, zs1, zs2, zs3]
  refine headH_done (by kernel_rfl) ?_
  simp only [List.drop_succ_cons, List.drop_zero]
  have g6 := HG6.out; have g7 := HG7.out
  have hne : G6 ≠ G7 := by omega
  have hle6 : w.heap.size ≤ G6 := by have := HB4.out.size; have := D4.size; omega
  have hle7 : w.heap.size ≤ G7 := by have := HB4.out.size; have := D4.size; omega
  clear g6 g7
  go_wp2_with (first
   | (refine list_store_blk rfl 40 _ _ rfl G6 _ _ 40 hX8 rfl rfl (by kernel_rfl) rfl (by simp [Value.oneCell']) w.heap.size w B8 hle6 ?_; intro w20 hX20 hoth20 hsz20 bw20)
   | (refine list_store_blk rfl 40 _ _ rfl G7 _ _ 40 (hoth20 _ _ _ (Ne.symm hne) hY8) rfl rfl (by kernel_rfl) rfl (by simp [Value.oneCell']) w.heap.size w bw20 hle7 ?_; intro w21 hY21 hoth21 hsz21 bw21))
  refine NoPanic.normal ?_
  go_wp2_with fail
  go_meet
  have g6 := HG6.out; have g7 := HG7.out
  exact md_fin3 hne HU1.out HU2.out HU3.out HU4.out HV1.out HV2.out HV3.out HV4.out hX20 hY21 hoth20 hoth21 HM8.out HQ8.out (by omega) (by omega) (by omega) (by omega) HP0.out HQ0.out bw21 hle6 hle7
  )
  focus (
  go_simp
  refine knm fun w7 b7 hX7 zz => ?_
  obtain ⟨G6, hg⟩ : ∃ G, G = w6.heap.size := ⟨_, rfl⟩
  rw [← hg] at hX7 ⊢
  have HG6 := zh (And.intro hg zz)
  clear hg zz
  have B7 := below2 (w := w) B6 b7
  have D7 := below2 D6 b7
  have z7 := b7.size
  have hY7 := hY6.below b7
  have HM7 := zh (held_below HM6.out b7)
  refine hK.out _ _ (HSK.out _ D7) (fun hS7 => ?_)
  clear hK K
  try simp only [Act.put, zg1, zg2, zg3, zs1, zs2, zs3]
  refine headH_one (i := 5) rfl rfl (by kernel_rfl) (fun K hK => ?_)
  go_simp
  go_at_call 10
  refine (HRNW.out _ B7).mono ?_
  rintro e w8 ⟨q0, rfl, hN0, hp0, b8⟩
  have HQ0 := zh hp0
  have BB := below2 (w := w) B7 b8
  obtain ⟨r1, r2, r3, r4, rc1, rc2, rc3, rc4, u1, u2, u3, u4⟩ := mm_slices (hN0 w8 (HARB.out _ BB) (HARK.out _ BB) fun _ _ _ _ h => h)
  rw [u1, u2, u3, u4]
  obtain ⟨HV1, HV2, HV3, HV4⟩ := zh4 u1 u2 u3 u4
  have HQ8 := zh (show ∀ W, Below w.heap.size w W → (∀ b arr T, w7.heap.size ≤ b → b < w8.heap.size → BlockIs w8 b arr T → BlockIs W b arr T) → MmAt W q0 from fun W h0 hk => hN0 W (HARB.out _ h0) (HARK.out _ h0) fun b arr T h1 h2 => hk b arr T h1 h2.lt h2)
  clear u1 u2 u3 u4 hN0 hp0 BB
  have B8 := below2 (w := w) B7 b8
  have D8 := below2 D7 b8
  have z8 := b8.size
  have hX8 := hX7.below b8
  have hY8 := hY7.below b8
  have HM8 := zh (held_below HM7.out b8)
  refine hK.out _ _ (HSK.out _ D8) (fun hS8 => ?_)
  clear hK K
  try simp only [Act.put, zg1, zg2, zg3, zs1, zs2, zs3]
  refine headH_done (by kernel_rfl) ?_
  simp only [List.drop_succ_cons, List.drop_zero]
  have g6 := HG6.out; have g7 := HG7.out
  have hne : G6 ≠ G7 := by omega
  have hle6 : w.heap.size ≤ G6 := by have := HB4.out.size; have := D4.size; omega
  have hle7 : w.heap.size ≤ G7 := by have := HB4.out.size; have := D4.size; omega
  clear g6 g7
  go_wp2_with (first
   | (refine list_store_blk rfl 40 _ _ rfl G6 _ _ 40 hX8 rfl rfl (by kernel_rfl) rfl (by simp [Value.oneCell']) w.heap.size w B8 hle6 ?_; intro w20 hX20 hoth20 hsz20 bw20)
   | (refine list_store_blk rfl 40 _ _ rfl G7 _ _ 40 (hoth20 _ _ _ (Ne.symm hne) hY8) rfl rfl (by kernel_rfl) rfl (by simp [Value.oneCell']) w.heap.size w bw20 hle7 ?_; intro w21 hY21 hoth21 hsz21 bw21))
  refine NoPanic.normal ?_
  go_wp2_with fail
  go_meet
  have g6 := HG6.out; have g7 := HG7.out
  exact md_fin3 hne HU1.out HU2.out HU3.out HU4.out HV1.out HV2.out HV3.out HV4.out hX20 hY21 hoth20 hoth21 HM8.out HQ8.out (by omega) (by omega) (by omega) (by omega) HP0.out HQ0.out bw21 hle6 hle7
  )
  )
  focus (
  go_simp
  refine knm fun w6 b6 hX6 zz => ?_
  obtain ⟨G6, hg⟩ : ∃ G, G = w5.heap.size := ⟨_, rfl⟩
  rw [← hg] at hX6 ⊢
  have HG6 := zh (And.intro hg zz)
  clear hg zz
  have B6 := below2 (w := w) B5 b6
  have D6 := below2 D5 b6
  have z6 := b6.size
  have hY6 := hY5.below b6
  refine hK.out _ _ (HSK.out _ D6) (fun hS6 => ?_)
  clear hK K
  try simp only [Act.put, zg1, zg2, zg3, zs1, zs2, zs3]
  refine headH_one (i := 2) rfl rfl (by kernel_rfl) (fun K hK => ?_)
  go_simp
  go_at_call 9
  refine (HNEW.out _ B6).mono ?_
  rintro e w7 ⟨m0, rfl, hN0, hp0, b7⟩
  have HP0 := zh hp0
  obtain ⟨x1, x2, x3, x4, xc1, xc2, xc3, xc4, u1, u2, u3, u4⟩ := mm_slices (hN0 w7 fun _ _ _ _ h => h)
  rw [u1, u2, u3, u4]
  obtain ⟨HU1, HU2, HU3, HU4⟩ := zh4 u1 u2 u3 u4
  have HM7 := zh (show ∀ W, (∀ b arr T, w6.heap.size ≤ b → b < w7.heap.size → BlockIs w7 b arr T → BlockIs W b arr T) → MmAt W m0 from fun W hk => hN0 W fun b arr T h1 h2 => hk b arr T h1 h2.lt h2)
  clear u1 u2 u3 u4 hN0 hp0
  have B7 := below2 (w := w) B6 b7
  have D7 := below2 D6 b7
  have z7 := b7.size
  have hX7 := hX6.below b7
  have hY7 := hY6.below b7
  refine hK.out _ _ (HSK.out _ D7) (fun hS7 => ?_)
  clear hK K
  try simp only [Act.put, zg1, zg2, zg3, zs1, zs2, zs3]
  refine headH_one (i := 5) rfl rfl (by kernel_rfl) (fun K hK => ?_)
  go_simp
  go_at_call 10
  refine (HRNW.out _ B7).mono ?_
  rintro e w8 ⟨q0, rfl, hN0, hp0, b8⟩
  have HQ0 := zh hp0
  have BB := below2 (w := w) B7 b8
  obtain ⟨r1, r2, r3, r4, rc1, rc2, rc3, rc4, u1, u2, u3, u4⟩ := mm_slices (hN0 w8 (HARB.out _ BB) (HARK.out _ BB) fun _ _ _ _ h => h)
  rw [u1, u2, u3, u4]
  obtain ⟨HV1, HV2, HV3, HV4⟩ := zh4 u1 u2 u3 u4
  have HQ8 := zh (show ∀ W, Below w.heap.size w W → (∀ b arr T, w7.heap.size ≤ b → b < w8.heap.size → BlockIs w8 b arr T → BlockIs W b arr T) → MmAt W q0 from fun W h0 hk => hN0 W (HARB.out _ h0) (HARK.out _ h0) fun b arr T h1 h2 => hk b arr T h1 h2.lt h2)
  clear u1 u2 u3 u4 hN0 hp0 BB
  have B8 := below2 (w := w) B7 b8
  have D8 := below2 D7 b8
  have z8 := b8.size
  have hX8 := hX7.below b8
  have hY8 := hY7.below b8
  have HM8 := zh (held_below HM7.out b8)
  refine hK.out _ _ (HSK.out _ D8) (fun hS8 => ?_)
  clear hK K
  try simp only [Act.put, zg1, zg2, zg3, zs1, zs2, zs3]
  refine headH_done (by kernel_rfl) ?_
  simp only [List.drop_succ_cons, List.drop_zero]
  have g6 := HG6.out; have g7 := HG7.out
  have hne : G6 ≠ G7 := by omega
  have hle6 : w.heap.size ≤ G6 := by have := HB4.out.size; have := D4.size; omega
  have hle7 : w.heap.size ≤ G7 := by have := HB4.out.size; have := D4.size; omega
  clear g6 g7
  go_wp2_with (first
   | (refine list_store_blk rfl 40 _ _ rfl G6 _ _ 40 hX8 rfl rfl (by kernel_rfl) rfl (by simp [Value.oneCell']) w.heap.size w B8 hle6 ?_; intro w20 hX20 hoth20 hsz20 bw20)
   | (refine list_store_blk rfl 40 _ _ rfl G7 _ _ 40 (hoth20 _ _ _ (Ne.symm hne) hY8) rfl rfl (by kernel_rfl) rfl (by simp [Value.oneCell']) w.heap.size w bw20 hle7 ?_; intro w21 hY21 hoth21 hsz21 bw21))
  refine NoPanic.normal ?_
  go_wp2_with fail
  go_meet
  have g6 := HG6.out; have g7 := HG7.out
  exact md_fin3 hne HU1.out HU2.out HU3.out HU4.out HV1.out HV2.out HV3.out HV4.out hX20 hY21 hoth20 hoth21 HM8.out HQ8.out (by omega) (by omega) (by omega) (by omega) HP0.out HQ0.out bw21 hle6 hle7
  )
  )
 case rest =>
  obtain ⟨X, Y, m0, q0, rfl, rfl, hXY, hX0, hY0, hHm, hHq, hp0, hq0, hB0, hXw, hYw⟩ := hcut
  obtain ⟨HX0, HY0, HHM0, HHQ0, HP0, HQ0, HB0⟩ := zh7 hX0 hY0 hHm hHq hp0 hq0 hB0
  have HSAME0 := zh (fun (W : World) (hb : Below wc.heap.size wc W) => mems_same m0 q0 W ((hHm.now hB0).below hb) ((hHq.now hB0).below hb) (hp0.trans hq0.symm))
  clear hX0 hY0 hHm hHq hp0 hq0 hB0
  go_at_K
  go_upto_region 6 with (first
   | (refine list_load_blk rfl 40 _ rfl X _ 40 HX0.out rfl Tryz.underlying40 (by kernel_rfl) ?_)
   | (refine list_load_blk rfl 40 _ rfl Y _ 40 HY0.out rfl Tryz.underlying40 (by kernel_rfl) ?_)
   | (go_at_call 11; (with_reducible refine (HSAME0.out _ (Below.refl _ _)).mono ?_); rintro e w1 ⟨rfl, b1⟩; have HX1 := zh (HX0.out.below b1); have HY1 := zh (HY0.out.below b1); have HM1 := zh (HHM0.out.below b1); have HQ1 := zh (HHQ0.out.below b1); have HB1 := zh (below2 HB0.out b1)))
  go_wp2_with fail
  go_loopw [9] (fun i' wr => ∃ (k : Nat) (m q : Mm), k ≤ l.length ∧ i' = .int .i64 k ∧ Hid (BlockIs wr X [.int .i64 m.inn, .int .i64 m.out, m.bans.1, m.book.1, m.parts.1, m.locks.1] 40) ∧ Hid (BlockIs wr Y [.int .i64 q.inn, .int .i64 q.out, q.bans.1, q.book.1, q.parts.1, q.locks.1] 40) ∧ Hid (Hold2 (fun b => b = X ∨ b = Y) w wr (fun W => MmAt W m)) ∧ Hid (Hold2 (fun b => b = X ∨ b = Y) w wr (fun W => MmAt W q)) ∧ Hid (m.pl = q.pl) ∧ Hid (SmallP m.pl (20 + k)) ∧ Hid (LocksOk m.pl) ∧ Hid (Below w.heap.size w wr)) (fun i' _ => l.length - (intOf i').toNat)
  case atStart => exact ⟨0, m0, q0, by omega, rfl, HX1.out, HY1.out, HM1.out, HQ1.out, HP0.out.trans HQ0.out.symm, (by rw [HP0.out]; exact HSMP.out), (by rw [HP0.out]; exact HLKP.out), HB1.out⟩
  case round =>
   clear HX0 HY0 HHM0 HHQ0 HP0 HQ0 HB0 HSAME0 HX1 HY1 HM1 HQ1 HB1 HSMP HLKP HNEW HRNW HARB HARK
   obtain ⟨k, m, q, hk, rfl, HX, HY, HOm, HOq, HPL, HS, HK, HB⟩ := hrel
   have q1 : (0 : Int) ≤ (k : Int) := by omega
   by_cases hlt : k < l.length
   ·have q2 : (k : Int) < (l.length : Int) := by omega
    obtain ⟨x, hx⟩ : ∃ x, l[k]? = some x := ⟨_, List.getElem?_eq_getElem hlt⟩
    obtain ⟨b, o, rfl, h4, h5, h6⟩ := hz3 (by omega)
    have hc := h6 k _ hx
    have HROE := zh (fun (W : World) (hb : Below w.heap.size w W) => (HL0.out.2 _ (List.mem_of_getElem? hx)).below hb)
    have hsm := HLG.out.2 _ (List.mem_of_getElem? hx)
    have k0 := keep HB.out h5 (hc 0 _ rfl)
    rw [Nat.add_zero] at k0
    have hcop := hc.opM
    have HOP := zh (fun (W : World) (hb : Below w.heap.size w W) => rangeAt_belowM hcop hb h5)
    clear hx h6 hz3 hc hcop
    by_cases hw : 0 ≤ x.who ∧ x.who ≤ 100
    ·have hwl : ¬ x.who < 0 := by omega
     have hwh : ¬ 100 < x.who := by omega
     have hwd : decide (x.who < 0) = false := decide_eq_false hwl
     have hwe : decide (100 < x.who) = false := decide_eq_false hwh
     have HD := zh (doOk_of HS.out (by omega) HK.out)
     have HDQ := zh (doOk_of (m := q) (by rw [← HPL.out]; exact HS.out) (by omega) (by rw [← HPL.out]; exact HK.out))
     have HMAY := zh (fun (W : World) (hb : Below wr.heap.size wr W) => memMay_any m x.op x.who W ((HOm.out.now HB.out).below hb) (HROE.out W (below2 HB.out hb)))
     have HRMY := zh (fun (W : World) (hb : Below wr.heap.size wr W) => refMay_any q x.op W ((HOq.out.now HB.out).below hb) (HROE.out W (below2 HB.out hb)))
     rw [← HPL.out] at HRMY
     generalize mayP m.pl x.op = mb at HMAY HRMY
     obtain ⟨HW, HSMO⟩ := zh2 hw hsm
     have HN1 := zh (show x.op.bans.2.length ≤ 1000 by omega); have HN2 := zh (show x.op.book.2.length ≤ 1000 by omega)
     clear hw hsm
     go_upto_region 12 with fail
     refine wp_region_noPanic ?_
     have hS0 : (fun wq => wq.rangeAt X 0 [.int .i64 m.inn, .int .i64 m.out, m.bans.1, m.book.1, m.parts.1, m.locks.1] ∧ wq.rangeAt Y 0 [.int .i64 q.inn, .int .i64 q.out, q.bans.1, q.book.1, q.parts.1, q.locks.1] ∧ wq.rangeAt b (o + k * 22 + 1) [.int .i64 x.op.kind, .int .i64 x.op.lock, .int .i64 x.op.lk, .int .i64 x.op.ls, .int .i64 x.op.lt, .int .i64 x.op.old, .int .i64 x.op.new, .int .i64 x.op.vn, .bool x.op.pe.en.ad.v6, .int .u64 x.op.pe.en.ad.hi, .int .u64 x.op.pe.en.ad.lo, .int .i64 x.op.pe.en.port, .bool x.op.pe.came, .int .i64 x.op.pe.since, .int .i64 x.op.pe.pts, .int .i64 x.op.pe.at_, .int .i64 x.op.pe.ping, .int .i64 x.op.pe.work, x.op.bans.1, x.op.book.1, .bool x.op.mark]) wr.drew := ⟨blk_range (BlockIs.drew' HX.out), blk_range (BlockIs.drew' HY.out), HOP.out _ HB.out.drew⟩
     refine wp_region_headH (fun wq => wq.rangeAt X 0 [.int .i64 m.inn, .int .i64 m.out, m.bans.1, m.book.1, m.parts.1, m.locks.1] ∧ wq.rangeAt Y 0 [.int .i64 q.inn, .int .i64 q.out, q.bans.1, q.book.1, q.parts.1, q.locks.1] ∧ wq.rangeAt b (o + k * 22 + 1) [.int .i64 x.op.kind, .int .i64 x.op.lock, .int .i64 x.op.lk, .int .i64 x.op.ls, .int .i64 x.op.lt, .int .i64 x.op.old, .int .i64 x.op.new, .int .i64 x.op.vn, .bool x.op.pe.en.ad.v6, .int .u64 x.op.pe.en.ad.hi, .int .u64 x.op.pe.en.ad.lo, .int .i64 x.op.pe.en.port, .bool x.op.pe.came, .int .i64 x.op.pe.since, .int .i64 x.op.pe.pts, .int .i64 x.op.pe.at_, .int .i64 x.op.pe.ping, .int .i64 x.op.pe.work, x.op.bans.1, x.op.book.1, .bool x.op.mark]) 15 (by kernel_rfl) (by kernel_rfl) ?_
     have D4 : Below wr.heap.size wr wr.drew := (Below.refl _ _).drew
     have HSK := zh (show ∀ W, Below wr.heap.size wr W → (fun wq => wq.rangeAt X 0 [.int .i64 m.inn, .int .i64 m.out, m.bans.1, m.book.1, m.parts.1, m.locks.1] ∧ wq.rangeAt Y 0 [.int .i64 q.inn, .int .i64 q.out, q.bans.1, q.book.1, q.parts.1, q.locks.1] ∧ wq.rangeAt b (o + k * 22 + 1) [.int .i64 x.op.kind, .int .i64 x.op.lock, .int .i64 x.op.lk, .int .i64 x.op.ls, .int .i64 x.op.lt, .int .i64 x.op.old, .int .i64 x.op.new, .int .i64 x.op.vn, .bool x.op.pe.en.ad.v6, .int .u64 x.op.pe.en.ad.hi, .int .u64 x.op.pe.en.ad.lo, .int .i64 x.op.pe.en.port, .bool x.op.pe.came, .int .i64 x.op.pe.since, .int .i64 x.op.pe.pts, .int .i64 x.op.pe.at_, .int .i64 x.op.pe.ping, .int .i64 x.op.pe.work, x.op.bans.1, x.op.book.1, .bool x.op.mark]) W from fun W hb => ⟨rangeAt_belowM (blk_range HX.out) hb HX.out.lt, rangeAt_belowM (blk_range HY.out) hb HY.out.lt, HOP.out _ (below2 HB.out hb)⟩)
     refine hQ 0 rfl (yieldsIf_load_mid (by rfl) _ _ rfl _ _ rfl _ _ (fun wq hq => hq.1) Tryz.underlying40 rfl (by kernel_rfl)) ?_
     refine hP 1 rfl ?_
     refine hP 2 rfl ?_
     refine hP 3 rfl ?_
     refine hP 4 rfl ?_
     refine hQ 5 rfl (yieldsIf_load_mid (by rfl) _ _ rfl _ _ rfl _ _ (fun wq hq => hq.2.2) Tryz.underlying56 rfl (by kernel_rfl)) ?_
     refine hP 6 rfl ?_
     refine hQ 8 rfl (yieldsIf_load_mid (by rfl) _ _ rfl _ _ rfl _ _ (fun wq hq => hq.2.1) Tryz.underlying40 rfl (by kernel_rfl)) ?_
     refine hP 9 rfl ?_
     refine hP 10 rfl ?_
     refine hP 11 rfl ?_
     refine hP 12 rfl ?_
     refine hQ 13 rfl (yieldsIf_load_mid (by rfl) _ _ rfl _ _ rfl _ _ (fun wq hq => hq.2.2) Tryz.underlying56 rfl (by kernel_rfl)) ?_
     refine headH_one (i := 7) rfl rfl (by kernel_rfl) (fun K hK => ?_)
     go_simp
     go_at_call 12
     refine (HMAY.out _ D4).mono ?_
     rintro e w5 ⟨rfl, b5⟩
     have D5 := below2 D4 b5
     refine hK.out _ _ (HSK.out _ D5) (fun hS5 => ?_)
     clear hK K
     try simp only [Act.put, zg1, zg2, zg3, zs1, zs2, zs3]
     refine headH_one (i := 14) rfl rfl (by kernel_rfl) (fun K hK => ?_)
     go_simp
     go_at_call 13
     refine (HRMY.out _ D5).mono ?_
     rintro e w7 ⟨rfl, b7⟩
     have D7 := below2 D5 b7
     refine hK.out _ _ (HSK.out _ D7) (fun hS7 => ?_)
     clear hK K
     try simp only [Act.put, zg1, zg2, zg3, zs1, zs2, zs3]
     refine headH_done (by kernel_rfl) ?_
     simp only [List.drop_succ_cons, List.drop_zero]
     go_wp2_with fail
     refine NoPanic.normal ?_
     have HX7 := zh (HX.out.below D7); have HY7 := zh (HY.out.below D7); have HOm7 := zh (HOm.out.below D7); have HOq7 := zh (HOq.out.below D7); have HB7 := zh (below2 HB.out D7)
     have HRW7 := zh D7.size
     clear HSK hS5 hS7 hS0 b5 b7 D4 D5 D7 HMAY HRMY HX HY HOm HOq HB k0
     go_upto_region 14 with fail
     go_cut [11, 12] from 39 to 124 (fun s11 s12 wx => MdDid X Y w w7 (doP m.pl x.op x.who) s11 s12 wx)
     case first =>
      refine wp_region_noPanic ?_
      have hS0 : (fun wq => wq.rangeAt X 0 [.int .i64 m.inn, .int .i64 m.out, m.bans.1, m.book.1, m.parts.1, m.locks.1] ∧ wq.rangeAt b (o + k * 22 + 1) [.int .i64 x.op.kind, .int .i64 x.op.lock, .int .i64 x.op.lk, .int .i64 x.op.ls, .int .i64 x.op.lt, .int .i64 x.op.old, .int .i64 x.op.new, .int .i64 x.op.vn, .bool x.op.pe.en.ad.v6, .int .u64 x.op.pe.en.ad.hi, .int .u64 x.op.pe.en.ad.lo, .int .i64 x.op.pe.en.port, .bool x.op.pe.came, .int .i64 x.op.pe.since, .int .i64 x.op.pe.pts, .int .i64 x.op.pe.at_, .int .i64 x.op.pe.ping, .int .i64 x.op.pe.work, x.op.bans.1, x.op.book.1, .bool x.op.mark]) w7.drew := ⟨blk_range (BlockIs.drew' HX7.out), HOP.out _ HB7.out.drew⟩
      refine wp_region_hldL (fun wq => wq.rangeAt X 0 [.int .i64 m.inn, .int .i64 m.out, m.bans.1, m.book.1, m.parts.1, m.locks.1] ∧ wq.rangeAt b (o + k * 22 + 1) [.int .i64 x.op.kind, .int .i64 x.op.lock, .int .i64 x.op.lk, .int .i64 x.op.ls, .int .i64 x.op.lt, .int .i64 x.op.old, .int .i64 x.op.new, .int .i64 x.op.vn, .bool x.op.pe.en.ad.v6, .int .u64 x.op.pe.en.ad.hi, .int .u64 x.op.pe.en.ad.lo, .int .i64 x.op.pe.en.port, .bool x.op.pe.came, .int .i64 x.op.pe.since, .int .i64 x.op.pe.pts, .int .i64 x.op.pe.at_, .int .i64 x.op.pe.ping, .int .i64 x.op.pe.work, x.op.bans.1, x.op.book.1, .bool x.op.mark]) 13 (by kernel_rfl) ?_
      have B8 : Below w.heap.size w w7.drew := HB7.out.drew
      have D8 : Below w7.heap.size w7 w7.drew := (Below.refl _ _).drew
      have hXl : X < w7.drew.heap.size := HX7.out.lt
      have hYl : Y < w7.drew.heap.size := HY7.out.lt
      have hbl : b < w7.drew.heap.size := Nat.lt_of_lt_of_le h5 B8.size
      have hw8 : w7.heap.size ≤ w7.drew.heap.size := Nat.le_refl _
      have HO8 := zh ((HOm7.out).below D8)
      generalize w7.drew = w8 at *
      have HSK := zh (show ∀ W, Below w8.heap.size w8 W → (fun wq => wq.rangeAt X 0 [.int .i64 m.inn, .int .i64 m.out, m.bans.1, m.book.1, m.parts.1, m.locks.1] ∧ wq.rangeAt b (o + k * 22 + 1) [.int .i64 x.op.kind, .int .i64 x.op.lock, .int .i64 x.op.lk, .int .i64 x.op.ls, .int .i64 x.op.lt, .int .i64 x.op.old, .int .i64 x.op.new, .int .i64 x.op.vn, .bool x.op.pe.en.ad.v6, .int .u64 x.op.pe.en.ad.hi, .int .u64 x.op.pe.en.ad.lo, .int .i64 x.op.pe.en.port, .bool x.op.pe.came, .int .i64 x.op.pe.since, .int .i64 x.op.pe.pts, .int .i64 x.op.pe.at_, .int .i64 x.op.pe.ping, .int .i64 x.op.pe.work, x.op.bans.1, x.op.book.1, .bool x.op.mark]) W from fun W hb => ⟨rangeAt_belowM hS0.1 hb hXl, rangeAt_belowM hS0.2 hb hbl⟩)
      have HDO := zh (fun (W : World) (hb : Below w8.heap.size w8 W) => memDo_off2 (fun b => (fun b => b = X ∨ b = Y) b ∨ (w8.heap.size ≤ b ∧ b < W.heap.size)) w m x.op x.who W (below2 B8 hb) (fun b hb2 => by (have := hb.size; rcases hb2 with (h | h) | h <;> omega)) (HO8.out.widen hb) (HROE.out W (below2 B8 hb)) HW.out HD.out HN1.out HN2.out)
      have F8 : Below w8.heap.size w8 w8 := Below.refl _ _
      refine sQ 0 rfl (yieldsIf_load_mid (by rfl) _ _ rfl _ _ rfl _ _ (fun wq hq => hq.1) Tryz.underlying40 rfl (by kernel_rfl)) ?_
      refine sP 1 rfl ?_
      refine sP 2 rfl ?_
      refine sP 3 rfl ?_
      refine sP 4 rfl ?_
      refine sQ 5 rfl (yieldsIf_load_mid (by rfl) _ _ rfl _ _ rfl _ _ (fun wq hq => hq.2) Tryz.underlying56 rfl (by kernel_rfl)) ?_
      refine sP 6 rfl ?_
      refine hldL_three (i := 7) (j := 11) (k := 12) rfl rfl rfl (by kernel_rfl) (fun K hK => ?_) (fun K hK => ?_) (fun K hK => ?_)
      focus (
      go_simp
      go_at_call 14
      refine (HDO.out _ F8).mono ?_
      rintro e w9 ⟨m2, v2, rfl, hO2, hV2, hp2, hq2, b9⟩
      obtain ⟨HP2, HQ2⟩ := zh2 hp2 hq2
      have BB := below2 (w := w) B8 b9
      obtain ⟨x1, x2, x3, x4, xc1, xc2, xc3, xc4, u1, u2, u3, u4⟩ := mm_slices (hO2.now BB)
      obtain ⟨_, va, vc, u5, _⟩ := ba_open (hV2.now BB).1
      obtain ⟨_, vka, vkc, u6, _⟩ := ey_open (hV2.now BB).2
      rw [u1, u2, u3, u4, u5, u6]
      obtain ⟨HU1, HU2, HU3, HU4, HU5, HU6⟩ := zh6 u1 u2 u3 u4 u5 u6
      have HM9 := zh hO2.future; have HV9 := zh hV2.future
      clear u1 u2 u3 u4 u5 u6 hO2 hV2 hp2 hq2 BB
      have B9 := below2 (w := w) B8 b9
      have D9 := below2 (w := w7) D8 b9
      have F9 := below2 F8 b9
      have z9 := b9.size
      have hSL := HSK.out _ F9
      refine hK.out _ _ (fun _ => hSL) (fun _ => ?_)
      clear hK K
      try simp only [Act.put, zg1, zg2, zg3, zs1, zs2, zs3]
      refine sP 8 rfl ?_
      refine sP 9 rfl ?_
      refine uP 10 rfl (fun _ => hSL) ?_
      clear hSL
      refine hldL_two (i := 11) (j := 12) rfl rfl (by kernel_rfl) (fun K hK => ?_) (fun K hK => ?_)
      focus (
      go_simp
      refine knm fun w10 b10 hA10 zz => ?_
      obtain ⟨A1, hg⟩ : ∃ G, G = w9.heap.size := ⟨_, rfl⟩
      rw [← hg] at hA10 ⊢
      have HG11 := zh (And.intro hg zz)
      clear hg zz
      have B10 := below2 (w := w) B9 b10
      have D10 := below2 (w := w7) D9 b10
      have F10 := below2 F9 b10
      have z10 := b10.size
      have HM10 := zh (HM9.out.below b10); have HV10 := zh (HV9.out.below b10)
      refine hK.out _ _ (fun _ => HSK.out _ F10) (fun _ => ?_)
      clear hK K
      try simp only [Act.put, zg1, zg2, zg3, zs1, zs2, zs3]
      refine hldL_one (i := 12) rfl (by kernel_rfl) (fun K hK => ?_)
      go_simp
      refine knm fun w11 b11 hC11 zz => ?_
      obtain ⟨A2, hg⟩ : ∃ G, G = w10.heap.size := ⟨_, rfl⟩
      rw [← hg] at hC11 ⊢
      have HG12 := zh (And.intro hg zz)
      clear hg zz
      have B11 := below2 (w := w) B10 b11
      have D11 := below2 (w := w7) D10 b11
      have F11 := below2 F10 b11
      have z11 := b11.size
      have hA11 := hA10.below b11
      have HM11 := zh (HM10.out.below b11); have HV11 := zh (HV10.out.below b11)
      refine hK.out _ _ (fun _ => HSK.out _ F11) (fun _ => ?_)
      clear hK K
      try simp only [Act.put, zg1, zg2, zg3, zs1, zs2, zs3]
      have g1 := HG11.out; have g2 := HG12.out
      have hne : A1 ≠ A2 := by omega
      have hl1 : w8.heap.size ≤ A1 := by omega
      have hl2 : w8.heap.size ≤ A2 := by omega
      clear g1 g2
      refine hldL_store (i := 13) rfl (by kernel_rfl) (by decide) rfl 40 _ _ rfl A1 _ _ 40 hA11 rfl rfl (by kernel_rfl) rfl (by simp [Value.oneCell']) w7.heap.size w7 D11 (by omega) ?_
      intro w20 hA20 hoth20 bw20
      try simp only [Act.put, zg1, zg2, zg3, zs1, zs2, zs3]
      refine hldL_store (i := 14) rfl (by kernel_rfl) (by decide) rfl 54 _ _ rfl A2 _ _ 54 (hoth20 _ _ _ (Ne.symm hne) hC11) rfl rfl (by kernel_rfl) rfl (by simp [Value.oneCell']) w7.heap.size w7 bw20 (by omega) ?_
      intro w21 hC21 hoth21 bw21
      try simp only [Act.put, zg1, zg2, zg3, zs1, zs2, zs3]
      refine hldL_done (by kernel_rfl) ?_
      refine NoPanic.normal ?_
      go_wp2_with fail
      go_meet
      have g1 := HG11.out; have g2 := HG12.out
      exact md_finDo hne (by omega) (by omega) HU1.out HU2.out HU3.out HU4.out HU5.out HU6.out hA20 hC21 hoth20 hoth21 HM11.out HV11.out (fun b hb => Or.inl (Or.inl hb)) (by omega) (by omega) HP2.out HQ2.out bw21 (below2 HB7.out bw21)
      )
      focus (
      go_simp
      refine knm fun w10 b10 hC10 zz => ?_
      obtain ⟨A2, hg⟩ : ∃ G, G = w9.heap.size := ⟨_, rfl⟩
      rw [← hg] at hC10 ⊢
      have HG12 := zh (And.intro hg zz)
      clear hg zz
      have B10 := below2 (w := w) B9 b10
      have D10 := below2 (w := w7) D9 b10
      have F10 := below2 F9 b10
      have z10 := b10.size
      have HM10 := zh (HM9.out.below b10); have HV10 := zh (HV9.out.below b10)
      refine hK.out _ _ (fun _ => HSK.out _ F10) (fun _ => ?_)
      clear hK K
      try simp only [Act.put, zg1, zg2, zg3, zs1, zs2, zs3]
      refine hldL_one (i := 11) rfl (by kernel_rfl) (fun K hK => ?_)
      go_simp
      refine knm fun w11 b11 hA11 zz => ?_
      obtain ⟨A1, hg⟩ : ∃ G, G = w10.heap.size := ⟨_, rfl⟩
      rw [← hg] at hA11 ⊢
      have HG11 := zh (And.intro hg zz)
      clear hg zz
      have B11 := below2 (w := w) B10 b11
      have D11 := below2 (w := w7) D10 b11
      have F11 := below2 F10 b11
      have z11 := b11.size
      have hC11 := hC10.below b11
      have HM11 := zh (HM10.out.below b11); have HV11 := zh (HV10.out.below b11)
      refine hK.out _ _ (fun _ => HSK.out _ F11) (fun _ => ?_)
      clear hK K
      try simp only [Act.put, zg1, zg2, zg3, zs1, zs2, zs3]
      have g1 := HG11.out; have g2 := HG12.out
      have hne : A1 ≠ A2 := by omega
      have hl1 : w8.heap.size ≤ A1 := by omega
      have hl2 : w8.heap.size ≤ A2 := by omega
      clear g1 g2
      refine hldL_store (i := 13) rfl (by kernel_rfl) (by decide) rfl 40 _ _ rfl A1 _ _ 40 hA11 rfl rfl (by kernel_rfl) rfl (by simp [Value.oneCell']) w7.heap.size w7 D11 (by omega) ?_
      intro w20 hA20 hoth20 bw20
      try simp only [Act.put, zg1, zg2, zg3, zs1, zs2, zs3]
      refine hldL_store (i := 14) rfl (by kernel_rfl) (by decide) rfl 54 _ _ rfl A2 _ _ 54 (hoth20 _ _ _ (Ne.symm hne) hC11) rfl rfl (by kernel_rfl) rfl (by simp [Value.oneCell']) w7.heap.size w7 bw20 (by omega) ?_
      intro w21 hC21 hoth21 bw21
      try simp only [Act.put, zg1, zg2, zg3, zs1, zs2, zs3]
      refine hldL_done (by kernel_rfl) ?_
      refine NoPanic.normal ?_
      go_wp2_with fail
      go_meet
      have g1 := HG11.out; have g2 := HG12.out
      exact md_finDo hne (by omega) (by omega) HU1.out HU2.out HU3.out HU4.out HU5.out HU6.out hA20 hC21 hoth20 hoth21 HM11.out HV11.out (fun b hb => Or.inl (Or.inl hb)) (by omega) (by omega) HP2.out HQ2.out bw21 (below2 HB7.out bw21)
      )
      )
      focus (
      go_simp
      refine knm fun w9 b9 hA9 zz => ?_
      obtain ⟨A1, hg⟩ : ∃ G, G = w8.heap.size := ⟨_, rfl⟩
      rw [← hg] at hA9 ⊢
      have HG11 := zh (And.intro hg zz)
      clear hg zz
      have B9 := below2 (w := w) B8 b9
      have D9 := below2 (w := w7) D8 b9
      have F9 := below2 F8 b9
      have z9 := b9.size
      refine hK.out _ _ (fun _ => HSK.out _ F9) (fun _ => ?_)
      clear hK K
      try simp only [Act.put, zg1, zg2, zg3, zs1, zs2, zs3]
      refine hldL_two (i := 7) (j := 12) rfl rfl (by kernel_rfl) (fun K hK => ?_) (fun K hK => ?_)
      focus (
      go_simp
      go_at_call 14
      refine (HDO.out _ F9).mono ?_
      rintro e w10 ⟨m2, v2, rfl, hO2, hV2, hp2, hq2, b10⟩
      obtain ⟨HP2, HQ2⟩ := zh2 hp2 hq2
      have BB := below2 (w := w) B9 b10
      obtain ⟨x1, x2, x3, x4, xc1, xc2, xc3, xc4, u1, u2, u3, u4⟩ := mm_slices (hO2.now BB)
      obtain ⟨_, va, vc, u5, _⟩ := ba_open (hV2.now BB).1
      obtain ⟨_, vka, vkc, u6, _⟩ := ey_open (hV2.now BB).2
      rw [u1, u2, u3, u4, u5, u6]
      obtain ⟨HU1, HU2, HU3, HU4, HU5, HU6⟩ := zh6 u1 u2 u3 u4 u5 u6
      have HM10 := zh hO2.future; have HV10 := zh hV2.future
      clear u1 u2 u3 u4 u5 u6 hO2 hV2 hp2 hq2 BB
      have B10 := below2 (w := w) B9 b10
      have D10 := below2 (w := w7) D9 b10
      have F10 := below2 F9 b10
      have z10 := b10.size
      have hA10 := hA9.below b10
      have hSL := HSK.out _ F10
      refine hK.out _ _ (fun _ => hSL) (fun _ => ?_)
      clear hK K
      try simp only [Act.put, zg1, zg2, zg3, zs1, zs2, zs3]
      refine sP 8 rfl ?_
      refine sP 9 rfl ?_
      refine uP 10 rfl (fun _ => hSL) ?_
      clear hSL
      refine hldL_one (i := 12) rfl (by kernel_rfl) (fun K hK => ?_)
      go_simp
      refine knm fun w11 b11 hC11 zz => ?_
      obtain ⟨A2, hg⟩ : ∃ G, G = w10.heap.size := ⟨_, rfl⟩
      rw [← hg] at hC11 ⊢
      have HG12 := zh (And.intro hg zz)
      clear hg zz
      have B11 := below2 (w := w) B10 b11
      have D11 := below2 (w := w7) D10 b11
      have F11 := below2 F10 b11
      have z11 := b11.size
      have hA11 := hA10.below b11
      have HM11 := zh (HM10.out.below b11); have HV11 := zh (HV10.out.below b11)
      refine hK.out _ _ (fun _ => HSK.out _ F11) (fun _ => ?_)
      clear hK K
      try simp only [Act.put, zg1, zg2, zg3, zs1, zs2, zs3]
      have g1 := HG11.out; have g2 := HG12.out
      have hne : A1 ≠ A2 := by omega
      have hl1 : w8.heap.size ≤ A1 := by omega
      have hl2 : w8.heap.size ≤ A2 := by omega
      clear g1 g2
      refine hldL_store (i := 13) rfl (by kernel_rfl) (by decide) rfl 40 _ _ rfl A1 _ _ 40 hA11 rfl rfl (by kernel_rfl) rfl (by simp [Value.oneCell']) w7.heap.size w7 D11 (by omega) ?_
      intro w20 hA20 hoth20 bw20
      try simp only [Act.put, zg1, zg2, zg3, zs1, zs2, zs3]
      refine hldL_store (i := 14) rfl (by kernel_rfl) (by decide) rfl 54 _ _ rfl A2 _ _ 54 (hoth20 _ _ _ (Ne.symm hne) hC11) rfl rfl (by kernel_rfl) rfl (by simp [Value.oneCell']) w7.heap.size w7 bw20 (by omega) ?_
      intro w21 hC21 hoth21 bw21
      try simp only [Act.put, zg1, zg2, zg3, zs1, zs2, zs3]
      refine hldL_done (by kernel_rfl) ?_
      refine NoPanic.normal ?_
      go_wp2_with fail
      go_meet
      have g1 := HG11.out; have g2 := HG12.out
      exact md_finDo hne (by omega) (by omega) HU1.out HU2.out HU3.out HU4.out HU5.out HU6.out hA20 hC21 hoth20 hoth21 HM11.out HV11.out (fun b hb => Or.inl (Or.inl hb)) (by omega) (by omega) HP2.out HQ2.out bw21 (below2 HB7.out bw21)
      )
      focus (
      go_simp
      refine knm fun w10 b10 hC10 zz => ?_
      obtain ⟨A2, hg⟩ : ∃ G, G = w9.heap.size := ⟨_, rfl⟩
      rw [← hg] at hC10 ⊢
      have HG12 := zh (And.intro hg zz)
      clear hg zz
      have B10 := below2 (w := w) B9 b10
      have D10 := below2 (w := w7) D9 b10
      have F10 := below2 F9 b10
      have z10 := b10.size
      have hA10 := hA9.below b10
      refine hK.out _ _ (fun _ => HSK.out _ F10) (fun _ => ?_)
      clear hK K
      try simp only [Act.put, zg1, zg2, zg3, zs1, zs2, zs3]
      refine hldL_one (i := 7) rfl (by kernel_rfl) (fun K hK => ?_)
      go_simp
      go_at_call 14
      refine (HDO.out _ F10).mono ?_
      rintro e w11 ⟨m2, v2, rfl, hO2, hV2, hp2, hq2, b11⟩
      obtain ⟨HP2, HQ2⟩ := zh2 hp2 hq2
      have BB := below2 (w := w) B10 b11
      obtain ⟨x1, x2, x3, x4, xc1, xc2, xc3, xc4, u1, u2, u3, u4⟩ := mm_slices (hO2.now BB)
      obtain ⟨_, va, vc, u5, _⟩ := ba_open (hV2.now BB).1
      obtain ⟨_, vka, vkc, u6, _⟩ := ey_open (hV2.now BB).2
      rw [u1, u2, u3, u4, u5, u6]
      obtain ⟨HU1, HU2, HU3, HU4, HU5, HU6⟩ := zh6 u1 u2 u3 u4 u5 u6
      have HM11 := zh hO2.future; have HV11 := zh hV2.future
      clear u1 u2 u3 u4 u5 u6 hO2 hV2 hp2 hq2 BB
      have B11 := below2 (w := w) B10 b11
      have D11 := below2 (w := w7) D10 b11
      have F11 := below2 F10 b11
      have z11 := b11.size
      have hA11 := hA10.below b11
      have hC11 := hC10.below b11
      have hSL := HSK.out _ F11
      refine hK.out _ _ (fun _ => hSL) (fun _ => ?_)
      clear hK K
      try simp only [Act.put, zg1, zg2, zg3, zs1, zs2, zs3]
      refine sP 8 rfl ?_
      refine sP 9 rfl ?_
      refine uP 10 rfl (fun _ => hSL) ?_
      clear hSL
      have g1 := HG11.out; have g2 := HG12.out
      have hne : A1 ≠ A2 := by omega
      have hl1 : w8.heap.size ≤ A1 := by omega
      have hl2 : w8.heap.size ≤ A2 := by omega
      clear g1 g2
      refine hldL_store (i := 13) rfl (by kernel_rfl) (by decide) rfl 40 _ _ rfl A1 _ _ 40 hA11 rfl rfl (by kernel_rfl) rfl (by simp [Value.oneCell']) w7.heap.size w7 D11 (by omega) ?_
      intro w20 hA20 hoth20 bw20
      try simp only [Act.put, zg1, zg2, zg3, zs1, zs2, zs3]
      refine hldL_store (i := 14) rfl (by kernel_rfl) (by decide) rfl 54 _ _ rfl A2 _ _ 54 (hoth20 _ _ _ (Ne.symm hne) hC11) rfl rfl (by kernel_rfl) rfl (by simp [Value.oneCell']) w7.heap.size w7 bw20 (by omega) ?_
      intro w21 hC21 hoth21 bw21
      try simp only [Act.put, zg1, zg2, zg3, zs1, zs2, zs3]
      refine hldL_done (by kernel_rfl) ?_
      refine NoPanic.normal ?_
      go_wp2_with fail
      go_meet
      have g1 := HG11.out; have g2 := HG12.out
      exact md_finDo hne (by omega) (by omega) HU1.out HU2.out HU3.out HU4.out HU5.out HU6.out hA20 hC21 hoth20 hoth21 HM11.out HV11.out (fun b hb => Or.inl (Or.inl hb)) (by omega) (by omega) HP2.out HQ2.out bw21 (below2 HB7.out bw21)
      )
      )
      focus (
      go_simp
      refine knm fun w9 b9 hC9 zz => ?_
      obtain ⟨A2, hg⟩ : ∃ G, G = w8.heap.size := ⟨_, rfl⟩
      rw [← hg] at hC9 ⊢
      have HG12 := zh (And.intro hg zz)
      clear hg zz
      have B9 := below2 (w := w) B8 b9
      have D9 := below2 (w := w7) D8 b9
      have F9 := below2 F8 b9
      have z9 := b9.size
      refine hK.out _ _ (fun _ => HSK.out _ F9) (fun _ => ?_)
      clear hK K
      try simp only [Act.put, zg1, zg2, zg3, zs1, zs2, zs3]
      refine hldL_two (i := 7) (j := 11) rfl rfl (by kernel_rfl) (fun K hK => ?_) (fun K hK => ?_)
      focus (
      go_simp
      go_at_call 14
      refine (HDO.out _ F9).mono ?_
      rintro e w10 ⟨m2, v2, rfl, hO2, hV2, hp2, hq2, b10⟩
      obtain ⟨HP2, HQ2⟩ := zh2 hp2 hq2
      have BB := below2 (w := w) B9 b10
      obtain ⟨x1, x2, x3, x4, xc1, xc2, xc3, xc4, u1, u2, u3, u4⟩ := mm_slices (hO2.now BB)
      obtain ⟨_, va, vc, u5, _⟩ := ba_open (hV2.now BB).1
      obtain ⟨_, vka, vkc, u6, _⟩ := ey_open (hV2.now BB).2
      rw [u1, u2, u3, u4, u5, u6]
      obtain ⟨HU1, HU2, HU3, HU4, HU5, HU6⟩ := zh6 u1 u2 u3 u4 u5 u6
      have HM10 := zh hO2.future; have HV10 := zh hV2.future
      clear u1 u2 u3 u4 u5 u6 hO2 hV2 hp2 hq2 BB
      have B10 := below2 (w := w) B9 b10
      have D10 := below2 (w := w7) D9 b10
      have F10 := below2 F9 b10
      have z10 := b10.size
      have hC10 := hC9.below b10
      have hSL := HSK.out _ F10
      refine hK.out _ _ (fun _ => hSL) (fun _ => ?_)
      clear hK K
      try simp only [Act.put, zg1, zg2, zg3, zs1, zs2, zs3]
      refine sP 8 rfl ?_
      refine sP 9 rfl ?_
      refine uP 10 rfl (fun _ => hSL) ?_
      clear hSL
      refine hldL_one (i := 11) rfl (by kernel_rfl) (fun K hK => ?_)
      go_simp
      refine knm fun w11 b11 hA11 zz => ?_
      obtain ⟨A1, hg⟩ : ∃ G, G = w10.heap.size := ⟨_, rfl⟩
      rw [← hg] at hA11 ⊢
      have HG11 := zh (And.intro hg zz)
      clear hg zz
      have B11 := below2 (w := w) B10 b11
      have D11 := below2 (w := w7) D10 b11
      have F11 := below2 F10 b11
      have z11 := b11.size
      have hC11 := hC10.below b11
      have HM11 := zh (HM10.out.below b11); have HV11 := zh (HV10.out.below b11)
      refine hK.out _ _ (fun _ => HSK.out _ F11) (fun _ => ?_)
      clear hK K
      try simp only [Act.put, zg1, zg2, zg3, zs1, zs2, zs3]
      have g1 := HG11.out; have g2 := HG12.out
      have hne : A1 ≠ A2 := by omega
      have hl1 : w8.heap.size ≤ A1 := by omega
      have hl2 : w8.heap.size ≤ A2 := by omega
      clear g1 g2
      refine hldL_store (i := 13) rfl (by kernel_rfl) (by decide) rfl 40 _ _ rfl A1 _ _ 40 hA11 rfl rfl (by kernel_rfl) rfl (by simp [Value.oneCell']) w7.heap.size w7 D11 (by omega) ?_
      intro w20 hA20 hoth20 bw20
      try simp only [Act.put, zg1, zg2, zg3, zs1, zs2, zs3]
      refine hldL_store (i := 14) rfl (by kernel_rfl) (by decide) rfl 54 _ _ rfl A2 _ _ 54 (hoth20 _ _ _ (Ne.symm hne) hC11) rfl rfl (by kernel_rfl) rfl (by simp [Value.oneCell']) w7.heap.size w7 bw20 (by omega) ?_
      intro w21 hC21 hoth21 bw21
      try simp only [Act.put, zg1, zg2, zg3, zs1, zs2, zs3]
      refine hldL_done (by kernel_rfl) ?_
      refine NoPanic.normal ?_
      go_wp2_with fail
      go_meet
      have g1 := HG11.out; have g2 := HG12.out
      exact md_finDo hne (by omega) (by omega) HU1.out HU2.out HU3.out HU4.out HU5.out HU6.out hA20 hC21 hoth20 hoth21 HM11.out HV11.out (fun b hb => Or.inl (Or.inl hb)) (by omega) (by omega) HP2.out HQ2.out bw21 (below2 HB7.out bw21)
      )
      focus (
      go_simp
      refine knm fun w10 b10 hA10 zz => ?_
      obtain ⟨A1, hg⟩ : ∃ G, G = w9.heap.size := ⟨_, rfl⟩
      rw [← hg] at hA10 ⊢
      have HG11 := zh (And.intro hg zz)
      clear hg zz
      have B10 := below2 (w := w) B9 b10
      have D10 := below2 (w := w7) D9 b10
      have F10 := below2 F9 b10
      have z10 := b10.size
      have hC10 := hC9.below b10
      refine hK.out _ _ (fun _ => HSK.out _ F10) (fun _ => ?_)
      clear hK K
      try simp only [Act.put, zg1, zg2, zg3, zs1, zs2, zs3]
      refine hldL_one (i := 7) rfl (by kernel_rfl) (fun K hK => ?_)
      go_simp
      go_at_call 14
      refine (HDO.out _ F10).mono ?_
      rintro e w11 ⟨m2, v2, rfl, hO2, hV2, hp2, hq2, b11⟩
      obtain ⟨HP2, HQ2⟩ := zh2 hp2 hq2
      have BB := below2 (w := w) B10 b11
      obtain ⟨x1, x2, x3, x4, xc1, xc2, xc3, xc4, u1, u2, u3, u4⟩ := mm_slices (hO2.now BB)
      obtain ⟨_, va, vc, u5, _⟩ := ba_open (hV2.now BB).1
      obtain ⟨_, vka, vkc, u6, _⟩ := ey_open (hV2.now BB).2
      rw [u1, u2, u3, u4, u5, u6]
      obtain ⟨HU1, HU2, HU3, HU4, HU5, HU6⟩ := zh6 u1 u2 u3 u4 u5 u6
      have HM11 := zh hO2.future; have HV11 := zh hV2.future
      clear u1 u2 u3 u4 u5 u6 hO2 hV2 hp2 hq2 BB
      have B11 := below2 (w := w) B10 b11
      have D11 := below2 (w := w7) D10 b11
      have F11 := below2 F10 b11
      have z11 := b11.size
      have hA11 := hA10.below b11
      have hC11 := hC10.below b11
      have hSL := HSK.out _ F11
      refine hK.out _ _ (fun _ => hSL) (fun _ => ?_)
      clear hK K
      try simp only [Act.put, zg1, zg2, zg3, zs1, zs2, zs3]
      refine sP 8 rfl ?_
      refine sP 9 rfl ?_
      refine uP 10 rfl (fun _ => hSL) ?_
      clear hSL
      have g1 := HG11.out; have g2 := HG12.out
      have hne : A1 ≠ A2 := by omega
      have hl1 : w8.heap.size ≤ A1 := by omega
      have hl2 : w8.heap.size ≤ A2 := by omega
      clear g1 g2
      refine hldL_store (i := 13) rfl (by kernel_rfl) (by decide) rfl 40 _ _ rfl A1 _ _ 40 hA11 rfl rfl (by kernel_rfl) rfl (by simp [Value.oneCell']) w7.heap.size w7 D11 (by omega) ?_
      intro w20 hA20 hoth20 bw20
      try simp only [Act.put, zg1, zg2, zg3, zs1, zs2, zs3]
      refine hldL_store (i := 14) rfl (by kernel_rfl) (by decide) rfl 54 _ _ rfl A2 _ _ 54 (hoth20 _ _ _ (Ne.symm hne) hC11) rfl rfl (by kernel_rfl) rfl (by simp [Value.oneCell']) w7.heap.size w7 bw20 (by omega) ?_
      intro w21 hC21 hoth21 bw21
      try simp only [Act.put, zg1, zg2, zg3, zs1, zs2, zs3]
      refine hldL_done (by kernel_rfl) ?_
      refine NoPanic.normal ?_
      go_wp2_with fail
      go_meet
      have g1 := HG11.out; have g2 := HG12.out
      exact md_finDo hne (by omega) (by omega) HU1.out HU2.out HU3.out HU4.out HU5.out HU6.out hA20 hC21 hoth20 hoth21 HM11.out HV11.out (fun b hb => Or.inl (Or.inl hb)) (by omega) (by omega) HP2.out HQ2.out bw21 (below2 HB7.out bw21)
      )
      )
     case rest =>
      obtain ⟨A1, A2, m2, v2, rfl, rfl, hA1, hA2, hA12, hA1s, hA2s, hHm, hHv, hpm, hpv, hD, hBw⟩ := hcut
      have hA1X : A1 ≠ X := by have := HX7.out.lt; omega
      have hA1Y : A1 ≠ Y := by have := HY7.out.lt; omega
      have hA2X : A2 ≠ X := by have := HX7.out.lt; omega
      have hA2Y : A2 ≠ Y := by have := HY7.out.lt; omega
      have HX7 := zh (HX7.out.below hD); have HY7 := zh (HY7.out.below hD); have HOq7 := zh (HOq7.out.below hD); have HB7 := zh hBw
      obtain ⟨HA1, HA2, HOm7, HOv7, HPM1, HPV1⟩ := zh6 hA1 hA2 hHm hHv hpm hpv
      obtain ⟨x1, x2, x3, x4, xc1, xc2, xc3, xc4, u1, u2, u3, u4⟩ := mm_slices (hHm.now hBw)
      obtain ⟨HU1, HU2, HU3, HU4⟩ := zh4 u1 u2 u3 u4
      clear hA1 hA2 hHm hHv hpm hpv hBw hD hA1s hA2s u1 u2 u3 u4
      go_at_K
      go_upto_region 15 with fail
      go_cut [13, 14] from 39 to 124 (fun s11 s12 wx => MdDid X Y w wc (doP q.pl x.op x.who) s11 s12 wx)
      case first =>
       refine wp_region_noPanic ?_
       have hS0 : (fun wq => wq.rangeAt Y 0 [.int .i64 q.inn, .int .i64 q.out, q.bans.1, q.book.1, q.parts.1, q.locks.1] ∧ wq.rangeAt b (o + k * 22 + 1) [.int .i64 x.op.kind, .int .i64 x.op.lock, .int .i64 x.op.lk, .int .i64 x.op.ls, .int .i64 x.op.lt, .int .i64 x.op.old, .int .i64 x.op.new, .int .i64 x.op.vn, .bool x.op.pe.en.ad.v6, .int .u64 x.op.pe.en.ad.hi, .int .u64 x.op.pe.en.ad.lo, .int .i64 x.op.pe.en.port, .bool x.op.pe.came, .int .i64 x.op.pe.since, .int .i64 x.op.pe.pts, .int .i64 x.op.pe.at_, .int .i64 x.op.pe.ping, .int .i64 x.op.pe.work, x.op.bans.1, x.op.book.1, .bool x.op.mark]) wc.drew := ⟨blk_range (BlockIs.drew' HY7.out), HOP.out _ HB7.out.drew⟩
       refine wp_region_hldL (fun wq => wq.rangeAt Y 0 [.int .i64 q.inn, .int .i64 q.out, q.bans.1, q.book.1, q.parts.1, q.locks.1] ∧ wq.rangeAt b (o + k * 22 + 1) [.int .i64 x.op.kind, .int .i64 x.op.lock, .int .i64 x.op.lk, .int .i64 x.op.ls, .int .i64 x.op.lt, .int .i64 x.op.old, .int .i64 x.op.new, .int .i64 x.op.vn, .bool x.op.pe.en.ad.v6, .int .u64 x.op.pe.en.ad.hi, .int .u64 x.op.pe.en.ad.lo, .int .i64 x.op.pe.en.port, .bool x.op.pe.came, .int .i64 x.op.pe.since, .int .i64 x.op.pe.pts, .int .i64 x.op.pe.at_, .int .i64 x.op.pe.ping, .int .i64 x.op.pe.work, x.op.bans.1, x.op.book.1, .bool x.op.mark]) 13 (by kernel_rfl) ?_
       have B8 : Below w.heap.size w wc.drew := HB7.out.drew
       have D8 : Below wc.heap.size wc wc.drew := (Below.refl _ _).drew
       have hXl : X < wc.drew.heap.size := HX7.out.lt
       have hYl : Y < wc.drew.heap.size := HY7.out.lt
       have hbl : b < wc.drew.heap.size := Nat.lt_of_lt_of_le h5 B8.size
       have hw8 : wc.heap.size ≤ wc.drew.heap.size := Nat.le_refl _
       have HO8 := zh ((HOq7.out).below D8)
       generalize wc.drew = w8 at *
       have HSK := zh (show ∀ W, Below w8.heap.size w8 W → (fun wq => wq.rangeAt Y 0 [.int .i64 q.inn, .int .i64 q.out, q.bans.1, q.book.1, q.parts.1, q.locks.1] ∧ wq.rangeAt b (o + k * 22 + 1) [.int .i64 x.op.kind, .int .i64 x.op.lock, .int .i64 x.op.lk, .int .i64 x.op.ls, .int .i64 x.op.lt, .int .i64 x.op.old, .int .i64 x.op.new, .int .i64 x.op.vn, .bool x.op.pe.en.ad.v6, .int .u64 x.op.pe.en.ad.hi, .int .u64 x.op.pe.en.ad.lo, .int .i64 x.op.pe.en.port, .bool x.op.pe.came, .int .i64 x.op.pe.since, .int .i64 x.op.pe.pts, .int .i64 x.op.pe.at_, .int .i64 x.op.pe.ping, .int .i64 x.op.pe.work, x.op.bans.1, x.op.book.1, .bool x.op.mark]) W from fun W hb => ⟨rangeAt_belowM hS0.1 hb hYl, rangeAt_belowM hS0.2 hb hbl⟩)
       have HDO := zh (fun (W : World) (hb : Below w8.heap.size w8 W) => refDo_off (fun b => (fun b => b = X ∨ b = Y) b ∨ (w8.heap.size ≤ b ∧ b < W.heap.size)) w q x.op x.who W (below2 B8 hb) (fun b hb2 => by (have := hb.size; rcases hb2 with (h | h) | h <;> omega)) (HO8.out.widen hb) (Hold2.old fun W2 h2 => HROE.out W2 h2) HW.out HDQ.out)
       have F8 : Below w8.heap.size w8 w8 := Below.refl _ _
       refine sQ 0 rfl (yieldsIf_load_mid (by rfl) _ _ rfl _ _ rfl _ _ (fun wq hq => hq.1) Tryz.underlying40 rfl (by kernel_rfl)) ?_
       refine sP 1 rfl ?_
       refine sP 2 rfl ?_
       refine sP 3 rfl ?_
       refine sP 4 rfl ?_
       refine sQ 5 rfl (yieldsIf_load_mid (by rfl) _ _ rfl _ _ rfl _ _ (fun wq hq => hq.2) Tryz.underlying56 rfl (by kernel_rfl)) ?_
       refine sP 6 rfl ?_
       refine hldL_three (i := 7) (j := 11) (k := 12) rfl rfl rfl (by kernel_rfl) (fun K hK => ?_) (fun K hK => ?_) (fun K hK => ?_)
       focus (
       go_simp
       go_at_call 15
       refine (HDO.out _ F8).mono ?_
       rintro e w9 ⟨m2, v2, rfl, hO2, hV2, hp2, hq2, b9⟩
       obtain ⟨HP2, HQ2⟩ := zh2 hp2 hq2
       have BB := below2 (w := w) B8 b9
       obtain ⟨x1, x2, x3, x4, xc1, xc2, xc3, xc4, u1, u2, u3, u4⟩ := mm_slices (hO2.now BB)
       obtain ⟨_, va, vc, u5, _⟩ := ba_open (hV2.now BB).1
       obtain ⟨_, vka, vkc, u6, _⟩ := ey_open (hV2.now BB).2
       rw [u1, u2, u3, u4, u5, u6]
       obtain ⟨HU1, HU2, HU3, HU4, HU5, HU6⟩ := zh6 u1 u2 u3 u4 u5 u6
       have HM9 := zh hO2.future; have HV9 := zh hV2.future
       clear u1 u2 u3 u4 u5 u6 hO2 hV2 hp2 hq2 BB
       have B9 := below2 (w := w) B8 b9
       have D9 := below2 (w := wc) D8 b9
       have F9 := below2 F8 b9
       have z9 := b9.size
       have hSL := HSK.out _ F9
       refine hK.out _ _ (fun _ => hSL) (fun _ => ?_)
       clear hK K
       try simp only [Act.put, zg1, zg2, zg3, zs1, zs2, zs3]
       refine sP 8 rfl ?_
       refine sP 9 rfl ?_
       refine uP 10 rfl (fun _ => hSL) ?_
       clear hSL
       refine hldL_two (i := 11) (j := 12) rfl rfl (by kernel_rfl) (fun K hK => ?_) (fun K hK => ?_)
       focus (
       go_simp
       refine knm fun w10 b10 hA10 zz => ?_
       obtain ⟨A1, hg⟩ : ∃ G, G = w9.heap.size := ⟨_, rfl⟩
       rw [← hg] at hA10 ⊢
       have HG11 := zh (And.intro hg zz)
       clear hg zz
       have B10 := below2 (w := w) B9 b10
       have D10 := below2 (w := wc) D9 b10
       have F10 := below2 F9 b10
       have z10 := b10.size
       have HM10 := zh (HM9.out.below b10); have HV10 := zh (HV9.out.below b10)
       refine hK.out _ _ (fun _ => HSK.out _ F10) (fun _ => ?_)
       clear hK K
       try simp only [Act.put, zg1, zg2, zg3, zs1, zs2, zs3]
       refine hldL_one (i := 12) rfl (by kernel_rfl) (fun K hK => ?_)
       go_simp
       refine knm fun w11 b11 hC11 zz => ?_
       obtain ⟨A2, hg⟩ : ∃ G, G = w10.heap.size := ⟨_, rfl⟩
       rw [← hg] at hC11 ⊢
       have HG12 := zh (And.intro hg zz)
       clear hg zz
       have B11 := below2 (w := w) B10 b11
       have D11 := below2 (w := wc) D10 b11
       have F11 := below2 F10 b11
       have z11 := b11.size
       have hA11 := hA10.below b11
       have HM11 := zh (HM10.out.below b11); have HV11 := zh (HV10.out.below b11)
       refine hK.out _ _ (fun _ => HSK.out _ F11) (fun _ => ?_)
       clear hK K
       try simp only [Act.put, zg1, zg2, zg3, zs1, zs2, zs3]
       have g1 := HG11.out; have g2 := HG12.out
       have hne : A1 ≠ A2 := by omega
       have hl1 : w8.heap.size ≤ A1 := by omega
       have hl2 : w8.heap.size ≤ A2 := by omega
       clear g1 g2
       refine hldL_store (i := 13) rfl (by kernel_rfl) (by decide) rfl 40 _ _ rfl A1 _ _ 40 hA11 rfl rfl (by kernel_rfl) rfl (by simp [Value.oneCell']) wc.heap.size wc D11 (by omega) ?_
       intro w20 hA20 hoth20 bw20
       try simp only [Act.put, zg1, zg2, zg3, zs1, zs2, zs3]
       refine hldL_store (i := 14) rfl (by kernel_rfl) (by decide) rfl 54 _ _ rfl A2 _ _ 54 (hoth20 _ _ _ (Ne.symm hne) hC11) rfl rfl (by kernel_rfl) rfl (by simp [Value.oneCell']) wc.heap.size wc bw20 (by omega) ?_
       intro w21 hC21 hoth21 bw21
       try simp only [Act.put, zg1, zg2, zg3, zs1, zs2, zs3]
       refine hldL_done (by kernel_rfl) ?_
       refine NoPanic.normal ?_
       go_wp2_with fail
       go_meet
       have g1 := HG11.out; have g2 := HG12.out
       exact md_finDo hne (by omega) (by omega) HU1.out HU2.out HU3.out HU4.out HU5.out HU6.out hA20 hC21 hoth20 hoth21 HM11.out HV11.out (fun b hb => Or.inl (Or.inl hb)) (by omega) (by omega) HP2.out HQ2.out bw21 (below2 HB7.out bw21)
       )
       focus (
       go_simp
       refine knm fun w10 b10 hC10 zz => ?_
       obtain ⟨A2, hg⟩ : ∃ G, G = w9.heap.size := ⟨_, rfl⟩
       rw [← hg] at hC10 ⊢
       have HG12 := zh (And.intro hg zz)
       clear hg zz
       have B10 := below2 (w := w) B9 b10
       have D10 := below2 (w := wc) D9 b10
       have F10 := below2 F9 b10
       have z10 := b10.size
       have HM10 := zh (HM9.out.below b10); have HV10 := zh (HV9.out.below b10)
       refine hK.out _ _ (fun _ => HSK.out _ F10) (fun _ => ?_)
       clear hK K
       try simp only [Act.put, zg1, zg2, zg3, zs1, zs2, zs3]
       refine hldL_one (i := 11) rfl (by kernel_rfl) (fun K hK => ?_)
       go_simp
       refine knm fun w11 b11 hA11 zz => ?_
       obtain ⟨A1, hg⟩ : ∃ G, G = w10.heap.size := ⟨_, rfl⟩
       rw [← hg] at hA11 ⊢
       have HG11 := zh (And.intro hg zz)
       clear hg zz
       have B11 := below2 (w := w) B10 b11
       have D11 := below2 (w := wc) D10 b11
       have F11 := below2 F10 b11
       have z11 := b11.size
       have hC11 := hC10.below b11
       have HM11 := zh (HM10.out.below b11); have HV11 := zh (HV10.out.below b11)
       refine hK.out _ _ (fun _ => HSK.out _ F11) (fun _ => ?_)
       clear hK K
       try simp only [Act.put, zg1, zg2, zg3, zs1, zs2, zs3]
       have g1 := HG11.out; have g2 := HG12.out
       have hne : A1 ≠ A2 := by omega
       have hl1 : w8.heap.size ≤ A1 := by omega
       have hl2 : w8.heap.size ≤ A2 := by omega
       clear g1 g2
       refine hldL_store (i := 13) rfl (by kernel_rfl) (by decide) rfl 40 _ _ rfl A1 _ _ 40 hA11 rfl rfl (by kernel_rfl) rfl (by simp [Value.oneCell']) wc.heap.size wc D11 (by omega) ?_
       intro w20 hA20 hoth20 bw20
       try simp only [Act.put, zg1, zg2, zg3, zs1, zs2, zs3]
       refine hldL_store (i := 14) rfl (by kernel_rfl) (by decide) rfl 54 _ _ rfl A2 _ _ 54 (hoth20 _ _ _ (Ne.symm hne) hC11) rfl rfl (by kernel_rfl) rfl (by simp [Value.oneCell']) wc.heap.size wc bw20 (by omega) ?_
       intro w21 hC21 hoth21 bw21
       try simp only [Act.put, zg1, zg2, zg3, zs1, zs2, zs3]
       refine hldL_done (by kernel_rfl) ?_
       refine NoPanic.normal ?_
       go_wp2_with fail
       go_meet
       have g1 := HG11.out; have g2 := HG12.out
       exact md_finDo hne (by omega) (by omega) HU1.out HU2.out HU3.out HU4.out HU5.out HU6.out hA20 hC21 hoth20 hoth21 HM11.out HV11.out (fun b hb => Or.inl (Or.inl hb)) (by omega) (by omega) HP2.out HQ2.out bw21 (below2 HB7.out bw21)
       )
       )
       focus (
       go_simp
       refine knm fun w9 b9 hA9 zz => ?_
       obtain ⟨A1, hg⟩ : ∃ G, G = w8.heap.size := ⟨_, rfl⟩
       rw [← hg] at hA9 ⊢
       have HG11 := zh (And.intro hg zz)
       clear hg zz
       have B9 := below2 (w := w) B8 b9
       have D9 := below2 (w := wc) D8 b9
       have F9 := below2 F8 b9
       have z9 := b9.size
       refine hK.out _ _ (fun _ => HSK.out _ F9) (fun _ => ?_)
       clear hK K
       try simp only [Act.put, zg1, zg2, zg3, zs1, zs2, zs3]
       refine hldL_two (i := 7) (j := 12) rfl rfl (by kernel_rfl) (fun K hK => ?_) (fun K hK => ?_)
       focus (
       go_simp
       go_at_call 15
       refine (HDO.out _ F9).mono ?_
       rintro e w10 ⟨m2, v2, rfl, hO2, hV2, hp2, hq2, b10⟩
       obtain ⟨HP2, HQ2⟩ := zh2 hp2 hq2
       have BB := below2 (w := w) B9 b10
       obtain ⟨x1, x2, x3, x4, xc1, xc2, xc3, xc4, u1, u2, u3, u4⟩ := mm_slices (hO2.now BB)
       obtain ⟨_, va, vc, u5, _⟩ := ba_open (hV2.now BB).1
       obtain ⟨_, vka, vkc, u6, _⟩ := ey_open (hV2.now BB).2
       rw [u1, u2, u3, u4, u5, u6]
       obtain ⟨HU1, HU2, HU3, HU4, HU5, HU6⟩ := zh6 u1 u2 u3 u4 u5 u6
       have HM10 := zh hO2.future; have HV10 := zh hV2.future
       clear u1 u2 u3 u4 u5 u6 hO2 hV2 hp2 hq2 BB
       have B10 := below2 (w := w) B9 b10
       have D10 := below2 (w := wc) D9 b10
       have F10 := below2 F9 b10
       have z10 := b10.size
       have hA10 := hA9.below b10
       have hSL := HSK.out _ F10
       refine hK.out _ _ (fun _ => hSL) (fun _ => ?_)
       clear hK K
       try simp only [Act.put, zg1, zg2, zg3, zs1, zs2, zs3]
       refine sP 8 rfl ?_
       refine sP 9 rfl ?_
       refine uP 10 rfl (fun _ => hSL) ?_
       clear hSL
       refine hldL_one (i := 12) rfl (by kernel_rfl) (fun K hK => ?_)
       go_simp
       refine knm fun w11 b11 hC11 zz => ?_
       obtain ⟨A2, hg⟩ : ∃ G, G = w10.heap.size := ⟨_, rfl⟩
       rw [← hg] at hC11 ⊢
       have HG12 := zh (And.intro hg zz)
       clear hg zz
       have B11 := below2 (w := w) B10 b11
       have D11 := below2 (w := wc) D10 b11
       have F11 := below2 F10 b11
       have z11 := b11.size
       have hA11 := hA10.below b11
       have HM11 := zh (HM10.out.below b11); have HV11 := zh (HV10.out.below b11)
       refine hK.out _ _ (fun _ => HSK.out _ F11) (fun _ => ?_)
       clear hK K
       try simp only [Act.put, zg1, zg2, zg3, zs1, zs2, zs3]
       have g1 := HG11.out; have g2 := HG12.out
       have hne : A1 ≠ A2 := by omega
       have hl1 : w8.heap.size ≤ A1 := by omega
       have hl2 : w8.heap.size ≤ A2 := by omega
       clear g1 g2
       refine hldL_store (i := 13) rfl (by kernel_rfl) (by decide) rfl 40 _ _ rfl A1 _ _ 40 hA11 rfl rfl (by kernel_rfl) rfl (by simp [Value.oneCell']) wc.heap.size wc D11 (by omega) ?_
       intro w20 hA20 hoth20 bw20
       try simp only [Act.put, zg1, zg2, zg3, zs1, zs2, zs3]
       refine hldL_store (i := 14) rfl (by kernel_rfl) (by decide) rfl 54 _ _ rfl A2 _ _ 54 (hoth20 _ _ _ (Ne.symm hne) hC11) rfl rfl (by kernel_rfl) rfl (by simp [Value.oneCell']) wc.heap.size wc bw20 (by omega) ?_
       intro w21 hC21 hoth21 bw21
       try simp only [Act.put, zg1, zg2, zg3, zs1, zs2, zs3]
       refine hldL_done (by kernel_rfl) ?_
       refine NoPanic.normal ?_
       go_wp2_with fail
       go_meet
       have g1 := HG11.out; have g2 := HG12.out
       exact md_finDo hne (by omega) (by omega) HU1.out HU2.out HU3.out HU4.out HU5.out HU6.out hA20 hC21 hoth20 hoth21 HM11.out HV11.out (fun b hb => Or.inl (Or.inl hb)) (by omega) (by omega) HP2.out HQ2.out bw21 (below2 HB7.out bw21)
       )
       focus (
       go_simp
       refine knm fun w10 b10 hC10 zz => ?_
       obtain ⟨A2, hg⟩ : ∃ G, G = w9.heap.size := ⟨_, rfl⟩
       rw [← hg] at hC10 ⊢
       have HG12 := zh (And.intro hg zz)
       clear hg zz
       have B10 := below2 (w := w) B9 b10
       have D10 := below2 (w := wc) D9 b10
       have F10 := below2 F9 b10
       have z10 := b10.size
       have hA10 := hA9.below b10
       refine hK.out _ _ (fun _ => HSK.out _ F10) (fun _ => ?_)
       clear hK K
       try simp only [Act.put, zg1, zg2, zg3, zs1, zs2, zs3]
       refine hldL_one (i := 7) rfl (by kernel_rfl) (fun K hK => ?_)
       go_simp
       go_at_call 15
       refine (HDO.out _ F10).mono ?_
       rintro e w11 ⟨m2, v2, rfl, hO2, hV2, hp2, hq2, b11⟩
       obtain ⟨HP2, HQ2⟩ := zh2 hp2 hq2
       have BB := below2 (w := w) B10 b11
       obtain ⟨x1, x2, x3, x4, xc1, xc2, xc3, xc4, u1, u2, u3, u4⟩ := mm_slices (hO2.now BB)
       obtain ⟨_, va, vc, u5, _⟩ := ba_open (hV2.now BB).1
       obtain ⟨_, vka, vkc, u6, _⟩ := ey_open (hV2.now BB).2
       rw [u1, u2, u3, u4, u5, u6]
       obtain ⟨HU1, HU2, HU3, HU4, HU5, HU6⟩ := zh6 u1 u2 u3 u4 u5 u6
       have HM11 := zh hO2.future; have HV11 := zh hV2.future
       clear u1 u2 u3 u4 u5 u6 hO2 hV2 hp2 hq2 BB
       have B11 := below2 (w := w) B10 b11
       have D11 := below2 (w := wc) D10 b11
       have F11 := below2 F10 b11
       have z11 := b11.size
       have hA11 := hA10.below b11
       have hC11 := hC10.below b11
       have hSL := HSK.out _ F11
       refine hK.out _ _ (fun _ => hSL) (fun _ => ?_)
       clear hK K
       try simp only [Act.put, zg1, zg2, zg3, zs1, zs2, zs3]
       refine sP 8 rfl ?_
       refine sP 9 rfl ?_
       refine uP 10 rfl (fun _ => hSL) ?_
       clear hSL
       have g1 := HG11.out; have g2 := HG12.out
       have hne : A1 ≠ A2 := by omega
       have hl1 : w8.heap.size ≤ A1 := by omega
       have hl2 : w8.heap.size ≤ A2 := by omega
       clear g1 g2
       refine hldL_store (i := 13) rfl (by kernel_rfl) (by decide) rfl 40 _ _ rfl A1 _ _ 40 hA11 rfl rfl (by kernel_rfl) rfl (by simp [Value.oneCell']) wc.heap.size wc D11 (by omega) ?_
       intro w20 hA20 hoth20 bw20
       try simp only [Act.put, zg1, zg2, zg3, zs1, zs2, zs3]
       refine hldL_store (i := 14) rfl (by kernel_rfl) (by decide) rfl 54 _ _ rfl A2 _ _ 54 (hoth20 _ _ _ (Ne.symm hne) hC11) rfl rfl (by kernel_rfl) rfl (by simp [Value.oneCell']) wc.heap.size wc bw20 (by omega) ?_
       intro w21 hC21 hoth21 bw21
       try simp only [Act.put, zg1, zg2, zg3, zs1, zs2, zs3]
       refine hldL_done (by kernel_rfl) ?_
       refine NoPanic.normal ?_
       go_wp2_with fail
       go_meet
       have g1 := HG11.out; have g2 := HG12.out
       exact md_finDo hne (by omega) (by omega) HU1.out HU2.out HU3.out HU4.out HU5.out HU6.out hA20 hC21 hoth20 hoth21 HM11.out HV11.out (fun b hb => Or.inl (Or.inl hb)) (by omega) (by omega) HP2.out HQ2.out bw21 (below2 HB7.out bw21)
       )
       )
       focus (
       go_simp
       refine knm fun w9 b9 hC9 zz => ?_
       obtain ⟨A2, hg⟩ : ∃ G, G = w8.heap.size := ⟨_, rfl⟩
       rw [← hg] at hC9 ⊢
       have HG12 := zh (And.intro hg zz)
       clear hg zz
       have B9 := below2 (w := w) B8 b9
       have D9 := below2 (w := wc) D8 b9
       have F9 := below2 F8 b9
       have z9 := b9.size
       refine hK.out _ _ (fun _ => HSK.out _ F9) (fun _ => ?_)
       clear hK K
       try simp only [Act.put, zg1, zg2, zg3, zs1, zs2, zs3]
       refine hldL_two (i := 7) (j := 11) rfl rfl (by kernel_rfl) (fun K hK => ?_) (fun K hK => ?_)
       focus (
       go_simp
       go_at_call 15
       refine (HDO.out _ F9).mono ?_
       rintro e w10 ⟨m2, v2, rfl, hO2, hV2, hp2, hq2, b10⟩
       obtain ⟨HP2, HQ2⟩ := zh2 hp2 hq2
       have BB := below2 (w := w) B9 b10
       obtain ⟨x1, x2, x3, x4, xc1, xc2, xc3, xc4, u1, u2, u3, u4⟩ := mm_slices (hO2.now BB)
       obtain ⟨_, va, vc, u5, _⟩ := ba_open (hV2.now BB).1
       obtain ⟨_, vka, vkc, u6, _⟩ := ey_open (hV2.now BB).2
       rw [u1, u2, u3, u4, u5, u6]
       obtain ⟨HU1, HU2, HU3, HU4, HU5, HU6⟩ := zh6 u1 u2 u3 u4 u5 u6
       have HM10 := zh hO2.future; have HV10 := zh hV2.future
       clear u1 u2 u3 u4 u5 u6 hO2 hV2 hp2 hq2 BB
       have B10 := below2 (w := w) B9 b10
       have D10 := below2 (w := wc) D9 b10
       have F10 := below2 F9 b10
       have z10 := b10.size
       have hC10 := hC9.below b10
       have hSL := HSK.out _ F10
       refine hK.out _ _ (fun _ => hSL) (fun _ => ?_)
       clear hK K
       try simp only [Act.put, zg1, zg2, zg3, zs1, zs2, zs3]
       refine sP 8 rfl ?_
       refine sP 9 rfl ?_
       refine uP 10 rfl (fun _ => hSL) ?_
       clear hSL
       refine hldL_one (i := 11) rfl (by kernel_rfl) (fun K hK => ?_)
       go_simp
       refine knm fun w11 b11 hA11 zz => ?_
       obtain ⟨A1, hg⟩ : ∃ G, G = w10.heap.size := ⟨_, rfl⟩
       rw [← hg] at hA11 ⊢
       have HG11 := zh (And.intro hg zz)
       clear hg zz
       have B11 := below2 (w := w) B10 b11
       have D11 := below2 (w := wc) D10 b11
       have F11 := below2 F10 b11
       have z11 := b11.size
       have hC11 := hC10.below b11
       have HM11 := zh (HM10.out.below b11); have HV11 := zh (HV10.out.below b11)
       refine hK.out _ _ (fun _ => HSK.out _ F11) (fun _ => ?_)
       clear hK K
       try simp only [Act.put, zg1, zg2, zg3, zs1, zs2, zs3]
       have g1 := HG11.out; have g2 := HG12.out
       have hne : A1 ≠ A2 := by omega
       have hl1 : w8.heap.size ≤ A1 := by omega
       have hl2 : w8.heap.size ≤ A2 := by omega
       clear g1 g2
       refine hldL_store (i := 13) rfl (by kernel_rfl) (by decide) rfl 40 _ _ rfl A1 _ _ 40 hA11 rfl rfl (by kernel_rfl) rfl (by simp [Value.oneCell']) wc.heap.size wc D11 (by omega) ?_
       intro w20 hA20 hoth20 bw20
       try simp only [Act.put, zg1, zg2, zg3, zs1, zs2, zs3]
       refine hldL_store (i := 14) rfl (by kernel_rfl) (by decide) rfl 54 _ _ rfl A2 _ _ 54 (hoth20 _ _ _ (Ne.symm hne) hC11) rfl rfl (by kernel_rfl) rfl (by simp [Value.oneCell']) wc.heap.size wc bw20 (by omega) ?_
       intro w21 hC21 hoth21 bw21
       try simp only [Act.put, zg1, zg2, zg3, zs1, zs2, zs3]
       refine hldL_done (by kernel_rfl) ?_
       refine NoPanic.normal ?_
       go_wp2_with fail
       go_meet
       have g1 := HG11.out; have g2 := HG12.out
       exact md_finDo hne (by omega) (by omega) HU1.out HU2.out HU3.out HU4.out HU5.out HU6.out hA20 hC21 hoth20 hoth21 HM11.out HV11.out (fun b hb => Or.inl (Or.inl hb)) (by omega) (by omega) HP2.out HQ2.out bw21 (below2 HB7.out bw21)
       )
       focus (
       go_simp
       refine knm fun w10 b10 hA10 zz => ?_
       obtain ⟨A1, hg⟩ : ∃ G, G = w9.heap.size := ⟨_, rfl⟩
       rw [← hg] at hA10 ⊢
       have HG11 := zh (And.intro hg zz)
       clear hg zz
       have B10 := below2 (w := w) B9 b10
       have D10 := below2 (w := wc) D9 b10
       have F10 := below2 F9 b10
       have z10 := b10.size
       have hC10 := hC9.below b10
       refine hK.out _ _ (fun _ => HSK.out _ F10) (fun _ => ?_)
       clear hK K
       try simp only [Act.put, zg1, zg2, zg3, zs1, zs2, zs3]
       refine hldL_one (i := 7) rfl (by kernel_rfl) (fun K hK => ?_)
       go_simp
       go_at_call 15
       refine (HDO.out _ F10).mono ?_
       rintro e w11 ⟨m2, v2, rfl, hO2, hV2, hp2, hq2, b11⟩
       obtain ⟨HP2, HQ2⟩ := zh2 hp2 hq2
       have BB := below2 (w := w) B10 b11
       obtain ⟨x1, x2, x3, x4, xc1, xc2, xc3, xc4, u1, u2, u3, u4⟩ := mm_slices (hO2.now BB)
       obtain ⟨_, va, vc, u5, _⟩ := ba_open (hV2.now BB).1
       obtain ⟨_, vka, vkc, u6, _⟩ := ey_open (hV2.now BB).2
       rw [u1, u2, u3, u4, u5, u6]
       obtain ⟨HU1, HU2, HU3, HU4, HU5, HU6⟩ := zh6 u1 u2 u3 u4 u5 u6
       have HM11 := zh hO2.future; have HV11 := zh hV2.future
       clear u1 u2 u3 u4 u5 u6 hO2 hV2 hp2 hq2 BB
       have B11 := below2 (w := w) B10 b11
       have D11 := below2 (w := wc) D10 b11
       have F11 := below2 F10 b11
       have z11 := b11.size
       have hA11 := hA10.below b11
       have hC11 := hC10.below b11
       have hSL := HSK.out _ F11
       refine hK.out _ _ (fun _ => hSL) (fun _ => ?_)
       clear hK K
       try simp only [Act.put, zg1, zg2, zg3, zs1, zs2, zs3]
       refine sP 8 rfl ?_
       refine sP 9 rfl ?_
       refine uP 10 rfl (fun _ => hSL) ?_
       clear hSL
       have g1 := HG11.out; have g2 := HG12.out
       have hne : A1 ≠ A2 := by omega
       have hl1 : w8.heap.size ≤ A1 := by omega
       have hl2 : w8.heap.size ≤ A2 := by omega
       clear g1 g2
       refine hldL_store (i := 13) rfl (by kernel_rfl) (by decide) rfl 40 _ _ rfl A1 _ _ 40 hA11 rfl rfl (by kernel_rfl) rfl (by simp [Value.oneCell']) wc.heap.size wc D11 (by omega) ?_
       intro w20 hA20 hoth20 bw20
       try simp only [Act.put, zg1, zg2, zg3, zs1, zs2, zs3]
       refine hldL_store (i := 14) rfl (by kernel_rfl) (by decide) rfl 54 _ _ rfl A2 _ _ 54 (hoth20 _ _ _ (Ne.symm hne) hC11) rfl rfl (by kernel_rfl) rfl (by simp [Value.oneCell']) wc.heap.size wc bw20 (by omega) ?_
       intro w21 hC21 hoth21 bw21
       try simp only [Act.put, zg1, zg2, zg3, zs1, zs2, zs3]
       refine hldL_done (by kernel_rfl) ?_
       refine NoPanic.normal ?_
       go_wp2_with fail
       go_meet
       have g1 := HG11.out; have g2 := HG12.out
       exact md_finDo hne (by omega) (by omega) HU1.out HU2.out HU3.out HU4.out HU5.out HU6.out hA20 hC21 hoth20 hoth21 HM11.out HV11.out (fun b hb => Or.inl (Or.inl hb)) (by omega) (by omega) HP2.out HQ2.out bw21 (below2 HB7.out bw21)
       )
       )
      case rest =>
       obtain ⟨A3, A4, q2, u2, rfl, rfl, hA3, hA4, hA34, hA3s, hA4s, hHm, hHv, hpm, hpv, hD, hBw⟩ := hcut
       have hA3X : A3 ≠ X := by have := HX7.out.lt; omega
       have hA3Y : A3 ≠ Y := by have := HY7.out.lt; omega
       have hA4X : A4 ≠ X := by have := HX7.out.lt; omega
       have hA4Y : A4 ≠ Y := by have := HY7.out.lt; omega
       have HX7 := zh (HX7.out.below hD); have HY7 := zh (HY7.out.below hD); have HOm7 := zh (HOm7.out.below hD); have HOv7 := zh (HOv7.out.below hD); have HB7 := zh hBw
       have HA1 := zh (HA1.out.below hD); have HA2 := zh (HA2.out.below hD); obtain ⟨HA3, HA4, HOq7, HOu7⟩ := zh4 hA3 hA4 hHm hHv
       have HPM := zh (show m2.pl = q2.pl by rw [HPM1.out, hpm, HPL.out])
       have HPV := zh (show v2.pl = u2.pl by rw [HPV1.out, hpv, HPL.out])
       have HS2 := zh (show SmallP m2.pl (20 + (k + 1)) by rw [HPM1.out]; exact doP_small HS.out _ HSMO.out _)
       have HK2 := zh (show LocksOk m2.pl by rw [HPM1.out]; exact doP_locks HK.out _ _)
       have HD2 := zh (doOk_of HS2.out (by omega) HK2.out)
       have HDQ2 := zh (doOk_of (m := q2) (by rw [← HPM.out]; exact HS2.out) (by omega) (by rw [← HPM.out]; exact HK2.out))
       obtain ⟨r1, r2, r3, r4, rc1, rc2, rc3, rc4, v1, v2', v3, v4⟩ := mm_slices (hHm.now hBw)
       obtain ⟨HV1, HV2, HV3, HV4⟩ := zh4 v1 v2' v3 v4
       clear hA3 hA4 hHm hHv hpm hpv hBw hD hA3s hA4s v1 v2' v3 v4
       go_at_K
       go_upto_region 18 with (first
        | (refine list_load_blk rfl 40 _ rfl A1 _ 40 HA1.out rfl Tryz.underlying40 (by kernel_rfl) ?_)
        | (refine list_store_blk rfl 40 _ _ rfl X _ _ 40 HX7.out rfl rfl (by kernel_rfl) rfl (by rw [HU1.out, HU2.out, HU3.out, HU4.out]; simp [Value.oneCell']) w.heap.size w HB7.out hXw ?_; intro w30 hX30 hoth30 hsz30 bw30; have hA30 := hoth30 _ _ _ hA3X HA3.out)
        | (refine list_load_blk rfl 40 _ rfl A3 _ 40 hA30 rfl Tryz.underlying40 (by kernel_rfl) ?_)
        | (refine list_store_blk rfl 40 _ _ rfl Y _ _ 40 (hoth30 _ _ _ (Ne.symm hXY) HY7.out) rfl rfl (by kernel_rfl) rfl (by rw [HV1.out, HV2.out, HV3.out, HV4.out]; simp [Value.oneCell']) w.heap.size w bw30 hYw ?_; intro w31 hY31 hoth31 hsz31 bw31))
       have hX31 := hoth31 _ _ _ hXY hX30
       have hC31 := hoth31 _ _ _ hA2Y (hoth30 _ _ _ hA2X HA2.out)
       have hD31 := hoth31 _ _ _ hA4Y (hoth30 _ _ _ hA4X HA4.out)
       have hkp : KeepOff (fun b => b = X ∨ b = Y) wc w31 := fun b arr T hb hh => hoth31 b arr T (fun e => hb (Or.inr e)) (hoth30 b arr T (fun e => hb (Or.inl e)) hh)
       have HOm9 := zh (HOm7.out.step hkp); have HOq9 := zh (HOq7.out.step hkp); have HOv9 := zh (HOv7.out.step hkp); have HOu9 := zh (HOu7.out.step hkp)
       obtain ⟨HX9, HY9, HB9⟩ := zh3 hX31 hY31 bw31
       clear hkp hoth30 hoth31 bw30 hA30 hsz30 hsz31 hX30 HA1 HA3
       refine wp_region_noPanic ?_
       have hS0 : (fun wq => wq.rangeAt X 0 [.int .i64 m2.inn, .int .i64 m2.out, m2.bans.1, m2.book.1, m2.parts.1, m2.locks.1] ∧ wq.rangeAt Y 0 [.int .i64 q2.inn, .int .i64 q2.out, q2.bans.1, q2.book.1, q2.parts.1, q2.locks.1] ∧ wq.rangeAt A2 0 [.int .i64 v2.n, .bool v2.pe.en.ad.v6, .int .u64 v2.pe.en.ad.hi, .int .u64 v2.pe.en.ad.lo, .int .i64 v2.pe.en.port, .bool v2.pe.came, .int .i64 v2.pe.since, .int .i64 v2.pe.pts, .int .i64 v2.pe.at_, .int .i64 v2.pe.ping, .int .i64 v2.pe.work, v2.bans.1, v2.book.1] ∧ wq.rangeAt A4 0 [.int .i64 u2.n, .bool u2.pe.en.ad.v6, .int .u64 u2.pe.en.ad.hi, .int .u64 u2.pe.en.ad.lo, .int .i64 u2.pe.en.port, .bool u2.pe.came, .int .i64 u2.pe.since, .int .i64 u2.pe.pts, .int .i64 u2.pe.at_, .int .i64 u2.pe.ping, .int .i64 u2.pe.work, u2.bans.1, u2.book.1]) w31.drew := ⟨blk_range (BlockIs.drew' hX31), blk_range (BlockIs.drew' hY31), blk_range (BlockIs.drew' hC31), blk_range (BlockIs.drew' hD31)⟩
       refine wp_region_headH (fun wq => wq.rangeAt X 0 [.int .i64 m2.inn, .int .i64 m2.out, m2.bans.1, m2.book.1, m2.parts.1, m2.locks.1] ∧ wq.rangeAt Y 0 [.int .i64 q2.inn, .int .i64 q2.out, q2.bans.1, q2.book.1, q2.parts.1, q2.locks.1] ∧ wq.rangeAt A2 0 [.int .i64 v2.n, .bool v2.pe.en.ad.v6, .int .u64 v2.pe.en.ad.hi, .int .u64 v2.pe.en.ad.lo, .int .i64 v2.pe.en.port, .bool v2.pe.came, .int .i64 v2.pe.since, .int .i64 v2.pe.pts, .int .i64 v2.pe.at_, .int .i64 v2.pe.ping, .int .i64 v2.pe.work, v2.bans.1, v2.book.1] ∧ wq.rangeAt A4 0 [.int .i64 u2.n, .bool u2.pe.en.ad.v6, .int .u64 u2.pe.en.ad.hi, .int .u64 u2.pe.en.ad.lo, .int .i64 u2.pe.en.port, .bool u2.pe.came, .int .i64 u2.pe.since, .int .i64 u2.pe.pts, .int .i64 u2.pe.at_, .int .i64 u2.pe.ping, .int .i64 u2.pe.work, u2.bans.1, u2.book.1]) 27 (by kernel_rfl) (by kernel_rfl) ?_
       have HSK := zh (show ∀ W, Below w31.heap.size w31 W → (fun wq => wq.rangeAt X 0 [.int .i64 m2.inn, .int .i64 m2.out, m2.bans.1, m2.book.1, m2.parts.1, m2.locks.1] ∧ wq.rangeAt Y 0 [.int .i64 q2.inn, .int .i64 q2.out, q2.bans.1, q2.book.1, q2.parts.1, q2.locks.1] ∧ wq.rangeAt A2 0 [.int .i64 v2.n, .bool v2.pe.en.ad.v6, .int .u64 v2.pe.en.ad.hi, .int .u64 v2.pe.en.ad.lo, .int .i64 v2.pe.en.port, .bool v2.pe.came, .int .i64 v2.pe.since, .int .i64 v2.pe.pts, .int .i64 v2.pe.at_, .int .i64 v2.pe.ping, .int .i64 v2.pe.work, v2.bans.1, v2.book.1] ∧ wq.rangeAt A4 0 [.int .i64 u2.n, .bool u2.pe.en.ad.v6, .int .u64 u2.pe.en.ad.hi, .int .u64 u2.pe.en.ad.lo, .int .i64 u2.pe.en.port, .bool u2.pe.came, .int .i64 u2.pe.since, .int .i64 u2.pe.pts, .int .i64 u2.pe.at_, .int .i64 u2.pe.ping, .int .i64 u2.pe.work, u2.bans.1, u2.book.1]) W from fun W hb => ⟨rangeAt_belowM (blk_range hX31) hb hX31.lt, rangeAt_belowM (blk_range hY31) hb hY31.lt, rangeAt_belowM (blk_range hC31) hb hC31.lt, rangeAt_belowM (blk_range hD31) hb hD31.lt⟩)
       have hmm := HOm9.out.now HB9.out; have hqq := HOq9.out.now HB9.out; have hvv := HOv9.out.now HB9.out; have huu := HOu9.out.now HB9.out
       have HSAME := zh (fun (W : World) (hb : Below w31.heap.size w31 W) => mems_same m2 q2 W (hmm.below hb) (hqq.below hb) HPM.out)
       have HVAL := zh (fun (W : World) (hb : Below w31.heap.size w31 W) => vals_same v2 u2 W (hvv.below hb) (huu.below hb) HPV.out)
       have HHM := zh (fun (W : World) (hb : Below w31.heap.size w31 W) => memHeld_any m2 x.who W (hmm.below hb) HW.out HD2.out.2.1)
       have HHQ := zh (fun (W : World) (hb : Below w31.heap.size w31 W) => refHeld_any q2 x.who W (hqq.below hb) HW.out HDQ2.out.2.1 (fun k hk => (HDQ2.out.2.2.1 k hk).1))
       have HSTM := zh (fun (W : World) (hb : Below w31.heap.size w31 W) => memState_any m2 W (hmm.below hb) HD2.out.2.2.2.2.1 HD2.out.2.2.2.2.2 (small_parts HS2.out (by omega)).1 (small_parts HS2.out (by omega)).2)
       have HSTQ := zh (fun (W : World) (hb : Below w31.heap.size w31 W) => refState_any q2 W (hqq.below hb) (small_parts (m := q2) (by rw [← HPM.out]; exact HS2.out) (by omega)).1 (small_parts (m := q2) (by rw [← HPM.out]; exact HS2.out) (by omega)).2)
       have HPH := zh (show heldP q2.pl x.who = heldP m2.pl x.who by rw [HPM.out])
       have HPB := zh (show q2.bans.2 = m2.bans.2 from (congrArg Pm.bans HPM.out).symm)
       have HPK := zh (show q2.book.2 = m2.book.2 from (congrArg Pm.book HPM.out).symm)
       have HPF := zh (show q2.parts.2.flatMap pesS = m2.parts.2.flatMap pesS by rw [pes_pl, pes_pl, HPM.out])
       have D4 : Below w31.heap.size w31 w31.drew := (Below.refl _ _).drew
       clear hmm hqq hvv huu hX31 hY31 hC31 hD31
       refine hQ 0 rfl (yieldsIf_load_mid (by rfl) _ _ rfl _ _ rfl _ _ (fun wq hq => hq.1) Tryz.underlying40 rfl (by kernel_rfl)) ?_
       refine hQ 1 rfl (yieldsIf_load_mid (by rfl) _ _ rfl _ _ rfl _ _ (fun wq hq => hq.2.1) Tryz.underlying40 rfl (by kernel_rfl)) ?_
       refine headH_one (i := 2) rfl rfl (by kernel_rfl) (fun K hK => ?_)
       go_simp
       go_at_call 11
       refine (HSAME.out _ D4).mono ?_
       rintro e w10 ⟨rfl, b10⟩
       have D10 := below2 D4 b10
       refine hK.out _ _ (HSK.out _ D10) (fun hS10 => ?_)
       clear hK K
       try simp only [Act.put, zg1, zg2, zg3, zs1, zs2, zs3]
       refine hP 3 rfl ?_
       refine hP 4 rfl ?_
       refine hQ 5 rfl (yieldsIf_load_mid (by rfl) _ _ rfl _ _ rfl _ _ (fun wq hq => hq.2.2.1) Tryz.underlying54 rfl (by kernel_rfl)) ?_
       refine hQ 6 rfl (yieldsIf_load_mid (by rfl) _ _ rfl _ _ rfl _ _ (fun wq hq => hq.2.2.2) Tryz.underlying54 rfl (by kernel_rfl)) ?_
       refine headH_one (i := 7) rfl rfl (by kernel_rfl) (fun K hK => ?_)
       go_simp
       go_at_call 16
       refine (HVAL.out _ D10).mono ?_
       rintro e w11 ⟨rfl, b11⟩
       have D11 := below2 D10 b11
       refine hK.out _ _ (HSK.out _ D11) (fun hS11 => ?_)
       clear hK K
       try simp only [Act.put, zg1, zg2, zg3, zs1, zs2, zs3]
       refine hP 8 rfl ?_
       refine hP 9 rfl ?_
       refine hP 10 rfl ?_
       refine hQ 11 rfl (yieldsIf_load_mid (by rfl) _ _ rfl _ _ rfl _ _ (fun wq hq => hq.1) Tryz.underlying40 rfl (by kernel_rfl)) ?_
       refine hP 12 rfl ?_
       refine hQ 14 rfl (yieldsIf_load_mid (by rfl) _ _ rfl _ _ rfl _ _ (fun wq hq => hq.2.1) Tryz.underlying40 rfl (by kernel_rfl)) ?_
       refine hP 15 rfl ?_
       refine headH_one (i := 13) rfl rfl (by kernel_rfl) (fun K hK => ?_)
       go_simp
       go_at_call 18
       refine (HHM.out _ D11).mono ?_
       rintro e w12 ⟨ha, hc, rfl, hr1, b12⟩
       have D12 := below2 D11 b12
       have HR1 := zh hr1
       clear hr1
       refine hK.out _ _ (HSK.out _ D12) (fun hS12 => ?_)
       clear hK K
       try simp only [Act.put, zg1, zg2, zg3, zs1, zs2, zs3]
       refine headH_one (i := 16) rfl rfl (by kernel_rfl) (fun K hK => ?_)
       go_simp
       go_at_call 19
       refine (HHQ.out _ D12).mono ?_
       rintro e w13 ⟨ga, gc, rfl, hr2, b13⟩
       have D13 := below2 D12 b13
       rw [HPH.out] at hr2 ⊢
       have HR2 := zh hr2
       have HR1 := zh (ReadsL.below HR1.out b13)
       clear hr2
       refine hK.out _ _ (HSK.out _ D13) (fun hS13 => ?_)
       clear hK K
       try simp only [Act.put, zg1, zg2, zg3, zs1, zs2, zs3]
       refine headH_one (i := 17) rfl rfl (by kernel_rfl) (fun K hK => ?_)
       go_simp
       go_at_call 17
       refine (ints_sameI _ _ _ _ HR1.out HR2.out).mono ?_
       rintro e w14 ⟨rfl, b14⟩
       have D14 := below2 D13 b14
       refine hK.out _ _ (HSK.out _ D14) (fun hS14 => ?_)
       clear hK K
       try simp only [Act.put, zg1, zg2, zg3, zs1, zs2, zs3]
       refine hP 18 rfl ?_
       refine hP 19 rfl ?_
       refine hP 20 rfl ?_
       refine hQ 21 rfl (yieldsIf_load_mid (by rfl) _ _ rfl _ _ rfl _ _ (fun wq hq => hq.1) Tryz.underlying40 rfl (by kernel_rfl)) ?_
       refine hQ 23 rfl (yieldsIf_load_mid (by rfl) _ _ rfl _ _ rfl _ _ (fun wq hq => hq.2.1) Tryz.underlying40 rfl (by kernel_rfl)) ?_
       refine headH_one (i := 22) rfl rfl (by kernel_rfl) (fun K hK => ?_)
       go_simp
       go_at_call 21
       refine (HSTM.out _ D14).mono ?_
       rintro e w15 ⟨ta, tb, td, t1, t2, t3, rfl, hs1, hs2, hs3, b15⟩
       have D15 := below2 D14 b15
       obtain ⟨HT1, HT2, HT3⟩ := zh3 hs1 hs2 hs3
       clear hs1 hs2 hs3
       refine hK.out _ _ (HSK.out _ D15) (fun hS15 => ?_)
       clear hK K
       try simp only [Act.put, zg1, zg2, zg3, zs1, zs2, zs3]
       refine headH_one (i := 24) rfl rfl (by kernel_rfl) (fun K hK => ?_)
       go_simp
       go_at_call 22
       refine (HSTQ.out _ D15).mono ?_
       rintro e w16 ⟨va, vb2, vd, t4, t5, t6, rfl, hs1, hs2, hs3, b16⟩
       have D16 := below2 D15 b16
       rw [HPB.out] at hs1 ⊢; rw [HPK.out] at hs2 ⊢; rw [HPF.out] at hs3 ⊢
       obtain ⟨HT4, HT5, HT6⟩ := zh3 hs1 hs2 hs3
       have HT1 := zh (ReadsL.below HT1.out b16); have HT2 := zh (ReadsL.below HT2.out b16); have HT3 := zh (ReadsL.below HT3.out b16)
       clear hs1 hs2 hs3
       refine hK.out _ _ (HSK.out _ D16) (fun hS16 => ?_)
       clear hK K
       try simp only [Act.put, zg1, zg2, zg3, zs1, zs2, zs3]
       refine headH_one (i := 25) rfl rfl (by kernel_rfl) (fun K hK => ?_)
       go_simp
       go_at_call 20
       refine (sameState_any _ _ _ _ _ _ _ _ _ _ HT1.out HT2.out HT3.out HT4.out HT5.out HT6.out).mono ?_
       rintro e w17 ⟨rfl, b17⟩
       have D17 := below2 D16 b17
       refine hK.out _ _ (HSK.out _ D17) (fun hS17 => ?_)
       clear hK K
       try simp only [Act.put, zg1, zg2, zg3, zs1, zs2, zs3]
       refine hP 26 rfl ?_
       refine headH_done (by kernel_rfl) ?_
       simp only [List.drop_succ_cons, List.drop_zero]
       go_wp2_with fail
       refine NoPanic.normal ?_
       have HXe := zh (HX9.out.below D17); have HYe := zh (HY9.out.below D17); have HMe := zh (HOm9.out.below D17); have HQe := zh (HOq9.out.below D17); have HBe := zh (below2 HB9.out D17)
       go_wp2_with fail
       go_roundw
       case rel => exact ⟨k + 1, m2, q2, by omega, by go_num, HXe.out, HYe.out, HMe.out, HQe.out, HPM.out, HS2.out, HK2.out, HBe.out⟩
       case measure => simp [intOf]; omega
    ·rcases Int.lt_or_le x.who 0 with hwl | hwl
     ·have hwd : decide (x.who < 0) = true := decide_eq_true hwl
      go_wp2_with (go_at_call 8; (with_reducible refine (awake37_any _).mono ?_); rintro e w2 ⟨rfl, b2⟩)
      go_ret
      exact ⟨rfl, below2 HB.out b2⟩
     ·have hwl' : ¬ x.who < 0 := by omega
      have hwd : decide (x.who < 0) = false := decide_eq_false hwl'
      have hwh : 100 < x.who := by omega
      have hwe : decide (100 < x.who) = true := decide_eq_true hwh
      go_wp2_with (go_at_call 8; (with_reducible refine (awake37_any _).mono ?_); rintro e w2 ⟨rfl, b2⟩)
      go_ret
      exact ⟨rfl, below2 HB.out b2⟩
   ·obtain rfl : k = l.length := by omega
    clear hz3
    go_wp2_with (go_at_call 8; (with_reducible refine (awake37_any _).mono ?_); rintro e w2 ⟨rfl, b2⟩)
    go_ret
    exact ⟨rfl, below2 HB.out b2⟩
end Go.Proofs.YtnplgagaoeckoaaGreat
