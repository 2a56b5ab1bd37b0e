/- Texts put together: MemG, MemH, MemI, MemJ, MemJB, MemJC, MemJD, MemJE, MemK, MemL0, MemL1, MemL2, MemL3y, MemL3n, MemL4, MemL5. No condition. -/
import Derived.Test.YtnplgagaoeckoaaGreatRgjzkbncnka
import Derived.Test.YtnplgagaoeckoaaGreatRlxugxmhpeq
import Derived.Test.YtnplgagaoeckoaaGreatRbocrvkvair
import Derived.Test.YtnplgagaoeckoaaGreatRmmjmhtuwoe
import Derived.Test.YtnplgagaoeckoaaGreatRihppkpqfio
set_option maxRecDepth 100000
set_option linter.unusedSimpArgs false
set_option linter.unusedVariables false
namespace Go.Proofs.YtnplgagaoeckoaaGreat
open Go.RowKit
set_option maxHeartbeats 64000000 in
theorem memMay_any (m : Mm) (o : Oq) (who : Int) (w : World) (h : MmAt w m) (ho : OqAt w o) :
  Calls Tryz.prog 12 #[.agg #[.int .i64 m.inn, .int .i64 m.out, m.bans.1, m.book.1, m.parts.1, m.locks.1], .agg #[.int .i64 o.kind, .int .i64 o.lock, .int .i64 o.lk, .int .i64 o.ls, .int .i64 o.lt, .int .i64 o.old, .int .i64 o.new, .int .i64 o.vn, .bool o.pe.en.ad.v6, .int .u64 o.pe.en.ad.hi, .int .u64 o.pe.en.ad.lo, .int .i64 o.pe.en.port, .bool o.pe.came, .int .i64 o.pe.since, .int .i64 o.pe.pts, .int .i64 o.pe.at_, .int .i64 o.pe.ping, .int .i64 o.pe.work, o.bans.1, o.book.1, .bool o.mark], .int .i64 who] w fun e w' => e = .returned (.bool (mayP m.pl o)) ∧ Below w.heap.size w w' := by
 have HL := zh (fun (W : World) (hb : Below w.heap.size w W) => memLock_any m o.lock W (h.below hb))
 have hlr := lkOf_at h o.lock
 have HR := zh (fun (W : World) => opRight_any o m.parts.2.length W)
 have hpl : m.pl.parts.length = m.parts.2.length := by unfold Mm.pl; simp
 have hlp := lkOf_pl m o.lock
 generalize lkOf m o.lock = q at *
 obtain ⟨qb, qv, ql⟩ := q
 simp only at hlr hlp HL
 obtain ⟨_, qa, qc, eq, _⟩ := ins_open hlr
 subst eq
 have hres : mayP m.pl o = (opRight o m.parts.2.length && (if o.kind = 1 then decide (qb = 0) && decide (ql = []) else if o.kind = 2 then decide (qb = 0) else true)) := by unfold mayP; rw [hpl, hlp]
 rw [hres]
 generalize opRight o m.parts.2.length = R at HR ⊢
 obtain ⟨a1, a2, a3, a4, c1, c2, c3, c4, e1, e2, e3, e4⟩ := mm_slices h
 obtain ⟨_, oa, oc, eo, _⟩ := ba_open ho.1
 obtain ⟨_, ka, kc, ek, _⟩ := ey_open ho.2
 obtain ⟨x0, x1, ⟨y1, z1⟩, ⟨y2, z2⟩, ⟨y3, z3⟩, ⟨y4, z4⟩⟩ := m
 obtain ⟨kind, lock, lk, ls, lt, old, new, vn, pe, ⟨ob, obl⟩, ⟨okv, okl⟩, mark⟩ := o
 simp only at e1 e2 e3 e4 eo ek
 subst e1 e2 e3 e4 eo ek
 clear hres hpl hlp hlr h ho
 simp only at *
 generalize z1.length = n1 at *; generalize z2.length = n2 at *; generalize z3.length = n3 at *; generalize z4.length = n4 at *; generalize obl.length = nb at *; generalize okl.length = nk at *
 have hl : ∀ b, decide (ql = []) = b → ((ql.length : Int) == 0) = b := fun b hb => by
  rw [← hb]; cases ql with
  | nil => rfl
  | cons a r => rw [decide_eq_false (by simp)]; exact beq_eq_false_iff_ne.2 (by simp; omega)
 have hb0 : ∀ b, decide (qb = 0) = b → (qb == 0) = b := fun b hb => by rw [← hb]; by_cases h : qb = 0 <;> simp [h]
 have hcase : (R = false ∧ (R && (if kind = 1 then decide (qb = 0) && decide (ql = []) else if kind = 2 then decide (qb = 0) else true)) = false) ∨
   (R = true ∧ kind = 1 ∧ (qb == 0) = true ∧ ((ql.length : Int) == 0) = true ∧ (R && (if kind = 1 then decide (qb = 0) && decide (ql = []) else if kind = 2 then decide (qb = 0) else true)) = true) ∨
   (R = true ∧ kind = 1 ∧ (qb == 0) = true ∧ ((ql.length : Int) == 0) = false ∧ (R && (if kind = 1 then decide (qb = 0) && decide (ql = []) else if kind = 2 then decide (qb = 0) else true)) = false) ∨
   (R = true ∧ kind = 1 ∧ (qb == 0) = false ∧ (R && (if kind = 1 then decide (qb = 0) && decide (ql = []) else if kind = 2 then decide (qb = 0) else true)) = false) ∨
   (R = true ∧ kind = 2 ∧ (qb == 0) = true ∧ (R && (if kind = 1 then decide (qb = 0) && decide (ql = []) else if kind = 2 then decide (qb = 0) else true)) = true) ∨
   (R = true ∧ kind = 2 ∧ (qb == 0) = false ∧ (R && (if kind = 1 then decide (qb = 0) && decide (ql = []) else if kind = 2 then decide (qb = 0) else true)) = false) ∨
   (R = true ∧ ((kind == 1) = false ∧ (kind == 2) = false ∧ (kind != 1) = true ∧ (kind != 2) = true ∧ (!decide (kind = 1)) = true ∧ (!decide (kind = 2)) = true ∧ decide (kind = 1) = false ∧ decide (kind = 2) = false) ∧ (R && (if kind = 1 then decide (qb = 0) && decide (ql = []) else if kind = 2 then decide (qb = 0) else true)) = true) := by
  cases R with
  | false => exact Or.inl ⟨rfl, rfl⟩
  | true =>
   right
   by_cases h1 : kind = 1
   ·subst h1
    cases hb : decide (qb = 0) with
    | true =>
     cases hs : decide (ql = []) with
     | true => exact Or.inl ⟨rfl, rfl, hb0 _ hb, hl _ hs, by simp⟩
     | false => exact Or.inr (Or.inl ⟨rfl, rfl, hb0 _ hb, hl _ hs, by simp⟩)
    | false => exact Or.inr (Or.inr (Or.inl ⟨rfl, rfl, hb0 _ hb, by simp⟩))
   ·by_cases h2 : kind = 2
    ·subst h2
     cases hb : decide (qb = 0) with
     | true => exact Or.inr (Or.inr (Or.inr (Or.inl ⟨rfl, rfl, hb0 _ hb, by simp⟩)))
     | false => exact Or.inr (Or.inr (Or.inr (Or.inr (Or.inl ⟨rfl, rfl, hb0 _ hb, by simp⟩))))
    ·exact Or.inr (Or.inr (Or.inr (Or.inr (Or.inr ⟨rfl, ⟨by simp [h1], by simp [h2], by simp [h1], by simp [h2], by simp [h1], by simp [h2], by simp [h1], by simp [h2]⟩, by simp [h1, h2]⟩))))
 clear hl hb0
 rcases hcase with ⟨rfl, hX⟩ | ⟨rfl, rfl, f1, f2, hX⟩ | ⟨rfl, rfl, f1, f2, hX⟩ | ⟨rfl, rfl, f1, hX⟩ | ⟨rfl, rfl, f1, hX⟩ | ⟨rfl, rfl, f1, hX⟩ | ⟨rfl, ⟨f1, f2, f3, f4, f5, f6, f7, f8⟩, hX⟩
 all_goals
  rw [hX]
  clear hX
  go_enter Tryz.func12, Tryz.ntmps12
  go_upto_region 1 with fail
  refine nmw2 fun W2 B2 hBm hBo hs2 => ?_
  obtain ⟨s0, s1, s2, s3, s4, s5⟩ := hBm.e6
  go_wp2_with (first
   | (refine list_load_blk rfl 56 _ rfl (w.heap.size + 1) _ 56 hBo rfl Tryz.underlying56 (by kernel_rfl) ?_)
   | (go_at_call 38; (with_reducible refine (HR.out _).mono ?_); rintro e w1 ⟨rfl, b1⟩; have z1 := b1.size; have b2 := below2 B2 b1; have hM1 := hBm.below b1; have hO1 := hBo.below b1; obtain ⟨p0, p1, p2, p3, p4, p5⟩ := hM1.e6; obtain ⟨o0, o1⟩ := hO1.e2)
   | (go_at_call 39; (with_reducible refine (HL.out _ b2).mono ?_); rintro e w3 ⟨rfl, b3⟩; have z3 := b3.size; have hO3 := (hO1.below b3).alloc' (.cells #[.int .i64 qb, .slice qa ql.length qc] 90); have hL3 : BlockIs (w3.alloc (.cells #[.int .i64 qb, .slice qa ql.length qc] 90)) w3.heap.size [.int .i64 qb, .slice qa ql.length qc] 90 := BlockIs.new w3 _ _; obtain ⟨t0, t1⟩ := hO3.e2; obtain ⟨q0, q1⟩ := hL3.e2))
  go_ret
  exact ⟨rfl, by first | exact (below2 b2 b3).alloc (below2 b2 b3).size _ | exact b2 | exact bel⟩

def GivesMm (w0 : World → Prop) (B : Nat) (w : World) (r : Pm) (e : Ending) (w' : World) : Prop := ∃ m : Mm, e = .returned (.agg #[.int .i64 m.inn, .int .i64 m.out, m.bans.1, m.book.1, m.parts.1, m.locks.1]) ∧ Firm w0 B w' (fun W => MmAt W m) ∧ m.pl = r ∧ Below w.heap.size w w'

set_option maxHeartbeats 8000000 in
theorem memStore_0 (w0 : World → Prop) (hg : Grows w0) (B : Nat) (m : Mm) (k s t : Int) (v : Vm) (w : World) (hb0 : w0 w) (hB : B ≤ w.heap.size) (hm : ∀ W, w0 W → MmAt W m) (hv : VmAt w v) (hk : k ≠ 3 ∧ k ≠ 4 ∧ k ≠ 5 ∧ k ≠ 6) :
  Calls Tryz.prog 48 #[.agg #[.int .i64 m.inn, .int .i64 m.out, m.bans.1, m.book.1, m.parts.1, m.locks.1], .agg #[.int .i64 k, .int .i64 s, .int .i64 t], .agg #[.int .i64 v.n, .bool v.pe.en.ad.v6, .int .u64 v.pe.en.ad.hi, .int .u64 v.pe.en.ad.lo, .int .i64 v.pe.en.port, .bool v.pe.came, .int .i64 v.pe.since, .int .i64 v.pe.pts, .int .i64 v.pe.at_, .int .i64 v.pe.ping, .int .i64 v.pe.work, v.bans.1, v.book.1]] w (GivesMm w0 B w (storeP m.pl k s t v.pl)) := by
 have hres : storeP m.pl k s t v.pl = m.pl := by unfold storeP; rw [if_neg hk.1, if_neg hk.2.1, if_neg hk.2.2.1, if_neg hk.2.2.2]
 rw [hres]
 unfold GivesMm
 have h := hm w hb0
 have HM := zh hm
 skip
 obtain ⟨a1, a2, a3, a4, c1, c2, c3, c4, e1, e2, e3, e4⟩ := mm_slices h
 obtain ⟨_, oa, oc, eo, _⟩ := ba_open hv.1
 obtain ⟨_, ka, kc, ek, _⟩ := ey_open hv.2
 have hmm := zmm e1 e2 e3 e4
 have HMM := zh hmm
 skip
 rw [e1, e2, e3, e4, eo, ek]
 clear hres e1 e2 e3 e4 eo ek hmm
 obtain ⟨x0, hx0, x1, hx1, n1, hn1, n2, hn2, n3, hn3, n4, hn4, nb, hnb, nk, hnk⟩ := nz8 m.inn m.out m.bans.2.length m.book.2.length m.parts.2.length m.locks.2.length v.bans.2.length v.book.2.length
 rw [← hx0, ← hx1, ← hn1, ← hn2, ← hn3, ← hn4, ← hnb, ← hnk]
 rw [← hx0, ← hx1, ← hn1, ← hn2, ← hn3, ← hn4] at HMM
 skip
 obtain ⟨HNB, HNK, HN3⟩ := zh3 hnb hnk hn3
 clear h hv hm hg hx0 hx1 hn1 hn2 hn3 hn4 hnb hnk
 have f3 : (k == 3) = false := beq_eq_false_iff_ne.2 hk.1; have f4 : (k == 4) = false := beq_eq_false_iff_ne.2 hk.2.1; have f5 : (k == 5) = false := beq_eq_false_iff_ne.2 hk.2.2.1; have f6 : (k == 6) = false := beq_eq_false_iff_ne.2 hk.2.2.2
 clear hk
 go_enter Tryz.func48, Tryz.ntmps48
 go_upto_region 1 with fail
 refine wpn4 fun W4 B4 hBm hBl hBv hBr hs4 => ?_
 skip
 obtain ⟨m0, m1, m2, m3, m4, m5⟩ := hBm.e6; have mf := hBm.frozen; have ml := hBm.lt; obtain ⟨l0, l1, l2⟩ := hBl.e3; obtain ⟨v0, v1, v2, v3, v4, v5, v6, v7, v8, v9, v10, v11, v12⟩ := hBv.e13; obtain ⟨r0, r1, r2, r3, r4, r5⟩ := hBr.e6; have rf := hBr.frozen; have rl := hBr.lt
 go_wp2_with fail
 refine bodyPost_named fun W9 h9 => ?_
 have hR9 : BlockIs W9 (w.heap.size + 1 + 1 + 1) [.int .i64 x0, .int .i64 x1, .slice a1 n1 c1, .slice a2 n2 c2, .slice a3 n3 c3, .slice a4 n4 c4] 40 := by subst h9; exact rcx hBr
 have b9 : Below w.heap.size w W9 := by subst h9; exact bel
 clear h9
 obtain ⟨e90, e91, e92, e93, e94, e95⟩ := hR9.e6
 exact bodyPost_ret (v := .agg #[.int .i64 x0, .int .i64 x1, .slice a1 n1 c1, .slice a2 n2 c2, .slice a3 n3 c3, .slice a4 n4 c4]) (by simp [results, Tryz.results48, go_sem, e90, e91, e92, e93, e94, e95]) rfl ⟨m, (by rw [HMM.out]), (fun W h0 hkp => by (have hm9 := HM.out W h0; exact hm9)), rfl, b9⟩

set_option maxHeartbeats 8000000 in
theorem memStore_3 (w0 : World → Prop) (hg : Grows w0) (B : Nat) (m : Mm) (s t : Int) (v : Vm) (w : World) (hb0 : w0 w) (hB : B ≤ w.heap.size) (hm : ∀ W, w0 W → MmAt W m) (hv : VmAt w v) (hl : v.bans.2.length ≤ 1000) :
  Calls Tryz.prog 48 #[.agg #[.int .i64 m.inn, .int .i64 m.out, m.bans.1, m.book.1, m.parts.1, m.locks.1], .agg #[.int .i64 3, .int .i64 s, .int .i64 t], .agg #[.int .i64 v.n, .bool v.pe.en.ad.v6, .int .u64 v.pe.en.ad.hi, .int .u64 v.pe.en.ad.lo, .int .i64 v.pe.en.port, .bool v.pe.came, .int .i64 v.pe.since, .int .i64 v.pe.pts, .int .i64 v.pe.at_, .int .i64 v.pe.ping, .int .i64 v.pe.work, v.bans.1, v.book.1]] w (GivesMm w0 B w (storeP m.pl 3 s t v.pl)) := by
 have hres : storeP m.pl 3 s t v.pl = { m.pl with bans := v.bans.2 } := by unfold storeP; rfl
 rw [hres]
 unfold GivesMm
 have h := hm w hb0
 have HM := zh hm
 skip
 obtain ⟨a1, a2, a3, a4, c1, c2, c3, c4, e1, e2, e3, e4⟩ := mm_slices h
 obtain ⟨_, oa, oc, eo, _⟩ := ba_open hv.1
 obtain ⟨_, ka, kc, ek, _⟩ := ey_open hv.2
 have hmm := zmm e1 e2 e3 e4
 have HMM := zh hmm
 have HC := zh (fun (W : World) (hb : Below w.heap.size w W) => cloneBn v.bans.1 v.bans.2.length (v.bans.2.flatMap baV) W (ReadsL.below hv.1 hb) (baV_onesM _) (by omega))
 simp only [eo, ek] at HC
 rw [e1, e2, e3, e4, eo, ek]
 clear hres e1 e2 e3 e4 eo ek hmm
 obtain ⟨x0, hx0, x1, hx1, n1, hn1, n2, hn2, n3, hn3, n4, hn4, nb, hnb, nk, hnk⟩ := nz8 m.inn m.out m.bans.2.length m.book.2.length m.parts.2.length m.locks.2.length v.bans.2.length v.book.2.length
 rw [← hx0, ← hx1, ← hn1, ← hn2, ← hn3, ← hn4, ← hnb, ← hnk]
 rw [← hx0, ← hx1, ← hn1, ← hn2, ← hn3, ← hn4] at HMM
 rw [← hnb] at HC
 obtain ⟨HNB, HNK, HN3⟩ := zh3 hnb hnk hn3
 clear h hv hm hg hx0 hx1 hn1 hn2 hn3 hn4 hnb hnk
 skip
 go_enter Tryz.func48, Tryz.ntmps48
 go_upto_region 1 with fail
 refine wpn4 fun W4 B4 hBm hBl hBv hBr hs4 => ?_
 skip
 obtain ⟨m0, m1, m2, m3, m4, m5⟩ := hBm.e6; have mf := hBm.frozen; have ml := hBm.lt; obtain ⟨l0, l1, l2⟩ := hBl.e3; obtain ⟨v0, v1, v2, v3, v4, v5, v6, v7, v8, v9, v10, v11, v12⟩ := hBv.e13; obtain ⟨r0, r1, r2, r3, r4, r5⟩ := hBr.e6; have rf := hBr.frozen; have rl := hBr.lt
 go_wp2_with (go_at_call 32; (with_reducible refine (HC.out _ (by first | exact B4 | exact bel)).mono ?_); rintro e w1 ⟨r1, rfl, o1, b1⟩; obtain ⟨a5, c5, e5⟩ := owns_slice o1; subst e5; have HO5 := zh o1; have z1 := b1.size; have hBm1 := hBm.below b1; have hBr1 := hBr.below b1; have B1 := below2 B4 b1; clear m0 m1 m2 m3 m4 m5 mf ml r0 r1 r2 r3 r4 r5 rf rl; obtain ⟨m0, m1, m2, m3, m4, m5⟩ := hBm1.e6; have mf := hBm1.frozen; have ml := hBm1.lt; obtain ⟨r0, r1, r2, r3, r4, r5⟩ := hBr1.e6; have rf := hBr1.frozen; have rl := hBr1.lt)
 refine bodyPost_named fun W9 h9 => ?_
 have hR9 : BlockIs W9 (w.heap.size + 1 + 1 + 1) [.int .i64 x0, .int .i64 x1, .slice a5 nb c5, .slice a2 n2 c2, .slice a3 n3 c3, .slice a4 n4 c4] 40 := by subst h9; exact rcx hBr1
 have b9 : Below w.heap.size w W9 := by subst h9; exact bel
 have HV9 : Hid (W9.ownsRow W4.heap.size 84 5 (.slice a5 nb c5) nb (v.bans.2.flatMap baV)) := by
  subst h9
  unfold Hid
  refine owns_held HO5.out fun g arr hg hb => ?_
  have nB : w.heap.size ≠ g := by omega
  have nB2 : g ≠ w.heap.size := by omega
  have nB3 : g ≠ w.heap.size + 1 + 1 + 1 := by omega
  have nB4 : w.heap.size + 1 + 1 + 1 ≠ g := by omega
  exact rcx hb
 clear h9
 obtain ⟨e90, e91, e92, e93, e94, e95⟩ := hR9.e6
 exact bodyPost_ret (v := .agg #[.int .i64 x0, .int .i64 x1, .slice a5 nb c5, .slice a2 n2 c2, .slice a3 n3 c3, .slice a4 n4 c4]) (by simp [results, Tryz.results48, go_sem, e90, e91, e92, e93, e94, e95]) rfl ⟨{ m with bans := (.slice a5 nb c5, v.bans.2) }, (by rw [HMM.out]), (fun W h0 hkp => by (have hm9 := HM.out W h0; exact ⟨by (unfold ReadsL; rw [← HNB.out]; exact owns_reads (owns_held HV9.out fun g arr hg hb => hkp g arr _ (by omega) hb)), hm9.2.1, hm9.2.2.1, hm9.2.2.2⟩)), rfl, b9⟩

set_option maxHeartbeats 8000000 in
theorem memStore_4 (w0 : World → Prop) (hg : Grows w0) (B : Nat) (m : Mm) (s t : Int) (v : Vm) (w : World) (hb0 : w0 w) (hB : B ≤ w.heap.size) (hm : ∀ W, w0 W → MmAt W m) (hv : VmAt w v) (hl : v.book.2.length ≤ 1000) :
  Calls Tryz.prog 48 #[.agg #[.int .i64 m.inn, .int .i64 m.out, m.bans.1, m.book.1, m.parts.1, m.locks.1], .agg #[.int .i64 4, .int .i64 s, .int .i64 t], .agg #[.int .i64 v.n, .bool v.pe.en.ad.v6, .int .u64 v.pe.en.ad.hi, .int .u64 v.pe.en.ad.lo, .int .i64 v.pe.en.port, .bool v.pe.came, .int .i64 v.pe.since, .int .i64 v.pe.pts, .int .i64 v.pe.at_, .int .i64 v.pe.ping, .int .i64 v.pe.work, v.bans.1, v.book.1]] w (GivesMm w0 B w (storeP m.pl 4 s t v.pl)) := by
 have hres : storeP m.pl 4 s t v.pl = { m.pl with book := v.book.2 } := by unfold storeP; rfl
 rw [hres]
 unfold GivesMm
 have h := hm w hb0
 have HM := zh hm
 skip
 obtain ⟨a1, a2, a3, a4, c1, c2, c3, c4, e1, e2, e3, e4⟩ := mm_slices h
 obtain ⟨_, oa, oc, eo, _⟩ := ba_open hv.1
 obtain ⟨_, ka, kc, ek, _⟩ := ey_open hv.2
 have hmm := zmm e1 e2 e3 e4
 have HMM := zh hmm
 have HC := zh (fun (W : World) (hb : Below w.heap.size w W) => cloneEy v.book.1 v.book.2.length (v.book.2.flatMap eyV) W (ReadsL.below hv.2 hb) (eyV_ones _) (by omega))
 simp only [eo, ek] at HC
 rw [e1, e2, e3, e4, eo, ek]
 clear hres e1 e2 e3 e4 eo ek hmm
 obtain ⟨x0, hx0, x1, hx1, n1, hn1, n2, hn2, n3, hn3, n4, hn4, nb, hnb, nk, hnk⟩ := nz8 m.inn m.out m.bans.2.length m.book.2.length m.parts.2.length m.locks.2.length v.bans.2.length v.book.2.length
 rw [← hx0, ← hx1, ← hn1, ← hn2, ← hn3, ← hn4, ← hnb, ← hnk]
 rw [← hx0, ← hx1, ← hn1, ← hn2, ← hn3, ← hn4] at HMM
 rw [← hnk] at HC
 obtain ⟨HNB, HNK, HN3⟩ := zh3 hnb hnk hn3
 clear h hv hm hg hx0 hx1 hn1 hn2 hn3 hn4 hnb hnk
 skip
 go_enter Tryz.func48, Tryz.ntmps48
 go_upto_region 1 with fail
 refine wpn4 fun W4 B4 hBm hBl hBv hBr hs4 => ?_
 skip
 obtain ⟨m0, m1, m2, m3, m4, m5⟩ := hBm.e6; have mf := hBm.frozen; have ml := hBm.lt; obtain ⟨l0, l1, l2⟩ := hBl.e3; obtain ⟨v0, v1, v2, v3, v4, v5, v6, v7, v8, v9, v10, v11, v12⟩ := hBv.e13; obtain ⟨r0, r1, r2, r3, r4, r5⟩ := hBr.e6; have rf := hBr.frozen; have rl := hBr.lt
 go_wp2_with (go_at_call 33; (with_reducible refine (HC.out _ (by first | exact B4 | exact bel)).mono ?_); rintro e w1 ⟨r1, rfl, o1, b1⟩; obtain ⟨a5, c5, e5⟩ := owns_slice o1; subst e5; have HO5 := zh o1; have z1 := b1.size; have hBm1 := hBm.below b1; have hBr1 := hBr.below b1; have B1 := below2 B4 b1; clear m0 m1 m2 m3 m4 m5 mf ml r0 r1 r2 r3 r4 r5 rf rl; obtain ⟨m0, m1, m2, m3, m4, m5⟩ := hBm1.e6; have mf := hBm1.frozen; have ml := hBm1.lt; obtain ⟨r0, r1, r2, r3, r4, r5⟩ := hBr1.e6; have rf := hBr1.frozen; have rl := hBr1.lt)
 refine bodyPost_named fun W9 h9 => ?_
 have hR9 : BlockIs W9 (w.heap.size + 1 + 1 + 1) [.int .i64 x0, .int .i64 x1, .slice a1 n1 c1, .slice a5 nk c5, .slice a3 n3 c3, .slice a4 n4 c4] 40 := by subst h9; exact rcx hBr1
 have b9 : Below w.heap.size w W9 := by subst h9; exact bel
 have HV9 : Hid (W9.ownsRow W4.heap.size 87 7 (.slice a5 nk c5) nk (v.book.2.flatMap eyV)) := by
  subst h9
  unfold Hid
  refine owns_held HO5.out fun g arr hg hb => ?_
  have nB : w.heap.size ≠ g := by omega
  have nB2 : g ≠ w.heap.size := by omega
  have nB3 : g ≠ w.heap.size + 1 + 1 + 1 := by omega
  have nB4 : w.heap.size + 1 + 1 + 1 ≠ g := by omega
  exact rcx hb
 clear h9
 obtain ⟨e90, e91, e92, e93, e94, e95⟩ := hR9.e6
 exact bodyPost_ret (v := .agg #[.int .i64 x0, .int .i64 x1, .slice a1 n1 c1, .slice a5 nk c5, .slice a3 n3 c3, .slice a4 n4 c4]) (by simp [results, Tryz.results48, go_sem, e90, e91, e92, e93, e94, e95]) rfl ⟨{ m with book := (.slice a5 nk c5, v.book.2) }, (by rw [HMM.out]), (fun W h0 hkp => by (have hm9 := HM.out W h0; exact ⟨hm9.1, by (unfold ReadsL; rw [← HNK.out]; exact owns_reads (owns_held HV9.out fun g arr hg hb => hkp g arr _ (by omega) hb)), hm9.2.2.1, hm9.2.2.2⟩)), rfl, b9⟩

set_option maxHeartbeats 8000000 in
theorem memStore_5 (w0 : World → Prop) (hg : Grows w0) (B : Nat) (m : Mm) (s t : Int) (v : Vm) (w : World) (hb0 : w0 w) (hB : B ≤ w.heap.size) (hm : ∀ W, w0 W → MmAt W m) (hv : VmAt w v) (hs : 0 ≤ s ∧ s < (m.parts.2.length : Int)) (hl : m.parts.2.length ≤ 1000) :
  Calls Tryz.prog 48 #[.agg #[.int .i64 m.inn, .int .i64 m.out, m.bans.1, m.book.1, m.parts.1, m.locks.1], .agg #[.int .i64 5, .int .i64 s, .int .i64 t], .agg #[.int .i64 v.n, .bool v.pe.en.ad.v6, .int .u64 v.pe.en.ad.hi, .int .u64 v.pe.en.ad.lo, .int .i64 v.pe.en.port, .bool v.pe.came, .int .i64 v.pe.since, .int .i64 v.pe.pts, .int .i64 v.pe.at_, .int .i64 v.pe.ping, .int .i64 v.pe.work, v.bans.1, v.book.1]] w (GivesMm w0 B w (storeP m.pl 5 s t v.pl)) := by
 have hres : storeP m.pl 5 s t v.pl = { m.pl with parts := setAt m.pl.parts s (v.n, (partP m.pl s).2) } := by unfold storeP; rfl
 rw [hres]
 unfold GivesMm
 have h := hm w hb0
 have HM := zh hm
 have HG := zh hg
 obtain ⟨j, rfl⟩ : ∃ j : Nat, s = (j : Int) := ⟨s.toNat, by omega⟩
 have hj : j < m.parts.2.length := by omega
 have hq0 := shOf_pl m (j : Int)
 obtain ⟨x, hx⟩ : ∃ x, m.parts.2[j]? = some x := ⟨_, List.getElem?_eq_getElem hj⟩
 have hsx : shOf m (j : Int) = x := by unfold shOf getAt; rw [if_pos hs.1, Int.toNat_natCast, List.getD_eq_getElem?_getD, hx]; rfl
 have hAt := shOf_at h (j : Int)
 rw [hsx] at hAt hq0
 obtain ⟨_, a5, c5, e5, _⟩ := pes_open hAt
 obtain ⟨_, p, c, e6, h3⟩ := shs_open h.2.2.1.1
 obtain ⟨b, o, rfl, h4, h5, h6⟩ := h3 (by omega)
 obtain ⟨k0, k1⟩ := h6 j x hx
 rw [e5] at k1
 rw [hq0]
 have HP := zh (fun (W : World) (K : Sh) (hW : w.heap.size + 1 + 1 + 1 + 1 + 1 ≤ W.heap.size) (hK : Firm w0 (w.heap.size + 1 + 1 + 1 + 1 + 1) W fun W => ReadsL peV 10 W K.v K.l) (hb : Below w.heap.size w W) => mem_part_in w0 hg (w.heap.size + 1 + 1 + 1 + 1 + 1) m j K W (hg _ _ hb0 hb) hW hm hK hj hl)
 obtain ⟨a1, a2, a3, a4, c1, c2, c3, c4, e1, e2, e3, e4⟩ := mm_slices h
 obtain ⟨_, oa, oc, eo, _⟩ := ba_open hv.1
 obtain ⟨_, ka, kc, ek, _⟩ := ey_open hv.2
 have hmm := zmm e1 e2 e3 e4
 have HMM := zh hmm
 have ex := e3.symm.trans e6
 injection ex with ea en ec
 subst ea ec
 simp only [e1, e2, e3, e4] at HP
 obtain ⟨E1, E2, E4⟩ := zh3 e1 e2 e4
 obtain ⟨xs, hxs, xn, hxn⟩ := nz2 x.size x.l.length
 rw [← hxs] at k0
 rw [← hxn] at k1
 rw [e1, e2, e3, e4, eo, ek]
 clear hres e1 e2 e3 e4 eo ek hmm
 obtain ⟨x0, hx0, x1, hx1, n1, hn1, n2, hn2, n3, hn3, n4, hn4, nb, hnb, nk, hnk⟩ := nz8 m.inn m.out m.bans.2.length m.book.2.length m.parts.2.length m.locks.2.length v.bans.2.length v.book.2.length
 rw [← hx0, ← hx1, ← hn1, ← hn2, ← hn3, ← hn4, ← hnb, ← hnk]
 rw [← hx0, ← hx1, ← hn1, ← hn2, ← hn3, ← hn4] at HMM
 rw [← hx0, ← hx1, ← hn1, ← hn2, ← hn3, ← hn4] at HP
 have q1 : (j : Int) < (n3 : Int) := by omega
 have q2 : (0 : Int) ≤ (j : Int) := by omega
 obtain ⟨HX0, HX1, HN1, HN2, HN4, HXS, HXN, HAT⟩ := zh8 hx0 hx1 hn1 hn2 hn4 hxs hxn hAt; have HATK := zh (fun W hW => show ReadsL peV 10 W x.v x.l by (have hq := shOf_at (hm W hW) (j : Int); rw [hsx] at hq; exact hq)); obtain ⟨HE5, HJ⟩ := zh2 e5 hj
 clear hxs hxn hq0 hx hsx hAt e5 e6 en h3 h6 hs hl hj
 obtain ⟨HNB, HNK, HN3⟩ := zh3 hnb hnk hn3
 clear h hv hm hg hx0 hx1 hn1 hn2 hn3 hn4 hnb hnk
 skip
 go_enter Tryz.func48, Tryz.ntmps48
 go_upto_region 1 with fail
 refine wpn4 fun W4 B4 hBm hBl hBv hBr hs4 => ?_
 have z0 := keep B4 h5 k0
 have z1 := keep B4 h5 k1
 have y2 := hBm.c4
 have y3 := hBl.c1
 have y0 := hBl.c0
 obtain ⟨m0, m1, m2, m3, m4, m5⟩ := hBm.e6; have mf := hBm.frozen; have ml := hBm.lt; obtain ⟨l0, l1, l2⟩ := hBl.e3; obtain ⟨v0, v1, v2, v3, v4, v5, v6, v7, v8, v9, v10, v11, v12⟩ := hBv.e13; obtain ⟨r0, r1, r2, r3, r4, r5⟩ := hBr.e6; have rf := hBr.frozen; have rl := hBr.lt
 clear m0 m1 m2 m3 m5 mf ml l2 v0 v1 v2 v3 v4 v5 v6 v7 v8 v9 v10 v11 v12 r0 r1 r2 r3 r4 r5 rf rl
 go_upto_region 8 with fail
 obtain ⟨W5, hW5⟩ : ∃ W5, W5 = W4.alloc (.cells #[.int .i64 xs, .slice a5 xn c5] 112) := ⟨_, rfl⟩
 rw [← hW5]
 have B5 : Below w.heap.size w W5 := by subst hW5; exact B4.alloc B4.size _
 have hBs : BlockIs W5 W4.heap.size [.int .i64 xs, .slice a5 xn c5] 112 := by subst hW5; exact BlockIs.new W4 [.int .i64 xs, .slice a5 xn c5] _
 have hBm : BlockIs W5 w.heap.size [.int .i64 x0, .int .i64 x1, .slice a1 n1 c1, .slice a2 n2 c2, .slice (some ⟨b, o, none⟩) n3 c3, .slice a4 n4 c4] 40 := by subst hW5; exact hBm.alloc' _
 have hBl : BlockIs W5 (w.heap.size + 1) [.int .i64 5, .int .i64 j, .int .i64 t] 44 := by subst hW5; exact hBl.alloc' _
 have hBv : BlockIs W5 (w.heap.size + 1 + 1) [.int .i64 v.n, .bool v.pe.en.ad.v6, .int .u64 v.pe.en.ad.hi, .int .u64 v.pe.en.ad.lo, .int .i64 v.pe.en.port, .bool v.pe.came, .int .i64 v.pe.since, .int .i64 v.pe.pts, .int .i64 v.pe.at_, .int .i64 v.pe.ping, .int .i64 v.pe.work, .slice oa nb oc, .slice ka nk kc] 54 := by subst hW5; exact hBv.alloc' _
 have hBr : BlockIs W5 (w.heap.size + 1 + 1 + 1) [.int .i64 0, .int .i64 0, .slice none 0 0, .slice none 0 0, .slice none 0 0, .slice none 0 0] 40 := by subst hW5; exact hBr.alloc' _
 have hs5 : W5.heap.size = w.heap.size + 1 + 1 + 1 + 1 + 1 := by subst hW5; rw [World.size_alloc, hs4]
 clear hW5 z0 z1 y2 y3 y0
 rw [hs4] at hBs
 try rw [hs4]
 clear hs4
 obtain ⟨m0, m1, m2, m3, m4, m5⟩ := hBm.e6; have mf := hBm.frozen; have ml := hBm.lt; obtain ⟨l0, l1, l2⟩ := hBl.e3; obtain ⟨v0, v1, v2, v3, v4, v5, v6, v7, v8, v9, v10, v11, v12⟩ := hBv.e13; obtain ⟨r0, r1, r2, r3, r4, r5⟩ := hBr.e6; have rf := hBr.frozen; have rl := hBr.lt; obtain ⟨s0, s1⟩ := hBs.e2; have sf := hBs.frozen; have sl := hBs.lt
 go_wp2_with (go_at_call 75; (with_reducible refine (HP.out _ ⟨v.n, .slice a5 xn c5, x.l⟩ (by simp [World.setCell]; omega) (by rw [HXN.out, ← HE5.out]; exact Firm.old fun W hW => HATK.out W hW) (by exact bel)).mono ?_); rintro e w7 ⟨v7, rfl, hM7, b7⟩; have HM7 := zh hM7; have B7 := below2 (w := w) (by exact bel) b7; obtain ⟨_, a6, c6, e6, _⟩ := shs_open (hM7.now (HG.out _ _ hb0 B7)).2.2.1.1; simp only [List.length_set] at e6; rw [← HN3.out] at e6; have E6 := zh e6; subst e6; have z7 := b7.size; have hBr7 : BlockIs w7 (w.heap.size + 1 + 1 + 1) [.int .i64 0, .int .i64 0, .slice none 0 0, .slice none 0 0, .slice none 0 0, .slice none 0 0] 40 := BlockIs.below (by exact rcx hBr) b7; clear r0 r1 r2 r3 r4 r5 rf rl; obtain ⟨r0, r1, r2, r3, r4, r5⟩ := hBr7.e6; have rf := hBr7.frozen; have rl := hBr7.lt)
 refine bodyPost_named fun W9 h9 => ?_
 have hR9 : BlockIs W9 (w.heap.size + 1 + 1 + 1) [.int .i64 x0, .int .i64 x1, .slice a1 n1 c1, .slice a2 n2 c2, .slice a6 n3 c6, .slice a4 n4 c4] 40 := by subst h9; exact rcx hBr7
 have b9 : Below w.heap.size w W9 := by subst h9; exact bel
 have FIN : Hid (Firm w0 B W9 fun W => MmAt W ⟨x0, x1, m.bans, m.book, (.slice a6 n3 c6, m.parts.2.set j ⟨v.n, .slice a5 xn c5, x.l⟩), m.locks⟩) := by
  subst h9
  unfold Hid
  refine (Firm.keep HM7.out fun g arr T h1 hb => ?_).from (by omega)
  have nB : w.heap.size ≠ g := by omega
  have nB2 : g ≠ w.heap.size := by omega
  have nB3 : g ≠ w.heap.size + 1 + 1 + 1 := by omega
  have nB4 : w.heap.size + 1 + 1 + 1 ≠ g := by omega
  exact rcx hb
 clear h9
 obtain ⟨e90, e91, e92, e93, e94, e95⟩ := hR9.e6
 exact bodyPost_ret (v := .agg #[.int .i64 x0, .int .i64 x1, .slice a1 n1 c1, .slice a2 n2 c2, .slice a6 n3 c6, .slice a4 n4 c4]) (by simp [results, Tryz.results48, go_sem, e90, e91, e92, e93, e94, e95]) rfl ⟨⟨x0, x1, m.bans, m.book, (.slice a6 n3 c6, m.parts.2.set j ⟨v.n, .slice a5 xn c5, x.l⟩), m.locks⟩, (by simp only [E1.out, E2.out, E4.out, ← HN1.out, ← HN2.out, ← HN4.out]), (fun W h0 hkp => by (have hm9 := HM.out W h0; exact FIN.out W h0 hkp)), (by unfold Mm.pl setAt; simp only [if_pos q2, Int.toNat_natCast, List.map_set, HX0.out, HX1.out]), b9⟩

theorem setAt_self {α : Type} (l : List α) (k : Int) (d : α) (h : 0 ≤ k ∧ k < (l.length : Int)) : setAt l k (getAt l k d) = l := by
 unfold setAt getAt
 rw [if_pos h.1, if_pos h.1, List.getD_eq_getElem?_getD, List.getElem?_eq_getElem (by omega), Option.getD_some]
 exact List.set_getElem_self _
theorem storeP_over (m : Pm) (s t : Int) (v : Vp) (hs : 0 ≤ s ∧ s < (m.parts.length : Int)) (h : ((partP m s).2.length : Int) < t) : storeP m 6 s t v = m := by
 show { m with parts := setAt m.parts s ((partP m s).1, putP (partP m s).2 t v.pe) } = m
 have : putP (partP m s).2 t v.pe = (partP m s).2 := if_pos h
 rw [this]
 show { m with parts := setAt m.parts s (getAt m.parts s (0, [])) } = m
 rw [setAt_self _ _ _ hs]
set_option maxHeartbeats 8000000 in
theorem memStore_6over (w0 : World → Prop) (hg : Grows w0) (B : Nat) (m : Mm) (s t : Int) (v : Vm) (w : World) (hb0 : w0 w) (hB : B ≤ w.heap.size) (hm : ∀ W, w0 W → MmAt W m) (hv : VmAt w v) (hs : 0 ≤ s ∧ s < (m.parts.2.length : Int)) (hl : m.parts.2.length ≤ 1000) (ho : ((shOf m s).l.length : Int) < t) :
  Calls Tryz.prog 48 #[.agg #[.int .i64 m.inn, .int .i64 m.out, m.bans.1, m.book.1, m.parts.1, m.locks.1], .agg #[.int .i64 6, .int .i64 s, .int .i64 t], .agg #[.int .i64 v.n, .bool v.pe.en.ad.v6, .int .u64 v.pe.en.ad.hi, .int .u64 v.pe.en.ad.lo, .int .i64 v.pe.en.port, .bool v.pe.came, .int .i64 v.pe.since, .int .i64 v.pe.pts, .int .i64 v.pe.at_, .int .i64 v.pe.ping, .int .i64 v.pe.work, v.bans.1, v.book.1]] w (GivesMm w0 B w (storeP m.pl 6 s t v.pl)) := by
 have hres : storeP m.pl 6 s t v.pl = m.pl := by unfold storeP; exact storeP_over _ _ _ _ (by unfold Mm.pl; rw [List.length_map]; exact hs) (by rw [shOf_pl]; exact ho)
 rw [hres]
 unfold GivesMm
 have h := hm w hb0
 have HM := zh hm
 have HG := zh hg
 obtain ⟨j, rfl⟩ : ∃ j : Nat, s = (j : Int) := ⟨s.toNat, by omega⟩
 have hj : j < m.parts.2.length := by omega
 have hq0 := shOf_pl m (j : Int)
 obtain ⟨x, hx⟩ : ∃ x, m.parts.2[j]? = some x := ⟨_, List.getElem?_eq_getElem hj⟩
 have hsx : shOf m (j : Int) = x := by unfold shOf getAt; rw [if_pos hs.1, Int.toNat_natCast, List.getD_eq_getElem?_getD, hx]; rfl
 have hAt := shOf_at h (j : Int)
 rw [hsx] at hAt hq0 ho
 obtain ⟨_, a5, c5, e5, _⟩ := pes_open hAt
 obtain ⟨_, p, c, e6, h3⟩ := shs_open h.2.2.1.1
 obtain ⟨b, o, rfl, h4, h5, h6⟩ := h3 (by omega)
 obtain ⟨k0, k1⟩ := h6 j x hx
 rw [e5] at k1
 have HP := zh (fun (W : World) (K : Sh) (hW : w.heap.size + 1 + 1 + 1 + 1 + 1 ≤ W.heap.size) (hK : Firm w0 (w.heap.size + 1 + 1 + 1 + 1 + 1) W fun W => ReadsL peV 10 W K.v K.l) (hb : Below w.heap.size w W) => mem_part_in w0 hg (w.heap.size + 1 + 1 + 1 + 1 + 1) m j K W (hg _ _ hb0 hb) hW hm hK hj hl)
 obtain ⟨a1, a2, a3, a4, c1, c2, c3, c4, e1, e2, e3, e4⟩ := mm_slices h
 obtain ⟨_, oa, oc, eo, _⟩ := ba_open hv.1
 obtain ⟨_, ka, kc, ek, _⟩ := ey_open hv.2
 have hmm := zmm e1 e2 e3 e4
 have HMM := zh hmm
 have ex := e3.symm.trans e6
 injection ex with ea en ec
 subst ea ec
 simp only [e1, e2, e3, e4] at HP
 obtain ⟨E1, E2, E4⟩ := zh3 e1 e2 e4
 obtain ⟨xs, hxs, xn, hxn⟩ := nz2 x.size x.l.length
 rw [← hxs] at k0
 rw [← hxn] at k1
 rw [e1, e2, e3, e4, eo, ek]
 clear hres e1 e2 e3 e4 eo ek hmm
 obtain ⟨x0, hx0, x1, hx1, n1, hn1, n2, hn2, n3, hn3, n4, hn4, nb, hnb, nk, hnk⟩ := nz8 m.inn m.out m.bans.2.length m.book.2.length m.parts.2.length m.locks.2.length v.bans.2.length v.book.2.length
 rw [← hx0, ← hx1, ← hn1, ← hn2, ← hn3, ← hn4, ← hnb, ← hnk]
 rw [← hx0, ← hx1, ← hn1, ← hn2, ← hn3, ← hn4] at HMM
 rw [← hx0, ← hx1, ← hn1, ← hn2, ← hn3, ← hn4] at HP
 have q1 : (j : Int) < (n3 : Int) := by omega
 have q2 : (0 : Int) ≤ (j : Int) := by omega
 obtain ⟨HX0, HX1, HN1, HN2, HN4, HXS, HXN, HAT⟩ := zh8 hx0 hx1 hn1 hn2 hn4 hxs hxn hAt; have HATK := zh (fun W hW => show ReadsL peV 10 W x.v x.l by (have hq := shOf_at (hm W hW) (j : Int); rw [hsx] at hq; exact hq)); obtain ⟨HE5, HJ⟩ := zh2 e5 hj
 rw [← hxn] at ho
 clear hxs hxn hq0 hx hsx hAt e5 e6 en h3 h6 hs hl hj
 obtain ⟨HNB, HNK, HN3⟩ := zh3 hnb hnk hn3
 clear h hv hm hg hx0 hx1 hn1 hn2 hn3 hn4 hnb hnk
 skip
 go_enter Tryz.func48, Tryz.ntmps48
 go_upto_region 1 with fail
 refine wpn4 fun W4 B4 hBm hBl hBv hBr hs4 => ?_
 have z0 := keep B4 h5 k0
 have z1 := keep B4 h5 k1
 have y2 := hBm.c4
 have y3 := hBl.c1
 have y0 := hBl.c0
 obtain ⟨m0, m1, m2, m3, m4, m5⟩ := hBm.e6; have mf := hBm.frozen; have ml := hBm.lt; obtain ⟨l0, l1, l2⟩ := hBl.e3; obtain ⟨v0, v1, v2, v3, v4, v5, v6, v7, v8, v9, v10, v11, v12⟩ := hBv.e13; obtain ⟨r0, r1, r2, r3, r4, r5⟩ := hBr.e6; have rf := hBr.frozen; have rl := hBr.lt
 have hq5 := zh ho
 clear m0 m1 m2 m3 m5 mf ml l2 v0 v1 v2 v3 v4 v5 v6 v7 v8 v9 v10 v11 v12 r0 r1 r2 r3 r4 r5 rf rl
 go_upto_region 12 with fail
 obtain ⟨W5, hW5⟩ : ∃ W5, W5 = W4.alloc (.cells #[.int .i64 xs, .slice a5 xn c5] 112) := ⟨_, rfl⟩
 rw [← hW5]
 have B5 : Below w.heap.size w W5 := by subst hW5; exact B4.alloc B4.size _
 have hBs : BlockIs W5 W4.heap.size [.int .i64 xs, .slice a5 xn c5] 112 := by subst hW5; exact BlockIs.new W4 [.int .i64 xs, .slice a5 xn c5] _
 have hBm : BlockIs W5 w.heap.size [.int .i64 x0, .int .i64 x1, .slice a1 n1 c1, .slice a2 n2 c2, .slice (some ⟨b, o, none⟩) n3 c3, .slice a4 n4 c4] 40 := by subst hW5; exact hBm.alloc' _
 have hBl : BlockIs W5 (w.heap.size + 1) [.int .i64 6, .int .i64 j, .int .i64 t] 44 := by subst hW5; exact hBl.alloc' _
 have hBv : BlockIs W5 (w.heap.size + 1 + 1) [.int .i64 v.n, .bool v.pe.en.ad.v6, .int .u64 v.pe.en.ad.hi, .int .u64 v.pe.en.ad.lo, .int .i64 v.pe.en.port, .bool v.pe.came, .int .i64 v.pe.since, .int .i64 v.pe.pts, .int .i64 v.pe.at_, .int .i64 v.pe.ping, .int .i64 v.pe.work, .slice oa nb oc, .slice ka nk kc] 54 := by subst hW5; exact hBv.alloc' _
 have hBr : BlockIs W5 (w.heap.size + 1 + 1 + 1) [.int .i64 0, .int .i64 0, .slice none 0 0, .slice none 0 0, .slice none 0 0, .slice none 0 0] 40 := by subst hW5; exact hBr.alloc' _
 have hs5 : W5.heap.size = w.heap.size + 1 + 1 + 1 + 1 + 1 := by subst hW5; rw [World.size_alloc, hs4]
 clear hW5 z0 z1 y2 y3 y0
 rw [hs4] at hBs
 try rw [hs4]
 clear hs4
 obtain ⟨m0, m1, m2, m3, m4, m5⟩ := hBm.e6; have mf := hBm.frozen; have ml := hBm.lt; obtain ⟨l0, l1, l2⟩ := hBl.e3; obtain ⟨v0, v1, v2, v3, v4, v5, v6, v7, v8, v9, v10, v11, v12⟩ := hBv.e13; obtain ⟨r0, r1, r2, r3, r4, r5⟩ := hBr.e6; have rf := hBr.frozen; have rl := hBr.lt; obtain ⟨s0, s1⟩ := hBs.e2; have sf := hBs.frozen; have sl := hBs.lt
 go_wp2_with fail
 refine bodyPost_named fun W9 h9 => ?_
 have hR9 : BlockIs W9 (w.heap.size + 1 + 1 + 1) [.int .i64 x0, .int .i64 x1, .slice a1 n1 c1, .slice a2 n2 c2, .slice (some ⟨b, o, none⟩) n3 c3, .slice a4 n4 c4] 40 := by subst h9; exact rcx hBr
 have b9 : Below w.heap.size w W9 := by subst h9; exact bel
 clear h9
 obtain ⟨e90, e91, e92, e93, e94, e95⟩ := hR9.e6
 exact bodyPost_ret (v := .agg #[.int .i64 x0, .int .i64 x1, .slice a1 n1 c1, .slice a2 n2 c2, .slice (some ⟨b, o, none⟩) n3 c3, .slice a4 n4 c4]) (by simp [results, Tryz.results48, go_sem, e90, e91, e92, e93, e94, e95]) rfl ⟨m, (by rw [HMM.out]), (fun W h0 hkp => by (have hm9 := HM.out W h0; exact hm9)), rfl, b9⟩

theorem reads_oneB {W : World} {g : Nat} {p : Pe} {T : TypeId} (h : BlockIs W g (peV p) T) : ReadsL peV 10 W (.slice (some ⟨g, 0, none⟩) 1 1) [p] := by
 refine ⟨by simp [peV], by simp, Or.inr ⟨by simp, g, 0, 1, rfl, by simp, h.lt, fun j x hj => ?_⟩⟩
 rw [Nat.zero_add]
 exact h.cell (by simpa using hj)
theorem reads_dropIf {w : World} {l : List Pe} {b o c k : Nat} (h : ReadsL peV 10 w (.slice (some ⟨b, o, none⟩) l.length c) l) (hk : k ≤ l.length) (hc : l.length ≤ c) : ReadsL peV 10 w (.slice (if c = k then some ⟨b, o, none⟩ else some ⟨b, o + k * 10, none⟩) (l.length - k) (c - k)) (l.drop k) := by
 split
 ·have e : l.length - k = 0 := by omega
  rw [e, List.drop_eq_nil_of_le (by omega)]
  exact ReadsL.nil _ _ _ _ _
 ·exact reads_dropP h hk
theorem drop_min (l : List Pe) (T : Nat) : l.drop (min (T + 1) l.length) = l.drop (T + 1) := by
 rcases Nat.le_total (T + 1) l.length with h | h
 ·rw [Nat.min_eq_left h]
 ·rw [Nat.min_eq_right h, List.drop_length, List.drop_eq_nil_of_le h]

set_option maxHeartbeats 8000000 in
theorem memStore_6in (w0 : World → Prop) (hg : Grows w0) (B : Nat) (m : Mm) (s t : Int) (v : Vm) (w : World) (hb0 : w0 w) (hB : B ≤ w.heap.size) (hm : ∀ W, w0 W → MmAt W m) (hv : VmAt w v) (hs : 0 ≤ s ∧ s < (m.parts.2.length : Int)) (hl : m.parts.2.length ≤ 1000) (ht : 0 ≤ t) (ho : t ≤ ((shOf m s).l.length : Int)) (hp : 0 < (shOf m s).l.length) (hsm : (shOf m s).l.length ≤ 100000) (hck : ∀ a n c, (shOf m s).v = .slice a n c → ¬ c = min (t.toNat + 1) n) :
  Calls Tryz.prog 48 #[.agg #[.int .i64 m.inn, .int .i64 m.out, m.bans.1, m.book.1, m.parts.1, m.locks.1], .agg #[.int .i64 6, .int .i64 s, .int .i64 t], .agg #[.int .i64 v.n, .bool v.pe.en.ad.v6, .int .u64 v.pe.en.ad.hi, .int .u64 v.pe.en.ad.lo, .int .i64 v.pe.en.port, .bool v.pe.came, .int .i64 v.pe.since, .int .i64 v.pe.pts, .int .i64 v.pe.at_, .int .i64 v.pe.ping, .int .i64 v.pe.work, v.bans.1, v.book.1]] w (GivesMm w0 B w (storeP m.pl 6 s t v.pl)) := by
 have hres : storeP m.pl 6 s t v.pl = { m.pl with parts := setAt m.pl.parts s ((partP m.pl s).1, putP (partP m.pl s).2 t v.pe) } := by unfold storeP; rfl
 rw [hres]
 unfold GivesMm
 have h := hm w hb0
 have HM := zh hm
 have HG := zh hg
 obtain ⟨T, rfl⟩ : ∃ T : Nat, t = (T : Int) := ⟨t.toNat, by omega⟩
 obtain ⟨j, rfl⟩ : ∃ j : Nat, s = (j : Int) := ⟨s.toNat, by omega⟩
 have hj : j < m.parts.2.length := by omega
 have hq0 := shOf_pl m (j : Int)
 obtain ⟨x, hx⟩ : ∃ x, m.parts.2[j]? = some x := ⟨_, List.getElem?_eq_getElem hj⟩
 have hsx : shOf m (j : Int) = x := by unfold shOf getAt; rw [if_pos hs.1, Int.toNat_natCast, List.getD_eq_getElem?_getD, hx]; rfl
 have hAt := shOf_at h (j : Int)
 rw [hsx] at hAt hq0 ho hp hsm hck
 obtain ⟨_, a5, c5, e5, hz5⟩ := pes_open hAt
 obtain ⟨b5, o5, rfl, hz6, _, _⟩ := hz5 hp
 have hne := hck _ _ _ e5
 rw [Int.toNat_natCast] at hne
 clear hck
 obtain ⟨_, p, c, e6, h3⟩ := shs_open h.2.2.1.1
 obtain ⟨b, o, rfl, h4, h5, h6⟩ := h3 (by omega)
 obtain ⟨k0, k1⟩ := h6 j x hx
 rw [e5] at k1
 have hput : putP x.l (T : Int) v.pe = x.l.take T ++ v.pe :: x.l.drop (T + 1) := by unfold putP; rw [if_neg (by omega), Int.toNat_natCast]
 rw [hq0]
 simp only [hput]
 have HP := zh (fun (W : World) (K : Sh) (hW : w.heap.size + 1 + 1 + 1 + 1 + 1 ≤ W.heap.size) (hK : Firm w0 (w.heap.size + 1 + 1 + 1 + 1 + 1) W fun W => ReadsL peV 10 W K.v K.l) (hb : Below w.heap.size w W) => mem_part_in w0 hg (w.heap.size + 1 + 1 + 1 + 1 + 1) m j K W (hg _ _ hb0 hb) hW hm hK hj hl)
 obtain ⟨a1, a2, a3, a4, c1, c2, c3, c4, e1, e2, e3, e4⟩ := mm_slices h
 obtain ⟨_, oa, oc, eo, _⟩ := ba_open hv.1
 obtain ⟨_, ka, kc, ek, _⟩ := ey_open hv.2
 have hmm := zmm e1 e2 e3 e4
 have HMM := zh hmm
 have ex := e3.symm.trans e6
 injection ex with ea en ec
 subst ea ec
 simp only [e1, e2, e3, e4] at HP
 obtain ⟨E1, E2, E4⟩ := zh3 e1 e2 e4
 obtain ⟨xs, hxs, xn, hxn⟩ := nz2 x.size x.l.length
 rw [← hxs] at k0
 rw [← hxn] at k1
 rw [e1, e2, e3, e4, eo, ek]
 clear hres e1 e2 e3 e4 eo ek hmm
 obtain ⟨x0, hx0, x1, hx1, n1, hn1, n2, hn2, n3, hn3, n4, hn4, nb, hnb, nk, hnk⟩ := nz8 m.inn m.out m.bans.2.length m.book.2.length m.parts.2.length m.locks.2.length v.bans.2.length v.book.2.length
 rw [← hx0, ← hx1, ← hn1, ← hn2, ← hn3, ← hn4, ← hnb, ← hnk]
 rw [← hx0, ← hx1, ← hn1, ← hn2, ← hn3, ← hn4] at HMM
 rw [← hx0, ← hx1, ← hn1, ← hn2, ← hn3, ← hn4] at HP
 have q1 : (j : Int) < (n3 : Int) := by omega
 have q2 : (0 : Int) ≤ (j : Int) := by omega
 obtain ⟨HX0, HX1, HN1, HN2, HN4, HXS, HXN, HAT⟩ := zh8 hx0 hx1 hn1 hn2 hn4 hxs hxn hAt; have HATK := zh (fun W hW => show ReadsL peV 10 W x.v x.l by (have hq := shOf_at (hm W hW) (j : Int); rw [hsx] at hq; exact hq)); obtain ⟨HE5, HJ⟩ := zh2 e5 hj
 rw [← hxn] at ho hp hsm hz6 hne
 clear hz5 hput hxs hxn hq0 hx hsx hAt e5 e6 en h3 h6 hs hl hj
 obtain ⟨HNB, HNK, HN3⟩ := zh3 hnb hnk hn3
 clear h hv hm hg hx0 hx1 hn1 hn2 hn3 hn4 hnb hnk
 skip
 go_enter Tryz.func48, Tryz.ntmps48
 go_upto_region 1 with fail
 refine wpn4 fun W4 B4 hBm hBl hBv hBr hs4 => ?_
 have z0 := keep B4 h5 k0
 have z1 := keep B4 h5 k1
 have y2 := hBm.c4
 have y3 := hBl.c1
 have y0 := hBl.c0
 obtain ⟨m0, m1, m2, m3, m4, m5⟩ := hBm.e6; have mf := hBm.frozen; have ml := hBm.lt; obtain ⟨l0, l1, l2⟩ := hBl.e3; obtain ⟨v0, v1, v2, v3, v4, v5, v6, v7, v8, v9, v10, v11, v12⟩ := hBv.e13; obtain ⟨r0, r1, r2, r3, r4, r5⟩ := hBr.e6; have rf := hBr.frozen; have rl := hBr.lt
 obtain ⟨K, hK⟩ : ∃ K : Nat, K = min (T + 1) xn := ⟨_, rfl⟩
 have p1 : ¬ (xn : Int) < (T : Int) := by omega
 have p2 : (0 : Int) ≤ (T : Int) := by omega
 have p3 : (T : Int) ≤ (xn : Int) := by omega
 have p4 : (T : Int) ≤ (c5 : Int) := by omega
 have p7 : min (IntKind.i64.wrap ((T : Int) + 1)) (xn : Int) = (K : Int) := by rw [show IntKind.i64.wrap ((T : Int) + 1) = (T : Int) + 1 by rw [IntKind.wrap_i64]; omega]; omega
 have p8 : (K : Int) ≤ (xn : Int) := by omega
 rw [← hK] at hne
 have HKK := zh hK
 have HCC := zh (fun (W : World) (bk gk : Nat) (hT : BlockIs W bk [.slice (some ⟨b5, o5, none⟩) T c5, .slice (some ⟨gk, 0, none⟩) 1 1, .slice (some ⟨b5, o5 + K * 10, none⟩) (xn - K) (c5 - K)] 29) (hP : BlockIs W gk (peV v.pe) 52) (hb : Below w.heap.size w W) => by
  have hr : ReadsL peV 10 W (.slice (some ⟨b5, o5, none⟩) x.l.length c5) x.l := by rw [← HE5.out]; exact ReadsL.below HAT.out hb
  have hxl := HXN.out
  have r1 := reads_takeP (k := T) hr (by omega)
  have r3 := reads_dropIf (k := K) hr (by omega) (by omega)
  rw [← HXN.out] at r3
  rw [hK, HXN.out, drop_min, ← HXN.out, ← hK, if_neg hne] at r3
  have r2 : ReadsL peV 10 W (.slice (some ⟨gk, 0, none⟩) 1 1) [v.pe] := reads_oneB hP
  exact concat3Pe _ _ _ (x.l.take T) [v.pe] (x.l.drop (T + 1)) bk W (hT.cell (i := 0) rfl) (hT.cell (i := 1) rfl) (hT.cell (i := 2) rfl) hT.lt r1 r2 r3 (by simp only [List.length_take, List.length_drop, List.length_singleton]; omega))
 clear hK
 clear m0 m1 m2 m3 m5 mf ml l2 v0 v1 v2 v3 v4 v5 v6 v7 v8 v9 v10 v11 v12 r0 r1 r2 r3 r4 r5 rf rl
 go_upto_region 12 with fail
 obtain ⟨W5, hW5⟩ : ∃ W5, W5 = W4.alloc (.cells #[.int .i64 xs, .slice (some ⟨b5, o5, none⟩) xn c5] 112) := ⟨_, rfl⟩
 rw [← hW5]
 have B5 : Below w.heap.size w W5 := by subst hW5; exact B4.alloc B4.size _
 have hBs : BlockIs W5 W4.heap.size [.int .i64 xs, .slice (some ⟨b5, o5, none⟩) xn c5] 112 := by subst hW5; exact BlockIs.new W4 [.int .i64 xs, .slice (some ⟨b5, o5, none⟩) xn c5] _
 have hBm : BlockIs W5 w.heap.size [.int .i64 x0, .int .i64 x1, .slice a1 n1 c1, .slice a2 n2 c2, .slice (some ⟨b, o, none⟩) n3 c3, .slice a4 n4 c4] 40 := by subst hW5; exact hBm.alloc' _
 have hBl : BlockIs W5 (w.heap.size + 1) [.int .i64 6, .int .i64 j, .int .i64 T] 44 := by subst hW5; exact hBl.alloc' _
 have hBv : BlockIs W5 (w.heap.size + 1 + 1) [.int .i64 v.n, .bool v.pe.en.ad.v6, .int .u64 v.pe.en.ad.hi, .int .u64 v.pe.en.ad.lo, .int .i64 v.pe.en.port, .bool v.pe.came, .int .i64 v.pe.since, .int .i64 v.pe.pts, .int .i64 v.pe.at_, .int .i64 v.pe.ping, .int .i64 v.pe.work, .slice oa nb oc, .slice ka nk kc] 54 := by subst hW5; exact hBv.alloc' _
 have hBr : BlockIs W5 (w.heap.size + 1 + 1 + 1) [.int .i64 0, .int .i64 0, .slice none 0 0, .slice none 0 0, .slice none 0 0, .slice none 0 0] 40 := by subst hW5; exact hBr.alloc' _
 have hs5 : W5.heap.size = w.heap.size + 1 + 1 + 1 + 1 + 1 := by subst hW5; rw [World.size_alloc, hs4]
 clear hW5 z0 z1 y2 y3 y0
 rw [hs4] at hBs
 try rw [hs4]
 clear hs4
 obtain ⟨m0, m1, m2, m3, m4, m5⟩ := hBm.e6; have mf := hBm.frozen; have ml := hBm.lt; obtain ⟨l0, l1, l2⟩ := hBl.e3; obtain ⟨v0, v1, v2, v3, v4, v5, v6, v7, v8, v9, v10, v11, v12⟩ := hBv.e13; obtain ⟨r0, r1, r2, r3, r4, r5⟩ := hBr.e6; have rf := hBr.frozen; have rl := hBr.lt; obtain ⟨s0, s1⟩ := hBs.e2; have sf := hBs.frozen; have sl := hBs.lt
 go_upto_region 14 with fail
 obtain ⟨W6, hW6⟩ : ∃ W6, W6 = ((W5.alloc (.cells #[.bool v.pe.en.ad.v6, .int .u64 v.pe.en.ad.hi, .int .u64 v.pe.en.ad.lo, .int .i64 v.pe.en.port, .bool v.pe.came, .int .i64 v.pe.since, .int .i64 v.pe.pts, .int .i64 v.pe.at_, .int .i64 v.pe.ping, .int .i64 v.pe.work] 52)).alloc (.cells #[.slice (some ⟨b5, o5, none⟩) T c5, .slice (some ⟨w.heap.size + 1 + 1 + 1 + 1 + 1, 0, none⟩) 1 1, .slice (some ⟨b5, o5 + K * 10, none⟩) (xn - K) (c5 - K)] 29)).drew := ⟨_, rfl⟩
 have k1 : BlockIs W6 (w.heap.size + 1 + 1 + 1 + 1 + 1 + 1) [.slice (some ⟨b5, o5, none⟩) T c5, .slice (some ⟨w.heap.size + 1 + 1 + 1 + 1 + 1, 0, none⟩) 1 1, .slice (some ⟨b5, o5 + K * 10, none⟩) (xn - K) (c5 - K)] 29 := by subst hW6; exact BlockIs.drew' (BlockIs.newAt' (W5.alloc (.cells #[.bool v.pe.en.ad.v6, .int .u64 v.pe.en.ad.hi, .int .u64 v.pe.en.ad.lo, .int .i64 v.pe.en.port, .bool v.pe.came, .int .i64 v.pe.since, .int .i64 v.pe.pts, .int .i64 v.pe.at_, .int .i64 v.pe.ping, .int .i64 v.pe.work] 52)) [.slice (some ⟨b5, o5, none⟩) T c5, .slice (some ⟨w.heap.size + 1 + 1 + 1 + 1 + 1, 0, none⟩) 1 1, .slice (some ⟨b5, o5 + K * 10, none⟩) (xn - K) (c5 - K)] _ (by rw [World.size_alloc, hs5]))
 have k2 : BlockIs W6 (w.heap.size + 1 + 1 + 1 + 1 + 1) (peV v.pe) 52 := by subst hW6; exact BlockIs.drew' (BlockIs.alloc' (BlockIs.newAt' W5 (peV v.pe) _ hs5.symm) _)
 have k3 : Below w.heap.size w W6 := by subst hW6; exact bel
 have hBm6 := (show BlockIs W6 w.heap.size [.int .i64 x0, .int .i64 x1, .slice a1 n1 c1, .slice a2 n2 c2, .slice (some ⟨b, o, none⟩) n3 c3, .slice a4 n4 c4] 40 by subst hW6; exact BlockIs.drew' (BlockIs.alloc' (BlockIs.alloc' hBm _) _))
 have hBl6 := (show BlockIs W6 (w.heap.size + 1) [.int .i64 6, .int .i64 j, .int .i64 T] 44 by subst hW6; exact BlockIs.drew' (BlockIs.alloc' (BlockIs.alloc' hBl _) _))
 have hBr6 := (show BlockIs W6 (w.heap.size + 1 + 1 + 1) [.int .i64 0, .int .i64 0, .slice none 0 0, .slice none 0 0, .slice none 0 0, .slice none 0 0] 40 by subst hW6; exact BlockIs.drew' (BlockIs.alloc' (BlockIs.alloc' hBr _) _))
 have hBs6 := (show BlockIs W6 (w.heap.size + 1 + 1 + 1 + 1) [.int .i64 xs, .slice (some ⟨b5, o5, none⟩) xn c5] 112 by subst hW6; exact BlockIs.drew' (BlockIs.alloc' (BlockIs.alloc' hBs _) _))
 have hBv6 := (show BlockIs W6 (w.heap.size + 1 + 1) [.int .i64 v.n, .bool v.pe.en.ad.v6, .int .u64 v.pe.en.ad.hi, .int .u64 v.pe.en.ad.lo, .int .i64 v.pe.en.port, .bool v.pe.came, .int .i64 v.pe.since, .int .i64 v.pe.pts, .int .i64 v.pe.at_, .int .i64 v.pe.ping, .int .i64 v.pe.work, .slice oa nb oc, .slice ka nk kc] 54 by subst hW6; exact BlockIs.drew' (BlockIs.alloc' (BlockIs.alloc' hBv _) _))
 have hs6 : w.heap.size + 1 + 1 + 1 + 1 + 1 ≤ W6.heap.size := by have := k2.lt; omega
 have HC6 := HCC.out W6 _ _ k1 k2 k3
 have HB6 := zh (And.intro hBm6 (And.intro hBl6 (And.intro hBr6 (And.intro hBs6 hBv6))))
 clear k1 k2 hBm6 hBl6 hBr6 hBs6 hBv6
 generalize hrn : (x.l.take T ++ [v.pe] ++ x.l.drop (T + 1)).length = rn at HC6
 generalize hrl : (x.l.take T ++ [v.pe] ++ x.l.drop (T + 1)) = rl6 at HC6 hrn
 obtain ⟨HRN, HRL⟩ := zh2 hrn hrl
 clear hrn hrl
 have HC6 := zh HC6
 refine wp_region_noPanic ?_
 have hS0 : (fun wq => wq.cell? ⟨w.heap.size + 1 + 1 + 1 + 1, 1, none⟩ = some (.slice (some ⟨b5, o5, none⟩) xn c5) ∧ wq.cell? ⟨w.heap.size + 1, 2, none⟩ = some (.int .i64 T) ∧ wq.cell? ⟨w.heap.size + 1 + 1, 1, none⟩ = some (.bool v.pe.en.ad.v6) ∧ wq.cell? ⟨w.heap.size + 1 + 1, 2, none⟩ = some (.int .u64 v.pe.en.ad.hi) ∧ wq.cell? ⟨w.heap.size + 1 + 1, 3, none⟩ = some (.int .u64 v.pe.en.ad.lo) ∧ wq.cell? ⟨w.heap.size + 1 + 1, 4, none⟩ = some (.int .i64 v.pe.en.port) ∧ wq.cell? ⟨w.heap.size + 1 + 1, 5, none⟩ = some (.bool v.pe.came) ∧ wq.cell? ⟨w.heap.size + 1 + 1, 6, none⟩ = some (.int .i64 v.pe.since) ∧ wq.cell? ⟨w.heap.size + 1 + 1, 7, none⟩ = some (.int .i64 v.pe.pts) ∧ wq.cell? ⟨w.heap.size + 1 + 1, 8, none⟩ = some (.int .i64 v.pe.at_) ∧ wq.cell? ⟨w.heap.size + 1 + 1, 9, none⟩ = some (.int .i64 v.pe.ping) ∧ wq.cell? ⟨w.heap.size + 1 + 1, 10, none⟩ = some (.int .i64 v.pe.work)) W5.drew := by
  dsimp only
  (first | go_keep | (simp (disch := omega) [*]; done) | (simp (disch := first | omega | (simp; omega)) [World.cell?_setCell_far, World.cell?_alloc_past, *]; done) | (simp (disch := first | omega | (simp; omega)) [World.cell?_setCell_far, World.cell?_alloc_past, *]; repeat (first | exact rfl | refine ⟨rfl, ?_⟩)))
 refine wp_region_headH (fun wq => wq.cell? ⟨w.heap.size + 1 + 1 + 1 + 1, 1, none⟩ = some (.slice (some ⟨b5, o5, none⟩) xn c5) ∧ wq.cell? ⟨w.heap.size + 1, 2, none⟩ = some (.int .i64 T) ∧ wq.cell? ⟨w.heap.size + 1 + 1, 1, none⟩ = some (.bool v.pe.en.ad.v6) ∧ wq.cell? ⟨w.heap.size + 1 + 1, 2, none⟩ = some (.int .u64 v.pe.en.ad.hi) ∧ wq.cell? ⟨w.heap.size + 1 + 1, 3, none⟩ = some (.int .u64 v.pe.en.ad.lo) ∧ wq.cell? ⟨w.heap.size + 1 + 1, 4, none⟩ = some (.int .i64 v.pe.en.port) ∧ wq.cell? ⟨w.heap.size + 1 + 1, 5, none⟩ = some (.bool v.pe.came) ∧ wq.cell? ⟨w.heap.size + 1 + 1, 6, none⟩ = some (.int .i64 v.pe.since) ∧ wq.cell? ⟨w.heap.size + 1 + 1, 7, none⟩ = some (.int .i64 v.pe.pts) ∧ wq.cell? ⟨w.heap.size + 1 + 1, 8, none⟩ = some (.int .i64 v.pe.at_) ∧ wq.cell? ⟨w.heap.size + 1 + 1, 9, none⟩ = some (.int .i64 v.pe.ping) ∧ wq.cell? ⟨w.heap.size + 1 + 1, 10, none⟩ = some (.int .i64 v.pe.work)) 21 (by kernel_rfl) (by kernel_rfl) ?_
 refine hP 0 rfl ?_
 refine hP 1 rfl ?_
 refine hP 2 rfl ?_
 refine hP 3 rfl ?_
 refine hP 4 rfl ?_
 refine hP 5 rfl ?_
 refine hP 6 rfl ?_
 refine hP 8 rfl ?_
 refine hP 9 rfl ?_
 refine hP 10 rfl ?_
 refine hP 11 rfl ?_
 refine hP 12 rfl ?_
 refine hP 13 rfl ?_
 refine hP 14 rfl ?_
 refine hP 15 rfl ?_
 refine hP 16 rfl ?_
 refine hP 17 rfl ?_
 refine headH_one (i := 7) rfl rfl (by kernel_rfl) (fun K hK => ?_)
 go_simp
 refine hK.out _ _ ?_ (fun hS7 => ?_)
 ·try dsimp only
  (first | go_keep | (simp (disch := omega) [*]; done) | (simp (disch := first | omega | (simp; omega)) [World.cell?_setCell_far, World.cell?_alloc_past, *]; done) | (simp (disch := first | omega | (simp; omega)) [World.cell?_setCell_far, World.cell?_alloc_past, *]; repeat (first | exact rfl | refine ⟨rfl, ?_⟩)))
 clear hK K
 try simp only [Act.put, zs1, zs2, zs3]
 refine headH_one (i := 18) rfl rfl (by kernel_rfl) (fun K hK => ?_)
 go_simp
 refine hK.out _ _ ?_ (fun hS18 => ?_)
 ·try dsimp only
  (first | go_keep | (simp (disch := omega) [*]; done) | (simp (disch := first | omega | (simp; omega)) [World.cell?_setCell_far, World.cell?_alloc_past, *]; done) | (simp (disch := first | omega | (simp; omega)) [World.cell?_setCell_far, World.cell?_alloc_past, *]; repeat (first | exact rfl | refine ⟨rfl, ?_⟩)))
 clear hK K
 try simp only [Act.put, zs1, zs2, zs3]
 refine headH_one (i := 19) rfl rfl (by kernel_rfl) (fun K hK => ?_)
 go_simp
 (go_at_call 76; go_loud (rw [← hW6]; (with_reducible refine HC6.out.mono ?_); rintro e w6 ⟨r6, rfl, own6, b6⟩; have own6 := owns_base own6 hs6; obtain ⟨a8, c8, e8⟩ := owns_slice own6; subst e8; have HO6 := zh own6; clear own6; have B6 := below2 k3 b6; have z6 := b6.size; obtain ⟨hBm6, hBl6, hBr6, hBs6, hBv6⟩ := HB6.out; have hBv6 := hBv6.below b6; have hBm6 := hBm6.below b6; have hBl6 := hBl6.below b6; have hBr6 := hBr6.below b6; have hBs6 := hBs6.below b6; clear m0 m1 m2 m3 m4 m5 mf ml l0 l1 l2 v0 v1 v2 v3 v4 v5 v6 v7 v8 v9 v10 v11 v12 r0 r1 r2 r3 r4 r5 rf rl s0 s1 sf sl; obtain ⟨m0, m1, m2, m3, m4, m5⟩ := hBm6.e6; obtain ⟨l0, l1, l2⟩ := hBl6.e3; obtain ⟨r0, r1, r2, r3, r4, r5⟩ := hBr6.e6; obtain ⟨s0, s1⟩ := hBs6.e2; have v1 := hBv6.c1; have v2 := hBv6.c2; have v3 := hBv6.c3; have v4 := hBv6.c4; have v5 := hBv6.c5; have v6 := hBv6.c6; have v7 := hBv6.c7; have v8 := hBv6.c8; have v9 := hBv6.c9; have v10 := hBv6.c10; have mf := hBm6.frozen; have ml := hBm6.lt; have rf := hBr6.frozen; have rl := hBr6.lt; have sf := hBs6.frozen; have sl := hBs6.lt))
 refine hK.out _ _ ?_ (fun hS19 => ?_)
 ·try dsimp only
  (first | go_keep | (simp (disch := omega) [*]; done) | (simp (disch := first | omega | (simp; omega)) [World.cell?_setCell_far, World.cell?_alloc_past, *]; done) | (simp (disch := first | omega | (simp; omega)) [World.cell?_setCell_far, World.cell?_alloc_past, *]; repeat (first | exact rfl | refine ⟨rfl, ?_⟩)))
 clear hK K
 try simp only [Act.put, zs1, zs2, zs3]
 refine hP 20 rfl ?_
 refine headH_done (by kernel_rfl) ?_
 simp only [List.drop_succ_cons, List.drop_zero]
 go_wp2_with fail
 refine NoPanic.normal ?_
 go_wp2_with (go_at_call 75; (with_reducible refine (HP.out _ ⟨xs, .slice a8 rn c8, rl6⟩ (by simp [World.setCell]; omega) (by refine ((Firm.own HO6.out (Nat.le_refl _)).map (fun W h => (by (unfold ReadsL; rw [HRN.out]; exact owns_reads h)))).keep (fun g arr T h1 hb => (by (have nB1 : g ≠ w.heap.size + 1 + 1 + 1 + 1 := (by omega); have nB2 : w.heap.size + 1 + 1 + 1 + 1 ≠ g := (by omega); exact rcx hb)))) (by exact bel)).mono ?_); rintro e w7 ⟨v7, rfl, hM7, b7⟩; have HM7 := zh hM7; have B7 := below2 (w := w) (by exact bel) b7; obtain ⟨_, a6, c6, e6, _⟩ := shs_open (hM7.now (HG.out _ _ hb0 B7)).2.2.1.1; simp only [List.length_set] at e6; rw [← HN3.out] at e6; have E6 := zh e6; subst e6; have z7 := b7.size; have hBr7 : BlockIs w7 (w.heap.size + 1 + 1 + 1) [.int .i64 0, .int .i64 0, .slice none 0 0, .slice none 0 0, .slice none 0 0, .slice none 0 0] 40 := BlockIs.below (by exact rcx hBr6) b7; clear r0 r1 r2 r3 r4 r5 rf rl; obtain ⟨r0, r1, r2, r3, r4, r5⟩ := hBr7.e6; have rf := hBr7.frozen; have rl := hBr7.lt)
 refine bodyPost_named fun W9 h9 => ?_
 have hR9 : BlockIs W9 (w.heap.size + 1 + 1 + 1) [.int .i64 x0, .int .i64 x1, .slice a1 n1 c1, .slice a2 n2 c2, .slice a6 n3 c6, .slice a4 n4 c4] 40 := by subst h9; exact rcx hBr7
 have b9 : Below w.heap.size w W9 := by subst h9; exact bel
 have FIN : Hid (Firm w0 B W9 fun W => MmAt W ⟨x0, x1, m.bans, m.book, (.slice a6 n3 c6, m.parts.2.set j ⟨xs, .slice a8 rn c8, rl6⟩), m.locks⟩) := by
  subst h9
  unfold Hid
  refine (Firm.keep HM7.out fun g arr T h1 hb => ?_).from (by omega)
  have nB : w.heap.size ≠ g := by omega
  have nB2 : g ≠ w.heap.size := by omega
  have nB3 : g ≠ w.heap.size + 1 + 1 + 1 := by omega
  have nB4 : w.heap.size + 1 + 1 + 1 ≠ g := by omega
  exact rcx hb
 clear h9
 obtain ⟨e90, e91, e92, e93, e94, e95⟩ := hR9.e6
 exact bodyPost_ret (v := .agg #[.int .i64 x0, .int .i64 x1, .slice a1 n1 c1, .slice a2 n2 c2, .slice a6 n3 c6, .slice a4 n4 c4]) (by simp [results, Tryz.results48, go_sem, e90, e91, e92, e93, e94, e95]) rfl ⟨⟨x0, x1, m.bans, m.book, (.slice a6 n3 c6, m.parts.2.set j ⟨xs, .slice a8 rn c8, rl6⟩), m.locks⟩, (by simp only [E1.out, E2.out, E4.out, ← HN1.out, ← HN2.out, ← HN4.out]), (fun W h0 hkp => by (have hm9 := HM.out W h0; exact FIN.out W h0 hkp)), (by unfold Mm.pl setAt; simp only [if_pos q2, Int.toNat_natCast, List.map_set, HX0.out, HX1.out, ← HRL.out, HXS.out, List.append_assoc, List.singleton_append]), b9⟩

set_option maxHeartbeats 8000000 in
theorem memStore_6full (w0 : World → Prop) (hg : Grows w0) (B : Nat) (m : Mm) (s t : Int) (v : Vm) (w : World) (hb0 : w0 w) (hB : B ≤ w.heap.size) (hm : ∀ W, w0 W → MmAt W m) (hv : VmAt w v) (hs : 0 ≤ s ∧ s < (m.parts.2.length : Int)) (hl : m.parts.2.length ≤ 1000) (ht : 0 ≤ t) (ho : t ≤ ((shOf m s).l.length : Int)) (hp : 0 < (shOf m s).l.length) (hsm : (shOf m s).l.length ≤ 100000) (hck : ∀ a n c, (shOf m s).v = .slice a n c → c = min (t.toNat + 1) n) :
  Calls Tryz.prog 48 #[.agg #[.int .i64 m.inn, .int .i64 m.out, m.bans.1, m.book.1, m.parts.1, m.locks.1], .agg #[.int .i64 6, .int .i64 s, .int .i64 t], .agg #[.int .i64 v.n, .bool v.pe.en.ad.v6, .int .u64 v.pe.en.ad.hi, .int .u64 v.pe.en.ad.lo, .int .i64 v.pe.en.port, .bool v.pe.came, .int .i64 v.pe.since, .int .i64 v.pe.pts, .int .i64 v.pe.at_, .int .i64 v.pe.ping, .int .i64 v.pe.work, v.bans.1, v.book.1]] w (GivesMm w0 B w (storeP m.pl 6 s t v.pl)) := by
 have hres : storeP m.pl 6 s t v.pl = { m.pl with parts := setAt m.pl.parts s ((partP m.pl s).1, putP (partP m.pl s).2 t v.pe) } := by unfold storeP; rfl
 rw [hres]
 unfold GivesMm
 have h := hm w hb0
 have HM := zh hm
 have HG := zh hg
 obtain ⟨T, rfl⟩ : ∃ T : Nat, t = (T : Int) := ⟨t.toNat, by omega⟩
 obtain ⟨j, rfl⟩ : ∃ j : Nat, s = (j : Int) := ⟨s.toNat, by omega⟩
 have hj : j < m.parts.2.length := by omega
 have hq0 := shOf_pl m (j : Int)
 obtain ⟨x, hx⟩ : ∃ x, m.parts.2[j]? = some x := ⟨_, List.getElem?_eq_getElem hj⟩
 have hsx : shOf m (j : Int) = x := by unfold shOf getAt; rw [if_pos hs.1, Int.toNat_natCast, List.getD_eq_getElem?_getD, hx]; rfl
 have hAt := shOf_at h (j : Int)
 rw [hsx] at hAt hq0 ho hp hsm hck
 obtain ⟨_, a5, c5, e5, hz5⟩ := pes_open hAt
 obtain ⟨b5, o5, rfl, hz6, _, _⟩ := hz5 hp
 have hne := hck _ _ _ e5
 rw [Int.toNat_natCast] at hne
 clear hck
 obtain ⟨_, p, c, e6, h3⟩ := shs_open h.2.2.1.1
 obtain ⟨b, o, rfl, h4, h5, h6⟩ := h3 (by omega)
 obtain ⟨k0, k1⟩ := h6 j x hx
 rw [e5] at k1
 have hput : putP x.l (T : Int) v.pe = x.l.take T ++ v.pe :: x.l.drop (T + 1) := by unfold putP; rw [if_neg (by omega), Int.toNat_natCast]
 rw [hq0]
 simp only [hput]
 have HP := zh (fun (W : World) (K : Sh) (hW : w.heap.size + 1 + 1 + 1 + 1 + 1 ≤ W.heap.size) (hK : Firm w0 (w.heap.size + 1 + 1 + 1 + 1 + 1) W fun W => ReadsL peV 10 W K.v K.l) (hb : Below w.heap.size w W) => mem_part_in w0 hg (w.heap.size + 1 + 1 + 1 + 1 + 1) m j K W (hg _ _ hb0 hb) hW hm hK hj hl)
 obtain ⟨a1, a2, a3, a4, c1, c2, c3, c4, e1, e2, e3, e4⟩ := mm_slices h
 obtain ⟨_, oa, oc, eo, _⟩ := ba_open hv.1
 obtain ⟨_, ka, kc, ek, _⟩ := ey_open hv.2
 have hmm := zmm e1 e2 e3 e4
 have HMM := zh hmm
 have ex := e3.symm.trans e6
 injection ex with ea en ec
 subst ea ec
 simp only [e1, e2, e3, e4] at HP
 obtain ⟨E1, E2, E4⟩ := zh3 e1 e2 e4
 obtain ⟨xs, hxs, xn, hxn⟩ := nz2 x.size x.l.length
 rw [← hxs] at k0
 rw [← hxn] at k1
 rw [e1, e2, e3, e4, eo, ek]
 clear hres e1 e2 e3 e4 eo ek hmm
 obtain ⟨x0, hx0, x1, hx1, n1, hn1, n2, hn2, n3, hn3, n4, hn4, nb, hnb, nk, hnk⟩ := nz8 m.inn m.out m.bans.2.length m.book.2.length m.parts.2.length m.locks.2.length v.bans.2.length v.book.2.length
 rw [← hx0, ← hx1, ← hn1, ← hn2, ← hn3, ← hn4, ← hnb, ← hnk]
 rw [← hx0, ← hx1, ← hn1, ← hn2, ← hn3, ← hn4] at HMM
 rw [← hx0, ← hx1, ← hn1, ← hn2, ← hn3, ← hn4] at HP
 have q1 : (j : Int) < (n3 : Int) := by omega
 have q2 : (0 : Int) ≤ (j : Int) := by omega
 obtain ⟨HX0, HX1, HN1, HN2, HN4, HXS, HXN, HAT⟩ := zh8 hx0 hx1 hn1 hn2 hn4 hxs hxn hAt; have HATK := zh (fun W hW => show ReadsL peV 10 W x.v x.l by (have hq := shOf_at (hm W hW) (j : Int); rw [hsx] at hq; exact hq)); obtain ⟨HE5, HJ⟩ := zh2 e5 hj
 rw [← hxn] at ho hp hsm hz6 hne
 clear hz5 hput hxs hxn hq0 hx hsx hAt e5 e6 en h3 h6 hs hl hj
 obtain ⟨HNB, HNK, HN3⟩ := zh3 hnb hnk hn3
 clear h hv hm hg hx0 hx1 hn1 hn2 hn3 hn4 hnb hnk
 skip
 go_enter Tryz.func48, Tryz.ntmps48
 go_upto_region 1 with fail
 refine wpn4 fun W4 B4 hBm hBl hBv hBr hs4 => ?_
 have z0 := keep B4 h5 k0
 have z1 := keep B4 h5 k1
 have y2 := hBm.c4
 have y3 := hBl.c1
 have y0 := hBl.c0
 obtain ⟨m0, m1, m2, m3, m4, m5⟩ := hBm.e6; have mf := hBm.frozen; have ml := hBm.lt; obtain ⟨l0, l1, l2⟩ := hBl.e3; obtain ⟨v0, v1, v2, v3, v4, v5, v6, v7, v8, v9, v10, v11, v12⟩ := hBv.e13; obtain ⟨r0, r1, r2, r3, r4, r5⟩ := hBr.e6; have rf := hBr.frozen; have rl := hBr.lt
 obtain ⟨K, hK⟩ : ∃ K : Nat, K = min (T + 1) xn := ⟨_, rfl⟩
 have p1 : ¬ (xn : Int) < (T : Int) := by omega
 have p2 : (0 : Int) ≤ (T : Int) := by omega
 have p3 : (T : Int) ≤ (xn : Int) := by omega
 have p4 : (T : Int) ≤ (c5 : Int) := by omega
 have p7 : min (IntKind.i64.wrap ((T : Int) + 1)) (xn : Int) = (K : Int) := by rw [show IntKind.i64.wrap ((T : Int) + 1) = (T : Int) + 1 by rw [IntKind.wrap_i64]; omega]; omega
 have p8 : (K : Int) ≤ (xn : Int) := by omega
 rw [← hK] at hne
 subst hne
 have HKK := zh hK
 have HCC := zh (fun (W : World) (bk gk : Nat) (hT : BlockIs W bk [.slice (some ⟨b5, o5, none⟩) T c5, .slice (some ⟨gk, 0, none⟩) 1 1, .slice (some ⟨b5, o5, none⟩) 0 0] 29) (hP : BlockIs W gk (peV v.pe) 52) (hb : Below w.heap.size w W) => by
  have hr : ReadsL peV 10 W (.slice (some ⟨b5, o5, none⟩) x.l.length c5) x.l := by rw [← HE5.out]; exact ReadsL.below HAT.out hb
  have hxl := HXN.out
  have r1 := reads_takeP (k := T) hr (by omega)
  have r3 := reads_dropIf (k := c5) hr (by omega) (by omega)
  rw [← HXN.out] at r3
  have hd : x.l.drop c5 = x.l.drop (T + 1) := by rw [HKK.out, HXN.out, drop_min]
  rw [if_pos rfl, Nat.sub_self, hd, show xn - c5 = 0 by omega] at r3
  have r2 : ReadsL peV 10 W (.slice (some ⟨gk, 0, none⟩) 1 1) [v.pe] := reads_oneB hP
  exact concat3Pe _ _ _ (x.l.take T) [v.pe] (x.l.drop (T + 1)) bk W (hT.cell (i := 0) rfl) (hT.cell (i := 1) rfl) (hT.cell (i := 2) rfl) hT.lt r1 r2 r3 (by simp only [List.length_take, List.length_drop, List.length_singleton]; omega))
 clear hK
 clear m0 m1 m2 m3 m5 mf ml l2 v0 v1 v2 v3 v4 v5 v6 v7 v8 v9 v10 v11 v12 r0 r1 r2 r3 r4 r5 rf rl
 go_upto_region 12 with fail
 obtain ⟨W5, hW5⟩ : ∃ W5, W5 = W4.alloc (.cells #[.int .i64 xs, .slice (some ⟨b5, o5, none⟩) xn c5] 112) := ⟨_, rfl⟩
 rw [← hW5]
 have B5 : Below w.heap.size w W5 := by subst hW5; exact B4.alloc B4.size _
 have hBs : BlockIs W5 W4.heap.size [.int .i64 xs, .slice (some ⟨b5, o5, none⟩) xn c5] 112 := by subst hW5; exact BlockIs.new W4 [.int .i64 xs, .slice (some ⟨b5, o5, none⟩) xn c5] _
 have hBm : BlockIs W5 w.heap.size [.int .i64 x0, .int .i64 x1, .slice a1 n1 c1, .slice a2 n2 c2, .slice (some ⟨b, o, none⟩) n3 c3, .slice a4 n4 c4] 40 := by subst hW5; exact hBm.alloc' _
 have hBl : BlockIs W5 (w.heap.size + 1) [.int .i64 6, .int .i64 j, .int .i64 T] 44 := by subst hW5; exact hBl.alloc' _
 have hBv : BlockIs W5 (w.heap.size + 1 + 1) [.int .i64 v.n, .bool v.pe.en.ad.v6, .int .u64 v.pe.en.ad.hi, .int .u64 v.pe.en.ad.lo, .int .i64 v.pe.en.port, .bool v.pe.came, .int .i64 v.pe.since, .int .i64 v.pe.pts, .int .i64 v.pe.at_, .int .i64 v.pe.ping, .int .i64 v.pe.work, .slice oa nb oc, .slice ka nk kc] 54 := by subst hW5; exact hBv.alloc' _
 have hBr : BlockIs W5 (w.heap.size + 1 + 1 + 1) [.int .i64 0, .int .i64 0, .slice none 0 0, .slice none 0 0, .slice none 0 0, .slice none 0 0] 40 := by subst hW5; exact hBr.alloc' _
 have hs5 : W5.heap.size = w.heap.size + 1 + 1 + 1 + 1 + 1 := by subst hW5; rw [World.size_alloc, hs4]
 clear hW5 z0 z1 y2 y3 y0
 rw [hs4] at hBs
 try rw [hs4]
 clear hs4
 obtain ⟨m0, m1, m2, m3, m4, m5⟩ := hBm.e6; have mf := hBm.frozen; have ml := hBm.lt; obtain ⟨l0, l1, l2⟩ := hBl.e3; obtain ⟨v0, v1, v2, v3, v4, v5, v6, v7, v8, v9, v10, v11, v12⟩ := hBv.e13; obtain ⟨r0, r1, r2, r3, r4, r5⟩ := hBr.e6; have rf := hBr.frozen; have rl := hBr.lt; obtain ⟨s0, s1⟩ := hBs.e2; have sf := hBs.frozen; have sl := hBs.lt
 go_upto_region 14 with fail
 obtain ⟨W6, hW6⟩ : ∃ W6, W6 = ((W5.alloc (.cells #[.bool v.pe.en.ad.v6, .int .u64 v.pe.en.ad.hi, .int .u64 v.pe.en.ad.lo, .int .i64 v.pe.en.port, .bool v.pe.came, .int .i64 v.pe.since, .int .i64 v.pe.pts, .int .i64 v.pe.at_, .int .i64 v.pe.ping, .int .i64 v.pe.work] 52)).alloc (.cells #[.slice (some ⟨b5, o5, none⟩) T c5, .slice (some ⟨w.heap.size + 1 + 1 + 1 + 1 + 1, 0, none⟩) 1 1, .slice (some ⟨b5, o5, none⟩) 0 0] 29)).drew := ⟨_, rfl⟩
 have k1 : BlockIs W6 (w.heap.size + 1 + 1 + 1 + 1 + 1 + 1) [.slice (some ⟨b5, o5, none⟩) T c5, .slice (some ⟨w.heap.size + 1 + 1 + 1 + 1 + 1, 0, none⟩) 1 1, .slice (some ⟨b5, o5, none⟩) 0 0] 29 := by subst hW6; exact BlockIs.drew' (BlockIs.newAt' (W5.alloc (.cells #[.bool v.pe.en.ad.v6, .int .u64 v.pe.en.ad.hi, .int .u64 v.pe.en.ad.lo, .int .i64 v.pe.en.port, .bool v.pe.came, .int .i64 v.pe.since, .int .i64 v.pe.pts, .int .i64 v.pe.at_, .int .i64 v.pe.ping, .int .i64 v.pe.work] 52)) [.slice (some ⟨b5, o5, none⟩) T c5, .slice (some ⟨w.heap.size + 1 + 1 + 1 + 1 + 1, 0, none⟩) 1 1, .slice (some ⟨b5, o5, none⟩) 0 0] _ (by rw [World.size_alloc, hs5]))
 have k2 : BlockIs W6 (w.heap.size + 1 + 1 + 1 + 1 + 1) (peV v.pe) 52 := by subst hW6; exact BlockIs.drew' (BlockIs.alloc' (BlockIs.newAt' W5 (peV v.pe) _ hs5.symm) _)
 have k3 : Below w.heap.size w W6 := by subst hW6; exact bel
 have hBm6 := (show BlockIs W6 w.heap.size [.int .i64 x0, .int .i64 x1, .slice a1 n1 c1, .slice a2 n2 c2, .slice (some ⟨b, o, none⟩) n3 c3, .slice a4 n4 c4] 40 by subst hW6; exact BlockIs.drew' (BlockIs.alloc' (BlockIs.alloc' hBm _) _))
 have hBl6 := (show BlockIs W6 (w.heap.size + 1) [.int .i64 6, .int .i64 j, .int .i64 T] 44 by subst hW6; exact BlockIs.drew' (BlockIs.alloc' (BlockIs.alloc' hBl _) _))
 have hBr6 := (show BlockIs W6 (w.heap.size + 1 + 1 + 1) [.int .i64 0, .int .i64 0, .slice none 0 0, .slice none 0 0, .slice none 0 0, .slice none 0 0] 40 by subst hW6; exact BlockIs.drew' (BlockIs.alloc' (BlockIs.alloc' hBr _) _))
 have hBs6 := (show BlockIs W6 (w.heap.size + 1 + 1 + 1 + 1) [.int .i64 xs, .slice (some ⟨b5, o5, none⟩) xn c5] 112 by subst hW6; exact BlockIs.drew' (BlockIs.alloc' (BlockIs.alloc' hBs _) _))
 have hBv6 := (show BlockIs W6 (w.heap.size + 1 + 1) [.int .i64 v.n, .bool v.pe.en.ad.v6, .int .u64 v.pe.en.ad.hi, .int .u64 v.pe.en.ad.lo, .int .i64 v.pe.en.port, .bool v.pe.came, .int .i64 v.pe.since, .int .i64 v.pe.pts, .int .i64 v.pe.at_, .int .i64 v.pe.ping, .int .i64 v.pe.work, .slice oa nb oc, .slice ka nk kc] 54 by subst hW6; exact BlockIs.drew' (BlockIs.alloc' (BlockIs.alloc' hBv _) _))
 have hs6 : w.heap.size + 1 + 1 + 1 + 1 + 1 ≤ W6.heap.size := by have := k2.lt; omega
 have HC6 := HCC.out W6 _ _ k1 k2 k3
 have HB6 := zh (And.intro hBm6 (And.intro hBl6 (And.intro hBr6 (And.intro hBs6 hBv6))))
 clear k1 k2 hBm6 hBl6 hBr6 hBs6 hBv6
 generalize hrn : (x.l.take T ++ [v.pe] ++ x.l.drop (T + 1)).length = rn at HC6
 generalize hrl : (x.l.take T ++ [v.pe] ++ x.l.drop (T + 1)) = rl6 at HC6 hrn
 obtain ⟨HRN, HRL⟩ := zh2 hrn hrl
 clear hrn hrl
 have HC6 := zh HC6
 refine wp_region_noPanic ?_
 have hS0 : (fun wq => wq.cell? ⟨w.heap.size + 1 + 1 + 1 + 1, 1, none⟩ = some (.slice (some ⟨b5, o5, none⟩) xn c5) ∧ wq.cell? ⟨w.heap.size + 1, 2, none⟩ = some (.int .i64 T) ∧ wq.cell? ⟨w.heap.size + 1 + 1, 1, none⟩ = some (.bool v.pe.en.ad.v6) ∧ wq.cell? ⟨w.heap.size + 1 + 1, 2, none⟩ = some (.int .u64 v.pe.en.ad.hi) ∧ wq.cell? ⟨w.heap.size + 1 + 1, 3, none⟩ = some (.int .u64 v.pe.en.ad.lo) ∧ wq.cell? ⟨w.heap.size + 1 + 1, 4, none⟩ = some (.int .i64 v.pe.en.port) ∧ wq.cell? ⟨w.heap.size + 1 + 1, 5, none⟩ = some (.bool v.pe.came) ∧ wq.cell? ⟨w.heap.size + 1 + 1, 6, none⟩ = some (.int .i64 v.pe.since) ∧ wq.cell? ⟨w.heap.size + 1 + 1, 7, none⟩ = some (.int .i64 v.pe.pts) ∧ wq.cell? ⟨w.heap.size + 1 + 1, 8, none⟩ = some (.int .i64 v.pe.at_) ∧ wq.cell? ⟨w.heap.size + 1 + 1, 9, none⟩ = some (.int .i64 v.pe.ping) ∧ wq.cell? ⟨w.heap.size + 1 + 1, 10, none⟩ = some (.int .i64 v.pe.work)) W5.drew := by
  dsimp only
  (first | go_keep | (simp (disch := omega) [*]; done) | (simp (disch := first | omega | (simp; omega)) [World.cell?_setCell_far, World.cell?_alloc_past, *]; done) | (simp (disch := first | omega | (simp; omega)) [World.cell?_setCell_far, World.cell?_alloc_past, *]; repeat (first | exact rfl | refine ⟨rfl, ?_⟩)))
 refine wp_region_headH (fun wq => wq.cell? ⟨w.heap.size + 1 + 1 + 1 + 1, 1, none⟩ = some (.slice (some ⟨b5, o5, none⟩) xn c5) ∧ wq.cell? ⟨w.heap.size + 1, 2, none⟩ = some (.int .i64 T) ∧ wq.cell? ⟨w.heap.size + 1 + 1, 1, none⟩ = some (.bool v.pe.en.ad.v6) ∧ wq.cell? ⟨w.heap.size + 1 + 1, 2, none⟩ = some (.int .u64 v.pe.en.ad.hi) ∧ wq.cell? ⟨w.heap.size + 1 + 1, 3, none⟩ = some (.int .u64 v.pe.en.ad.lo) ∧ wq.cell? ⟨w.heap.size + 1 + 1, 4, none⟩ = some (.int .i64 v.pe.en.port) ∧ wq.cell? ⟨w.heap.size + 1 + 1, 5, none⟩ = some (.bool v.pe.came) ∧ wq.cell? ⟨w.heap.size + 1 + 1, 6, none⟩ = some (.int .i64 v.pe.since) ∧ wq.cell? ⟨w.heap.size + 1 + 1, 7, none⟩ = some (.int .i64 v.pe.pts) ∧ wq.cell? ⟨w.heap.size + 1 + 1, 8, none⟩ = some (.int .i64 v.pe.at_) ∧ wq.cell? ⟨w.heap.size + 1 + 1, 9, none⟩ = some (.int .i64 v.pe.ping) ∧ wq.cell? ⟨w.heap.size + 1 + 1, 10, none⟩ = some (.int .i64 v.pe.work)) 21 (by kernel_rfl) (by kernel_rfl) ?_
 refine hP 0 rfl ?_
 refine hP 1 rfl ?_
 refine hP 2 rfl ?_
 refine hP 3 rfl ?_
 refine hP 4 rfl ?_
 refine hP 5 rfl ?_
 refine hP 6 rfl ?_
 refine hP 8 rfl ?_
 refine hP 9 rfl ?_
 refine hP 10 rfl ?_
 refine hP 11 rfl ?_
 refine hP 12 rfl ?_
 refine hP 13 rfl ?_
 refine hP 14 rfl ?_
 refine hP 15 rfl ?_
 refine hP 16 rfl ?_
 refine hP 17 rfl ?_
 refine headH_one (i := 7) rfl rfl (by kernel_rfl) (fun K hK => ?_)
 go_simp
 refine hK.out _ _ ?_ (fun hS7 => ?_)
 ·try dsimp only
  (first | go_keep | (simp (disch := omega) [*]; done) | (simp (disch := first | omega | (simp; omega)) [World.cell?_setCell_far, World.cell?_alloc_past, *]; done) | (simp (disch := first | omega | (simp; omega)) [World.cell?_setCell_far, World.cell?_alloc_past, *]; repeat (first | exact rfl | refine ⟨rfl, ?_⟩)))
 clear hK K
 try simp only [Act.put, zs1, zs2, zs3]
 refine headH_one (i := 18) rfl rfl (by kernel_rfl) (fun K hK => ?_)
 go_simp
 refine hK.out _ _ ?_ (fun hS18 => ?_)
 ·try dsimp only
  (first | go_keep | (simp (disch := omega) [*]; done) | (simp (disch := first | omega | (simp; omega)) [World.cell?_setCell_far, World.cell?_alloc_past, *]; done) | (simp (disch := first | omega | (simp; omega)) [World.cell?_setCell_far, World.cell?_alloc_past, *]; repeat (first | exact rfl | refine ⟨rfl, ?_⟩)))
 clear hK K
 try simp only [Act.put, zs1, zs2, zs3]
 refine headH_one (i := 19) rfl rfl (by kernel_rfl) (fun K hK => ?_)
 go_simp
 (go_at_call 76; go_loud (rw [← hW6]; (with_reducible refine HC6.out.mono ?_); rintro e w6 ⟨r6, rfl, own6, b6⟩; have own6 := owns_base own6 hs6; obtain ⟨a8, c8, e8⟩ := owns_slice own6; subst e8; have HO6 := zh own6; clear own6; have B6 := below2 k3 b6; have z6 := b6.size; obtain ⟨hBm6, hBl6, hBr6, hBs6, hBv6⟩ := HB6.out; have hBv6 := hBv6.below b6; have hBm6 := hBm6.below b6; have hBl6 := hBl6.below b6; have hBr6 := hBr6.below b6; have hBs6 := hBs6.below b6; clear m0 m1 m2 m3 m4 m5 mf ml l0 l1 l2 v0 v1 v2 v3 v4 v5 v6 v7 v8 v9 v10 v11 v12 r0 r1 r2 r3 r4 r5 rf rl s0 s1 sf sl; obtain ⟨m0, m1, m2, m3, m4, m5⟩ := hBm6.e6; obtain ⟨l0, l1, l2⟩ := hBl6.e3; obtain ⟨r0, r1, r2, r3, r4, r5⟩ := hBr6.e6; obtain ⟨s0, s1⟩ := hBs6.e2; have v1 := hBv6.c1; have v2 := hBv6.c2; have v3 := hBv6.c3; have v4 := hBv6.c4; have v5 := hBv6.c5; have v6 := hBv6.c6; have v7 := hBv6.c7; have v8 := hBv6.c8; have v9 := hBv6.c9; have v10 := hBv6.c10; have mf := hBm6.frozen; have ml := hBm6.lt; have rf := hBr6.frozen; have rl := hBr6.lt; have sf := hBs6.frozen; have sl := hBs6.lt))
 refine hK.out _ _ ?_ (fun hS19 => ?_)
 ·try dsimp only
  (first | go_keep | (simp (disch := omega) [*]; done) | (simp (disch := first | omega | (simp; omega)) [World.cell?_setCell_far, World.cell?_alloc_past, *]; done) | (simp (disch := first | omega | (simp; omega)) [World.cell?_setCell_far, World.cell?_alloc_past, *]; repeat (first | exact rfl | refine ⟨rfl, ?_⟩)))
 clear hK K
 try simp only [Act.put, zs1, zs2, zs3]
 refine hP 20 rfl ?_
 refine headH_done (by kernel_rfl) ?_
 simp only [List.drop_succ_cons, List.drop_zero]
 go_wp2_with fail
 refine NoPanic.normal ?_
 go_wp2_with (go_at_call 75; (with_reducible refine (HP.out _ ⟨xs, .slice a8 rn c8, rl6⟩ (by simp [World.setCell]; omega) (by refine ((Firm.own HO6.out (Nat.le_refl _)).map (fun W h => (by (unfold ReadsL; rw [HRN.out]; exact owns_reads h)))).keep (fun g arr T h1 hb => (by (have nB1 : g ≠ w.heap.size + 1 + 1 + 1 + 1 := (by omega); have nB2 : w.heap.size + 1 + 1 + 1 + 1 ≠ g := (by omega); exact rcx hb)))) (by exact bel)).mono ?_); rintro e w7 ⟨v7, rfl, hM7, b7⟩; have HM7 := zh hM7; have B7 := below2 (w := w) (by exact bel) b7; obtain ⟨_, a6, c6, e6, _⟩ := shs_open (hM7.now (HG.out _ _ hb0 B7)).2.2.1.1; simp only [List.length_set] at e6; rw [← HN3.out] at e6; have E6 := zh e6; subst e6; have z7 := b7.size; have hBr7 : BlockIs w7 (w.heap.size + 1 + 1 + 1) [.int .i64 0, .int .i64 0, .slice none 0 0, .slice none 0 0, .slice none 0 0, .slice none 0 0] 40 := BlockIs.below (by exact rcx hBr6) b7; clear r0 r1 r2 r3 r4 r5 rf rl; obtain ⟨r0, r1, r2, r3, r4, r5⟩ := hBr7.e6; have rf := hBr7.frozen; have rl := hBr7.lt)
 refine bodyPost_named fun W9 h9 => ?_
 have hR9 : BlockIs W9 (w.heap.size + 1 + 1 + 1) [.int .i64 x0, .int .i64 x1, .slice a1 n1 c1, .slice a2 n2 c2, .slice a6 n3 c6, .slice a4 n4 c4] 40 := by subst h9; exact rcx hBr7
 have b9 : Below w.heap.size w W9 := by subst h9; exact bel
 have FIN : Hid (Firm w0 B W9 fun W => MmAt W ⟨x0, x1, m.bans, m.book, (.slice a6 n3 c6, m.parts.2.set j ⟨xs, .slice a8 rn c8, rl6⟩), m.locks⟩) := by
  subst h9
  unfold Hid
  refine (Firm.keep HM7.out fun g arr T h1 hb => ?_).from (by omega)
  have nB : w.heap.size ≠ g := by omega
  have nB2 : g ≠ w.heap.size := by omega
  have nB3 : g ≠ w.heap.size + 1 + 1 + 1 := by omega
  have nB4 : w.heap.size + 1 + 1 + 1 ≠ g := by omega
  exact rcx hb
 clear h9
 obtain ⟨e90, e91, e92, e93, e94, e95⟩ := hR9.e6
 exact bodyPost_ret (v := .agg #[.int .i64 x0, .int .i64 x1, .slice a1 n1 c1, .slice a2 n2 c2, .slice a6 n3 c6, .slice a4 n4 c4]) (by simp [results, Tryz.results48, go_sem, e90, e91, e92, e93, e94, e95]) rfl ⟨⟨x0, x1, m.bans, m.book, (.slice a6 n3 c6, m.parts.2.set j ⟨xs, .slice a8 rn c8, rl6⟩), m.locks⟩, (by simp only [E1.out, E2.out, E4.out, ← HN1.out, ← HN2.out, ← HN4.out]), (fun W h0 hkp => by (have hm9 := HM.out W h0; exact FIN.out W h0 hkp)), (by unfold Mm.pl setAt; simp only [if_pos q2, Int.toNat_natCast, List.map_set, HX0.out, HX1.out, ← HRL.out, HXS.out, List.append_assoc, List.singleton_append]), b9⟩

set_option maxHeartbeats 8000000 in
theorem memStore_6z0 (w0 : World → Prop) (hg : Grows w0) (B : Nat) (m : Mm) (s t : Int) (v : Vm) (w : World) (hb0 : w0 w) (hB : B ≤ w.heap.size) (hm : ∀ W, w0 W → MmAt W m) (hv : VmAt w v) (hs : 0 ≤ s ∧ s < (m.parts.2.length : Int)) (hl : m.parts.2.length ≤ 1000) (ht : 0 ≤ t) (ho : t ≤ ((shOf m s).l.length : Int)) (hp : (shOf m s).l.length = 0) (hck : ∀ a n c, (shOf m s).v = .slice a n c → a = none) :
  Calls Tryz.prog 48 #[.agg #[.int .i64 m.inn, .int .i64 m.out, m.bans.1, m.book.1, m.parts.1, m.locks.1], .agg #[.int .i64 6, .int .i64 s, .int .i64 t], .agg #[.int .i64 v.n, .bool v.pe.en.ad.v6, .int .u64 v.pe.en.ad.hi, .int .u64 v.pe.en.ad.lo, .int .i64 v.pe.en.port, .bool v.pe.came, .int .i64 v.pe.since, .int .i64 v.pe.pts, .int .i64 v.pe.at_, .int .i64 v.pe.ping, .int .i64 v.pe.work, v.bans.1, v.book.1]] w (GivesMm w0 B w (storeP m.pl 6 s t v.pl)) := by
 have hres : storeP m.pl 6 s t v.pl = { m.pl with parts := setAt m.pl.parts s ((partP m.pl s).1, putP (partP m.pl s).2 t v.pe) } := by unfold storeP; rfl
 rw [hres]
 unfold GivesMm
 have h := hm w hb0
 have HM := zh hm
 have HG := zh hg
 obtain rfl : t = 0 := by omega
 obtain ⟨j, rfl⟩ : ∃ j : Nat, s = (j : Int) := ⟨s.toNat, by omega⟩
 have hj : j < m.parts.2.length := by omega
 have hq0 := shOf_pl m (j : Int)
 obtain ⟨x, hx⟩ : ∃ x, m.parts.2[j]? = some x := ⟨_, List.getElem?_eq_getElem hj⟩
 have hsx : shOf m (j : Int) = x := by unfold shOf getAt; rw [if_pos hs.1, Int.toNat_natCast, List.getD_eq_getElem?_getD, hx]; rfl
 have hAt := shOf_at h (j : Int)
 rw [hsx] at hAt hq0 hp hck
 obtain ⟨_, a5, c5, e5, _⟩ := pes_open hAt
 have hl0 : x.l = [] := List.eq_nil_of_length_eq_zero hp
 have HL0 := zh hl0
 rw [hp] at e5
 obtain rfl := hck _ _ _ e5
 clear hck
 obtain ⟨_, p, c, e6, h3⟩ := shs_open h.2.2.1.1
 obtain ⟨b, o, rfl, h4, h5, h6⟩ := h3 (by omega)
 obtain ⟨k0, k1⟩ := h6 j x hx
 rw [e5] at k1
 have hput : putP x.l 0 v.pe = x.l.take 0 ++ v.pe :: x.l.drop (0 + 1) := by unfold putP; rw [if_neg (by omega)]; rfl
 rw [hq0]
 simp only [hput]
 have HP := zh (fun (W : World) (K : Sh) (hW : w.heap.size + 1 + 1 + 1 + 1 + 1 ≤ W.heap.size) (hK : Firm w0 (w.heap.size + 1 + 1 + 1 + 1 + 1) W fun W => ReadsL peV 10 W K.v K.l) (hb : Below w.heap.size w W) => mem_part_in w0 hg (w.heap.size + 1 + 1 + 1 + 1 + 1) m j K W (hg _ _ hb0 hb) hW hm hK hj hl)
 obtain ⟨a1, a2, a3, a4, c1, c2, c3, c4, e1, e2, e3, e4⟩ := mm_slices h
 obtain ⟨_, oa, oc, eo, _⟩ := ba_open hv.1
 obtain ⟨_, ka, kc, ek, _⟩ := ey_open hv.2
 have hmm := zmm e1 e2 e3 e4
 have HMM := zh hmm
 have ex := e3.symm.trans e6
 injection ex with ea en ec
 subst ea ec
 simp only [e1, e2, e3, e4] at HP
 obtain ⟨E1, E2, E4⟩ := zh3 e1 e2 e4
 obtain ⟨xs, hxs⟩ : ∃ z, z = x.size := ⟨_, rfl⟩
 rw [← hxs] at k0
 rw [e1, e2, e3, e4, eo, ek]
 clear hres e1 e2 e3 e4 eo ek hmm
 obtain ⟨x0, hx0, x1, hx1, n1, hn1, n2, hn2, n3, hn3, n4, hn4, nb, hnb, nk, hnk⟩ := nz8 m.inn m.out m.bans.2.length m.book.2.length m.parts.2.length m.locks.2.length v.bans.2.length v.book.2.length
 rw [← hx0, ← hx1, ← hn1, ← hn2, ← hn3, ← hn4, ← hnb, ← hnk]
 rw [← hx0, ← hx1, ← hn1, ← hn2, ← hn3, ← hn4] at HMM
 rw [← hx0, ← hx1, ← hn1, ← hn2, ← hn3, ← hn4] at HP
 have q1 : (j : Int) < (n3 : Int) := by omega
 have q2 : (0 : Int) ≤ (j : Int) := by omega
 obtain ⟨HX0, HX1, HN1, HN2, HN4, HXS, HAT⟩ := zh7 hx0 hx1 hn1 hn2 hn4 hxs hAt; have HATK := zh (fun W hW => show ReadsL peV 10 W x.v x.l by (have hq := shOf_at (hm W hW) (j : Int); rw [hsx] at hq; exact hq)); obtain ⟨HE5, HJ⟩ := zh2 e5 hj
 clear hput hl0 hp ho ht hxs hq0 hx hsx hAt e5 e6 en h3 h6 hs hl hj
 obtain ⟨HNB, HNK, HN3⟩ := zh3 hnb hnk hn3
 clear h hv hm hg hx0 hx1 hn1 hn2 hn3 hn4 hnb hnk
 skip
 go_enter Tryz.func48, Tryz.ntmps48
 go_upto_region 1 with fail
 refine wpn4 fun W4 B4 hBm hBl hBv hBr hs4 => ?_
 have z0 := keep B4 h5 k0
 have z1 := keep B4 h5 k1
 have y2 := hBm.c4
 have y3 := hBl.c1
 have y0 := hBl.c0
 obtain ⟨m0, m1, m2, m3, m4, m5⟩ := hBm.e6; have mf := hBm.frozen; have ml := hBm.lt; obtain ⟨l0, l1, l2⟩ := hBl.e3; obtain ⟨v0, v1, v2, v3, v4, v5, v6, v7, v8, v9, v10, v11, v12⟩ := hBv.e13; obtain ⟨r0, r1, r2, r3, r4, r5⟩ := hBr.e6; have rf := hBr.frozen; have rl := hBr.lt
 have p4 : (0 : Int) ≤ (c5 : Int) := by omega
 have p7 : min (IntKind.i64.wrap 1) 0 = 0 := by decide
 have HCC := zh (fun (W : World) (bk gk : Nat) (hT : BlockIs W bk [.slice none 0 c5, .slice (some ⟨gk, 0, none⟩) 1 1, .slice none 0 c5] 29) (hP : BlockIs W gk (peV v.pe) 52) (hb : Below w.heap.size w W) => by
  have r1 : ReadsL peV 10 W (.slice none 0 c5) (x.l.take 0) := by rw [HL0.out]; exact ReadsL.nil _ _ _ _ _
  have r3 : ReadsL peV 10 W (.slice none 0 c5) (x.l.drop (0 + 1)) := by rw [HL0.out]; exact ReadsL.nil _ _ _ _ _
  have r2 : ReadsL peV 10 W (.slice (some ⟨gk, 0, none⟩) 1 1) [v.pe] := reads_oneB hP
  exact concat3Pe _ _ _ (x.l.take 0) [v.pe] (x.l.drop (0 + 1)) bk W (hT.cell (i := 0) rfl) (hT.cell (i := 1) rfl) (hT.cell (i := 2) rfl) hT.lt r1 r2 r3 (by rw [HL0.out]; simp))
 clear m0 m1 m2 m3 m5 mf ml l2 v0 v1 v2 v3 v4 v5 v6 v7 v8 v9 v10 v11 v12 r0 r1 r2 r3 r4 r5 rf rl
 go_upto_region 12 with fail
 obtain ⟨W5, hW5⟩ : ∃ W5, W5 = W4.alloc (.cells #[.int .i64 xs, .slice none 0 c5] 112) := ⟨_, rfl⟩
 rw [← hW5]
 have B5 : Below w.heap.size w W5 := by subst hW5; exact B4.alloc B4.size _
 have hBs : BlockIs W5 W4.heap.size [.int .i64 xs, .slice none 0 c5] 112 := by subst hW5; exact BlockIs.new W4 [.int .i64 xs, .slice none 0 c5] _
 have hBm : BlockIs W5 w.heap.size [.int .i64 x0, .int .i64 x1, .slice a1 n1 c1, .slice a2 n2 c2, .slice (some ⟨b, o, none⟩) n3 c3, .slice a4 n4 c4] 40 := by subst hW5; exact hBm.alloc' _
 have hBl : BlockIs W5 (w.heap.size + 1) [.int .i64 6, .int .i64 j, .int .i64 0] 44 := by subst hW5; exact hBl.alloc' _
 have hBv : BlockIs W5 (w.heap.size + 1 + 1) [.int .i64 v.n, .bool v.pe.en.ad.v6, .int .u64 v.pe.en.ad.hi, .int .u64 v.pe.en.ad.lo, .int .i64 v.pe.en.port, .bool v.pe.came, .int .i64 v.pe.since, .int .i64 v.pe.pts, .int .i64 v.pe.at_, .int .i64 v.pe.ping, .int .i64 v.pe.work, .slice oa nb oc, .slice ka nk kc] 54 := by subst hW5; exact hBv.alloc' _
 have hBr : BlockIs W5 (w.heap.size + 1 + 1 + 1) [.int .i64 0, .int .i64 0, .slice none 0 0, .slice none 0 0, .slice none 0 0, .slice none 0 0] 40 := by subst hW5; exact hBr.alloc' _
 have hs5 : W5.heap.size = w.heap.size + 1 + 1 + 1 + 1 + 1 := by subst hW5; rw [World.size_alloc, hs4]
 clear hW5 z0 z1 y2 y3 y0
 rw [hs4] at hBs
 try rw [hs4]
 clear hs4
 obtain ⟨m0, m1, m2, m3, m4, m5⟩ := hBm.e6; have mf := hBm.frozen; have ml := hBm.lt; obtain ⟨l0, l1, l2⟩ := hBl.e3; obtain ⟨v0, v1, v2, v3, v4, v5, v6, v7, v8, v9, v10, v11, v12⟩ := hBv.e13; obtain ⟨r0, r1, r2, r3, r4, r5⟩ := hBr.e6; have rf := hBr.frozen; have rl := hBr.lt; obtain ⟨s0, s1⟩ := hBs.e2; have sf := hBs.frozen; have sl := hBs.lt
 go_upto_region 14 with fail
 obtain ⟨W6, hW6⟩ : ∃ W6, W6 = ((W5.alloc (.cells #[.bool v.pe.en.ad.v6, .int .u64 v.pe.en.ad.hi, .int .u64 v.pe.en.ad.lo, .int .i64 v.pe.en.port, .bool v.pe.came, .int .i64 v.pe.since, .int .i64 v.pe.pts, .int .i64 v.pe.at_, .int .i64 v.pe.ping, .int .i64 v.pe.work] 52)).alloc (.cells #[.slice none 0 c5, .slice (some ⟨w.heap.size + 1 + 1 + 1 + 1 + 1, 0, none⟩) 1 1, .slice none 0 c5] 29)).drew := ⟨_, rfl⟩
 have k1 : BlockIs W6 (w.heap.size + 1 + 1 + 1 + 1 + 1 + 1) [.slice none 0 c5, .slice (some ⟨w.heap.size + 1 + 1 + 1 + 1 + 1, 0, none⟩) 1 1, .slice none 0 c5] 29 := by subst hW6; exact BlockIs.drew' (BlockIs.newAt' (W5.alloc (.cells #[.bool v.pe.en.ad.v6, .int .u64 v.pe.en.ad.hi, .int .u64 v.pe.en.ad.lo, .int .i64 v.pe.en.port, .bool v.pe.came, .int .i64 v.pe.since, .int .i64 v.pe.pts, .int .i64 v.pe.at_, .int .i64 v.pe.ping, .int .i64 v.pe.work] 52)) [.slice none 0 c5, .slice (some ⟨w.heap.size + 1 + 1 + 1 + 1 + 1, 0, none⟩) 1 1, .slice none 0 c5] _ (by rw [World.size_alloc, hs5]))
 have k2 : BlockIs W6 (w.heap.size + 1 + 1 + 1 + 1 + 1) (peV v.pe) 52 := by subst hW6; exact BlockIs.drew' (BlockIs.alloc' (BlockIs.newAt' W5 (peV v.pe) _ hs5.symm) _)
 have k3 : Below w.heap.size w W6 := by subst hW6; exact bel
 have hBm6 := (show BlockIs W6 w.heap.size [.int .i64 x0, .int .i64 x1, .slice a1 n1 c1, .slice a2 n2 c2, .slice (some ⟨b, o, none⟩) n3 c3, .slice a4 n4 c4] 40 by subst hW6; exact BlockIs.drew' (BlockIs.alloc' (BlockIs.alloc' hBm _) _))
 have hBl6 := (show BlockIs W6 (w.heap.size + 1) [.int .i64 6, .int .i64 j, .int .i64 0] 44 by subst hW6; exact BlockIs.drew' (BlockIs.alloc' (BlockIs.alloc' hBl _) _))
 have hBr6 := (show BlockIs W6 (w.heap.size + 1 + 1 + 1) [.int .i64 0, .int .i64 0, .slice none 0 0, .slice none 0 0, .slice none 0 0, .slice none 0 0] 40 by subst hW6; exact BlockIs.drew' (BlockIs.alloc' (BlockIs.alloc' hBr _) _))
 have hBs6 := (show BlockIs W6 (w.heap.size + 1 + 1 + 1 + 1) [.int .i64 xs, .slice none 0 c5] 112 by subst hW6; exact BlockIs.drew' (BlockIs.alloc' (BlockIs.alloc' hBs _) _))
 have hBv6 := (show BlockIs W6 (w.heap.size + 1 + 1) [.int .i64 v.n, .bool v.pe.en.ad.v6, .int .u64 v.pe.en.ad.hi, .int .u64 v.pe.en.ad.lo, .int .i64 v.pe.en.port, .bool v.pe.came, .int .i64 v.pe.since, .int .i64 v.pe.pts, .int .i64 v.pe.at_, .int .i64 v.pe.ping, .int .i64 v.pe.work, .slice oa nb oc, .slice ka nk kc] 54 by subst hW6; exact BlockIs.drew' (BlockIs.alloc' (BlockIs.alloc' hBv _) _))
 have hs6 : w.heap.size + 1 + 1 + 1 + 1 + 1 ≤ W6.heap.size := by have := k2.lt; omega
 have HC6 := HCC.out W6 _ _ k1 k2 k3
 have HB6 := zh (And.intro hBm6 (And.intro hBl6 (And.intro hBr6 (And.intro hBs6 hBv6))))
 clear k1 k2 hBm6 hBl6 hBr6 hBs6 hBv6
 generalize hrn : (x.l.take 0 ++ [v.pe] ++ x.l.drop (0 + 1)).length = rn at HC6
 generalize hrl : (x.l.take 0 ++ [v.pe] ++ x.l.drop (0 + 1)) = rl6 at HC6 hrn
 obtain ⟨HRN, HRL⟩ := zh2 hrn hrl
 clear hrn hrl
 have HC6 := zh HC6
 refine wp_region_noPanic ?_
 have hS0 : (fun wq => wq.cell? ⟨w.heap.size + 1 + 1 + 1 + 1, 1, none⟩ = some (.slice none 0 c5) ∧ wq.cell? ⟨w.heap.size + 1, 2, none⟩ = some (.int .i64 0) ∧ wq.cell? ⟨w.heap.size + 1 + 1, 1, none⟩ = some (.bool v.pe.en.ad.v6) ∧ wq.cell? ⟨w.heap.size + 1 + 1, 2, none⟩ = some (.int .u64 v.pe.en.ad.hi) ∧ wq.cell? ⟨w.heap.size + 1 + 1, 3, none⟩ = some (.int .u64 v.pe.en.ad.lo) ∧ wq.cell? ⟨w.heap.size + 1 + 1, 4, none⟩ = some (.int .i64 v.pe.en.port) ∧ wq.cell? ⟨w.heap.size + 1 + 1, 5, none⟩ = some (.bool v.pe.came) ∧ wq.cell? ⟨w.heap.size + 1 + 1, 6, none⟩ = some (.int .i64 v.pe.since) ∧ wq.cell? ⟨w.heap.size + 1 + 1, 7, none⟩ = some (.int .i64 v.pe.pts) ∧ wq.cell? ⟨w.heap.size + 1 + 1, 8, none⟩ = some (.int .i64 v.pe.at_) ∧ wq.cell? ⟨w.heap.size + 1 + 1, 9, none⟩ = some (.int .i64 v.pe.ping) ∧ wq.cell? ⟨w.heap.size + 1 + 1, 10, none⟩ = some (.int .i64 v.pe.work)) W5.drew := by
  dsimp only
  (first | go_keep | (simp (disch := omega) [*]; done) | (simp (disch := first | omega | (simp; omega)) [World.cell?_setCell_far, World.cell?_alloc_past, *]; done) | (simp (disch := first | omega | (simp; omega)) [World.cell?_setCell_far, World.cell?_alloc_past, *]; repeat (first | exact rfl | refine ⟨rfl, ?_⟩)))
 refine wp_region_headH (fun wq => wq.cell? ⟨w.heap.size + 1 + 1 + 1 + 1, 1, none⟩ = some (.slice none 0 c5) ∧ wq.cell? ⟨w.heap.size + 1, 2, none⟩ = some (.int .i64 0) ∧ wq.cell? ⟨w.heap.size + 1 + 1, 1, none⟩ = some (.bool v.pe.en.ad.v6) ∧ wq.cell? ⟨w.heap.size + 1 + 1, 2, none⟩ = some (.int .u64 v.pe.en.ad.hi) ∧ wq.cell? ⟨w.heap.size + 1 + 1, 3, none⟩ = some (.int .u64 v.pe.en.ad.lo) ∧ wq.cell? ⟨w.heap.size + 1 + 1, 4, none⟩ = some (.int .i64 v.pe.en.port) ∧ wq.cell? ⟨w.heap.size + 1 + 1, 5, none⟩ = some (.bool v.pe.came) ∧ wq.cell? ⟨w.heap.size + 1 + 1, 6, none⟩ = some (.int .i64 v.pe.since) ∧ wq.cell? ⟨w.heap.size + 1 + 1, 7, none⟩ = some (.int .i64 v.pe.pts) ∧ wq.cell? ⟨w.heap.size + 1 + 1, 8, none⟩ = some (.int .i64 v.pe.at_) ∧ wq.cell? ⟨w.heap.size + 1 + 1, 9, none⟩ = some (.int .i64 v.pe.ping) ∧ wq.cell? ⟨w.heap.size + 1 + 1, 10, none⟩ = some (.int .i64 v.pe.work)) 21 (by kernel_rfl) (by kernel_rfl) ?_
 refine hP 0 rfl ?_
 refine hP 1 rfl ?_
 refine hP 2 rfl ?_
 refine hP 3 rfl ?_
 refine hP 4 rfl ?_
 refine hP 5 rfl ?_
 refine hP 6 rfl ?_
 refine hP 8 rfl ?_
 refine hP 9 rfl ?_
 refine hP 10 rfl ?_
 refine hP 11 rfl ?_
 refine hP 12 rfl ?_
 refine hP 13 rfl ?_
 refine hP 14 rfl ?_
 refine hP 15 rfl ?_
 refine hP 16 rfl ?_
 refine hP 17 rfl ?_
 refine headH_one (i := 7) rfl rfl (by kernel_rfl) (fun K hK => ?_)
 go_simp
 refine hK.out _ _ ?_ (fun hS7 => ?_)
 ·try dsimp only
  (first | go_keep | (simp (disch := omega) [*]; done) | (simp (disch := first | omega | (simp; omega)) [World.cell?_setCell_far, World.cell?_alloc_past, *]; done) | (simp (disch := first | omega | (simp; omega)) [World.cell?_setCell_far, World.cell?_alloc_past, *]; repeat (first | exact rfl | refine ⟨rfl, ?_⟩)))
 clear hK K
 try simp only [Act.put, zs1, zs2, zs3]
 refine headH_one (i := 18) rfl rfl (by kernel_rfl) (fun K hK => ?_)
 go_simp
 refine hK.out _ _ ?_ (fun hS18 => ?_)
 ·try dsimp only
  (first | go_keep | (simp (disch := omega) [*]; done) | (simp (disch := first | omega | (simp; omega)) [World.cell?_setCell_far, World.cell?_alloc_past, *]; done) | (simp (disch := first | omega | (simp; omega)) [World.cell?_setCell_far, World.cell?_alloc_past, *]; repeat (first | exact rfl | refine ⟨rfl, ?_⟩)))
 clear hK K
 try simp only [Act.put, zs1, zs2, zs3]
 refine headH_one (i := 19) rfl rfl (by kernel_rfl) (fun K hK => ?_)
 go_simp
 (go_at_call 76; go_loud (rw [← hW6]; (with_reducible refine HC6.out.mono ?_); rintro e w6 ⟨r6, rfl, own6, b6⟩; have own6 := owns_base own6 hs6; obtain ⟨a8, c8, e8⟩ := owns_slice own6; subst e8; have HO6 := zh own6; clear own6; have B6 := below2 k3 b6; have z6 := b6.size; obtain ⟨hBm6, hBl6, hBr6, hBs6, hBv6⟩ := HB6.out; have hBv6 := hBv6.below b6; have hBm6 := hBm6.below b6; have hBl6 := hBl6.below b6; have hBr6 := hBr6.below b6; have hBs6 := hBs6.below b6; clear m0 m1 m2 m3 m4 m5 mf ml l0 l1 l2 v0 v1 v2 v3 v4 v5 v6 v7 v8 v9 v10 v11 v12 r0 r1 r2 r3 r4 r5 rf rl s0 s1 sf sl; obtain ⟨m0, m1, m2, m3, m4, m5⟩ := hBm6.e6; obtain ⟨l0, l1, l2⟩ := hBl6.e3; obtain ⟨r0, r1, r2, r3, r4, r5⟩ := hBr6.e6; obtain ⟨s0, s1⟩ := hBs6.e2; have v1 := hBv6.c1; have v2 := hBv6.c2; have v3 := hBv6.c3; have v4 := hBv6.c4; have v5 := hBv6.c5; have v6 := hBv6.c6; have v7 := hBv6.c7; have v8 := hBv6.c8; have v9 := hBv6.c9; have v10 := hBv6.c10; have mf := hBm6.frozen; have ml := hBm6.lt; have rf := hBr6.frozen; have rl := hBr6.lt; have sf := hBs6.frozen; have sl := hBs6.lt))
 refine hK.out _ _ ?_ (fun hS19 => ?_)
 ·try dsimp only
  (first | go_keep | (simp (disch := omega) [*]; done) | (simp (disch := first | omega | (simp; omega)) [World.cell?_setCell_far, World.cell?_alloc_past, *]; done) | (simp (disch := first | omega | (simp; omega)) [World.cell?_setCell_far, World.cell?_alloc_past, *]; repeat (first | exact rfl | refine ⟨rfl, ?_⟩)))
 clear hK K
 try simp only [Act.put, zs1, zs2, zs3]
 refine hP 20 rfl ?_
 refine headH_done (by kernel_rfl) ?_
 simp only [List.drop_succ_cons, List.drop_zero]
 go_wp2_with fail
 refine NoPanic.normal ?_
 go_wp2_with (go_at_call 75; (with_reducible refine (HP.out _ ⟨xs, .slice a8 rn c8, rl6⟩ (by simp [World.setCell]; omega) (by refine ((Firm.own HO6.out (Nat.le_refl _)).map (fun W h => (by (unfold ReadsL; rw [HRN.out]; exact owns_reads h)))).keep (fun g arr T h1 hb => (by (have nB1 : g ≠ w.heap.size + 1 + 1 + 1 + 1 := (by omega); have nB2 : w.heap.size + 1 + 1 + 1 + 1 ≠ g := (by omega); exact rcx hb)))) (by exact bel)).mono ?_); rintro e w7 ⟨v7, rfl, hM7, b7⟩; have HM7 := zh hM7; have B7 := below2 (w := w) (by exact bel) b7; obtain ⟨_, a6, c6, e6, _⟩ := shs_open (hM7.now (HG.out _ _ hb0 B7)).2.2.1.1; simp only [List.length_set] at e6; rw [← HN3.out] at e6; have E6 := zh e6; subst e6; have z7 := b7.size; have hBr7 : BlockIs w7 (w.heap.size + 1 + 1 + 1) [.int .i64 0, .int .i64 0, .slice none 0 0, .slice none 0 0, .slice none 0 0, .slice none 0 0] 40 := BlockIs.below (by exact rcx hBr6) b7; clear r0 r1 r2 r3 r4 r5 rf rl; obtain ⟨r0, r1, r2, r3, r4, r5⟩ := hBr7.e6; have rf := hBr7.frozen; have rl := hBr7.lt)
 refine bodyPost_named fun W9 h9 => ?_
 have hR9 : BlockIs W9 (w.heap.size + 1 + 1 + 1) [.int .i64 x0, .int .i64 x1, .slice a1 n1 c1, .slice a2 n2 c2, .slice a6 n3 c6, .slice a4 n4 c4] 40 := by subst h9; exact rcx hBr7
 have b9 : Below w.heap.size w W9 := by subst h9; exact bel
 have FIN : Hid (Firm w0 B W9 fun W => MmAt W ⟨x0, x1, m.bans, m.book, (.slice a6 n3 c6, m.parts.2.set j ⟨xs, .slice a8 rn c8, rl6⟩), m.locks⟩) := by
  subst h9
  unfold Hid
  refine (Firm.keep HM7.out fun g arr T h1 hb => ?_).from (by omega)
  have nB : w.heap.size ≠ g := by omega
  have nB2 : g ≠ w.heap.size := by omega
  have nB3 : g ≠ w.heap.size + 1 + 1 + 1 := by omega
  have nB4 : w.heap.size + 1 + 1 + 1 ≠ g := by omega
  exact rcx hb
 clear h9
 obtain ⟨e90, e91, e92, e93, e94, e95⟩ := hR9.e6
 exact bodyPost_ret (v := .agg #[.int .i64 x0, .int .i64 x1, .slice a1 n1 c1, .slice a2 n2 c2, .slice a6 n3 c6, .slice a4 n4 c4]) (by simp [results, Tryz.results48, go_sem, e90, e91, e92, e93, e94, e95]) rfl ⟨⟨x0, x1, m.bans, m.book, (.slice a6 n3 c6, m.parts.2.set j ⟨xs, .slice a8 rn c8, rl6⟩), m.locks⟩, (by simp only [E1.out, E2.out, E4.out, ← HN1.out, ← HN2.out, ← HN4.out]), (fun W h0 hkp => by (have hm9 := HM.out W h0; exact FIN.out W h0 hkp)), (by unfold Mm.pl setAt; simp only [if_pos q2, Int.toNat_natCast, List.map_set, HX0.out, HX1.out, ← HRL.out, HXS.out, List.append_assoc, List.singleton_append]), b9⟩

set_option maxHeartbeats 8000000 in
theorem memStore_6z1 (w0 : World → Prop) (hg : Grows w0) (B : Nat) (m : Mm) (s t : Int) (v : Vm) (w : World) (hb0 : w0 w) (hB : B ≤ w.heap.size) (hm : ∀ W, w0 W → MmAt W m) (hv : VmAt w v) (hs : 0 ≤ s ∧ s < (m.parts.2.length : Int)) (hl : m.parts.2.length ≤ 1000) (ht : 0 ≤ t) (ho : t ≤ ((shOf m s).l.length : Int)) (hp : (shOf m s).l.length = 0) (hck : ∀ a n c, (shOf m s).v = .slice a n c → ∃ p, a = some p ∧ ¬ c = 0) :
  Calls Tryz.prog 48 #[.agg #[.int .i64 m.inn, .int .i64 m.out, m.bans.1, m.book.1, m.parts.1, m.locks.1], .agg #[.int .i64 6, .int .i64 s, .int .i64 t], .agg #[.int .i64 v.n, .bool v.pe.en.ad.v6, .int .u64 v.pe.en.ad.hi, .int .u64 v.pe.en.ad.lo, .int .i64 v.pe.en.port, .bool v.pe.came, .int .i64 v.pe.since, .int .i64 v.pe.pts, .int .i64 v.pe.at_, .int .i64 v.pe.ping, .int .i64 v.pe.work, v.bans.1, v.book.1]] w (GivesMm w0 B w (storeP m.pl 6 s t v.pl)) := by
 have hres : storeP m.pl 6 s t v.pl = { m.pl with parts := setAt m.pl.parts s ((partP m.pl s).1, putP (partP m.pl s).2 t v.pe) } := by unfold storeP; rfl
 rw [hres]
 unfold GivesMm
 have h := hm w hb0
 have HM := zh hm
 have HG := zh hg
 obtain rfl : t = 0 := by omega
 obtain ⟨j, rfl⟩ : ∃ j : Nat, s = (j : Int) := ⟨s.toNat, by omega⟩
 have hj : j < m.parts.2.length := by omega
 have hq0 := shOf_pl m (j : Int)
 obtain ⟨x, hx⟩ : ∃ x, m.parts.2[j]? = some x := ⟨_, List.getElem?_eq_getElem hj⟩
 have hsx : shOf m (j : Int) = x := by unfold shOf getAt; rw [if_pos hs.1, Int.toNat_natCast, List.getD_eq_getElem?_getD, hx]; rfl
 have hAt := shOf_at h (j : Int)
 rw [hsx] at hAt hq0 hp hck
 obtain ⟨_, a5, c5, e5, _⟩ := pes_open hAt
 have hl0 : x.l = [] := List.eq_nil_of_length_eq_zero hp
 have HL0 := zh hl0
 rw [hp] at e5
 obtain ⟨⟨b5, o5, i5⟩, rfl, hne⟩ := hck _ _ _ e5
 clear hck
 obtain ⟨_, p, c, e6, h3⟩ := shs_open h.2.2.1.1
 obtain ⟨b, o, rfl, h4, h5, h6⟩ := h3 (by omega)
 obtain ⟨k0, k1⟩ := h6 j x hx
 rw [e5] at k1
 have hput : putP x.l 0 v.pe = x.l.take 0 ++ v.pe :: x.l.drop (0 + 1) := by unfold putP; rw [if_neg (by omega)]; rfl
 rw [hq0]
 simp only [hput]
 have HP := zh (fun (W : World) (K : Sh) (hW : w.heap.size + 1 + 1 + 1 + 1 + 1 ≤ W.heap.size) (hK : Firm w0 (w.heap.size + 1 + 1 + 1 + 1 + 1) W fun W => ReadsL peV 10 W K.v K.l) (hb : Below w.heap.size w W) => mem_part_in w0 hg (w.heap.size + 1 + 1 + 1 + 1 + 1) m j K W (hg _ _ hb0 hb) hW hm hK hj hl)
 obtain ⟨a1, a2, a3, a4, c1, c2, c3, c4, e1, e2, e3, e4⟩ := mm_slices h
 obtain ⟨_, oa, oc, eo, _⟩ := ba_open hv.1
 obtain ⟨_, ka, kc, ek, _⟩ := ey_open hv.2
 have hmm := zmm e1 e2 e3 e4
 have HMM := zh hmm
 have ex := e3.symm.trans e6
 injection ex with ea en ec
 subst ea ec
 simp only [e1, e2, e3, e4] at HP
 obtain ⟨E1, E2, E4⟩ := zh3 e1 e2 e4
 obtain ⟨xs, hxs⟩ : ∃ z, z = x.size := ⟨_, rfl⟩
 rw [← hxs] at k0
 rw [e1, e2, e3, e4, eo, ek]
 clear hres e1 e2 e3 e4 eo ek hmm
 obtain ⟨x0, hx0, x1, hx1, n1, hn1, n2, hn2, n3, hn3, n4, hn4, nb, hnb, nk, hnk⟩ := nz8 m.inn m.out m.bans.2.length m.book.2.length m.parts.2.length m.locks.2.length v.bans.2.length v.book.2.length
 rw [← hx0, ← hx1, ← hn1, ← hn2, ← hn3, ← hn4, ← hnb, ← hnk]
 rw [← hx0, ← hx1, ← hn1, ← hn2, ← hn3, ← hn4] at HMM
 rw [← hx0, ← hx1, ← hn1, ← hn2, ← hn3, ← hn4] at HP
 have q1 : (j : Int) < (n3 : Int) := by omega
 have q2 : (0 : Int) ≤ (j : Int) := by omega
 obtain ⟨HX0, HX1, HN1, HN2, HN4, HXS, HAT⟩ := zh7 hx0 hx1 hn1 hn2 hn4 hxs hAt; have HATK := zh (fun W hW => show ReadsL peV 10 W x.v x.l by (have hq := shOf_at (hm W hW) (j : Int); rw [hsx] at hq; exact hq)); obtain ⟨HE5, HJ⟩ := zh2 e5 hj
 clear hput hl0 hp ho ht hxs hq0 hx hsx hAt e5 e6 en h3 h6 hs hl hj
 obtain ⟨HNB, HNK, HN3⟩ := zh3 hnb hnk hn3
 clear h hv hm hg hx0 hx1 hn1 hn2 hn3 hn4 hnb hnk
 skip
 go_enter Tryz.func48, Tryz.ntmps48
 go_upto_region 1 with fail
 refine wpn4 fun W4 B4 hBm hBl hBv hBr hs4 => ?_
 have z0 := keep B4 h5 k0
 have z1 := keep B4 h5 k1
 have y2 := hBm.c4
 have y3 := hBl.c1
 have y0 := hBl.c0
 obtain ⟨m0, m1, m2, m3, m4, m5⟩ := hBm.e6; have mf := hBm.frozen; have ml := hBm.lt; obtain ⟨l0, l1, l2⟩ := hBl.e3; obtain ⟨v0, v1, v2, v3, v4, v5, v6, v7, v8, v9, v10, v11, v12⟩ := hBv.e13; obtain ⟨r0, r1, r2, r3, r4, r5⟩ := hBr.e6; have rf := hBr.frozen; have rl := hBr.lt
 have p4 : (0 : Int) ≤ (c5 : Int) := by omega
 have p7 : min (IntKind.i64.wrap 1) 0 = 0 := by decide
 have HCC := zh (fun (W : World) (bk gk : Nat) (hT : BlockIs W bk [.slice (some ⟨b5, o5, i5⟩) 0 c5, .slice (some ⟨gk, 0, none⟩) 1 1, .slice (some ⟨b5, o5, i5⟩) 0 c5] 29) (hP : BlockIs W gk (peV v.pe) 52) (hb : Below w.heap.size w W) => by
  have r1 : ReadsL peV 10 W (.slice (some ⟨b5, o5, i5⟩) 0 c5) (x.l.take 0) := by rw [HL0.out]; exact ReadsL.nil _ _ _ _ _
  have r3 : ReadsL peV 10 W (.slice (some ⟨b5, o5, i5⟩) 0 c5) (x.l.drop (0 + 1)) := by rw [HL0.out]; exact ReadsL.nil _ _ _ _ _
  have r2 : ReadsL peV 10 W (.slice (some ⟨gk, 0, none⟩) 1 1) [v.pe] := reads_oneB hP
  exact concat3Pe _ _ _ (x.l.take 0) [v.pe] (x.l.drop (0 + 1)) bk W (hT.cell (i := 0) rfl) (hT.cell (i := 1) rfl) (hT.cell (i := 2) rfl) hT.lt r1 r2 r3 (by rw [HL0.out]; simp))
 clear m0 m1 m2 m3 m5 mf ml l2 v0 v1 v2 v3 v4 v5 v6 v7 v8 v9 v10 v11 v12 r0 r1 r2 r3 r4 r5 rf rl
 go_upto_region 12 with fail
 obtain ⟨W5, hW5⟩ : ∃ W5, W5 = W4.alloc (.cells #[.int .i64 xs, .slice (some ⟨b5, o5, i5⟩) 0 c5] 112) := ⟨_, rfl⟩
 rw [← hW5]
 have B5 : Below w.heap.size w W5 := by subst hW5; exact B4.alloc B4.size _
 have hBs : BlockIs W5 W4.heap.size [.int .i64 xs, .slice (some ⟨b5, o5, i5⟩) 0 c5] 112 := by subst hW5; exact BlockIs.new W4 [.int .i64 xs, .slice (some ⟨b5, o5, i5⟩) 0 c5] _
 have hBm : BlockIs W5 w.heap.size [.int .i64 x0, .int .i64 x1, .slice a1 n1 c1, .slice a2 n2 c2, .slice (some ⟨b, o, none⟩) n3 c3, .slice a4 n4 c4] 40 := by subst hW5; exact hBm.alloc' _
 have hBl : BlockIs W5 (w.heap.size + 1) [.int .i64 6, .int .i64 j, .int .i64 0] 44 := by subst hW5; exact hBl.alloc' _
 have hBv : BlockIs W5 (w.heap.size + 1 + 1) [.int .i64 v.n, .bool v.pe.en.ad.v6, .int .u64 v.pe.en.ad.hi, .int .u64 v.pe.en.ad.lo, .int .i64 v.pe.en.port, .bool v.pe.came, .int .i64 v.pe.since, .int .i64 v.pe.pts, .int .i64 v.pe.at_, .int .i64 v.pe.ping, .int .i64 v.pe.work, .slice oa nb oc, .slice ka nk kc] 54 := by subst hW5; exact hBv.alloc' _
 have hBr : BlockIs W5 (w.heap.size + 1 + 1 + 1) [.int .i64 0, .int .i64 0, .slice none 0 0, .slice none 0 0, .slice none 0 0, .slice none 0 0] 40 := by subst hW5; exact hBr.alloc' _
 have hs5 : W5.heap.size = w.heap.size + 1 + 1 + 1 + 1 + 1 := by subst hW5; rw [World.size_alloc, hs4]
 clear hW5 z0 z1 y2 y3 y0
 rw [hs4] at hBs
 try rw [hs4]
 clear hs4
 obtain ⟨m0, m1, m2, m3, m4, m5⟩ := hBm.e6; have mf := hBm.frozen; have ml := hBm.lt; obtain ⟨l0, l1, l2⟩ := hBl.e3; obtain ⟨v0, v1, v2, v3, v4, v5, v6, v7, v8, v9, v10, v11, v12⟩ := hBv.e13; obtain ⟨r0, r1, r2, r3, r4, r5⟩ := hBr.e6; have rf := hBr.frozen; have rl := hBr.lt; obtain ⟨s0, s1⟩ := hBs.e2; have sf := hBs.frozen; have sl := hBs.lt
 go_upto_region 14 with fail
 obtain ⟨W6, hW6⟩ : ∃ W6, W6 = ((W5.alloc (.cells #[.bool v.pe.en.ad.v6, .int .u64 v.pe.en.ad.hi, .int .u64 v.pe.en.ad.lo, .int .i64 v.pe.en.port, .bool v.pe.came, .int .i64 v.pe.since, .int .i64 v.pe.pts, .int .i64 v.pe.at_, .int .i64 v.pe.ping, .int .i64 v.pe.work] 52)).alloc (.cells #[.slice (some ⟨b5, o5, i5⟩) 0 c5, .slice (some ⟨w.heap.size + 1 + 1 + 1 + 1 + 1, 0, none⟩) 1 1, .slice (some ⟨b5, o5, i5⟩) 0 c5] 29)).drew := ⟨_, rfl⟩
 have k1 : BlockIs W6 (w.heap.size + 1 + 1 + 1 + 1 + 1 + 1) [.slice (some ⟨b5, o5, i5⟩) 0 c5, .slice (some ⟨w.heap.size + 1 + 1 + 1 + 1 + 1, 0, none⟩) 1 1, .slice (some ⟨b5, o5, i5⟩) 0 c5] 29 := by subst hW6; exact BlockIs.drew' (BlockIs.newAt' (W5.alloc (.cells #[.bool v.pe.en.ad.v6, .int .u64 v.pe.en.ad.hi, .int .u64 v.pe.en.ad.lo, .int .i64 v.pe.en.port, .bool v.pe.came, .int .i64 v.pe.since, .int .i64 v.pe.pts, .int .i64 v.pe.at_, .int .i64 v.pe.ping, .int .i64 v.pe.work] 52)) [.slice (some ⟨b5, o5, i5⟩) 0 c5, .slice (some ⟨w.heap.size + 1 + 1 + 1 + 1 + 1, 0, none⟩) 1 1, .slice (some ⟨b5, o5, i5⟩) 0 c5] _ (by rw [World.size_alloc, hs5]))
 have k2 : BlockIs W6 (w.heap.size + 1 + 1 + 1 + 1 + 1) (peV v.pe) 52 := by subst hW6; exact BlockIs.drew' (BlockIs.alloc' (BlockIs.newAt' W5 (peV v.pe) _ hs5.symm) _)
 have k3 : Below w.heap.size w W6 := by subst hW6; exact bel
 have hBm6 := (show BlockIs W6 w.heap.size [.int .i64 x0, .int .i64 x1, .slice a1 n1 c1, .slice a2 n2 c2, .slice (some ⟨b, o, none⟩) n3 c3, .slice a4 n4 c4] 40 by subst hW6; exact BlockIs.drew' (BlockIs.alloc' (BlockIs.alloc' hBm _) _))
 have hBl6 := (show BlockIs W6 (w.heap.size + 1) [.int .i64 6, .int .i64 j, .int .i64 0] 44 by subst hW6; exact BlockIs.drew' (BlockIs.alloc' (BlockIs.alloc' hBl _) _))
 have hBr6 := (show BlockIs W6 (w.heap.size + 1 + 1 + 1) [.int .i64 0, .int .i64 0, .slice none 0 0, .slice none 0 0, .slice none 0 0, .slice none 0 0] 40 by subst hW6; exact BlockIs.drew' (BlockIs.alloc' (BlockIs.alloc' hBr _) _))
 have hBs6 := (show BlockIs W6 (w.heap.size + 1 + 1 + 1 + 1) [.int .i64 xs, .slice (some ⟨b5, o5, i5⟩) 0 c5] 112 by subst hW6; exact BlockIs.drew' (BlockIs.alloc' (BlockIs.alloc' hBs _) _))
 have hBv6 := (show BlockIs W6 (w.heap.size + 1 + 1) [.int .i64 v.n, .bool v.pe.en.ad.v6, .int .u64 v.pe.en.ad.hi, .int .u64 v.pe.en.ad.lo, .int .i64 v.pe.en.port, .bool v.pe.came, .int .i64 v.pe.since, .int .i64 v.pe.pts, .int .i64 v.pe.at_, .int .i64 v.pe.ping, .int .i64 v.pe.work, .slice oa nb oc, .slice ka nk kc] 54 by subst hW6; exact BlockIs.drew' (BlockIs.alloc' (BlockIs.alloc' hBv _) _))
 have hs6 : w.heap.size + 1 + 1 + 1 + 1 + 1 ≤ W6.heap.size := by have := k2.lt; omega
 have HC6 := HCC.out W6 _ _ k1 k2 k3
 have HB6 := zh (And.intro hBm6 (And.intro hBl6 (And.intro hBr6 (And.intro hBs6 hBv6))))
 clear k1 k2 hBm6 hBl6 hBr6 hBs6 hBv6
 generalize hrn : (x.l.take 0 ++ [v.pe] ++ x.l.drop (0 + 1)).length = rn at HC6
 generalize hrl : (x.l.take 0 ++ [v.pe] ++ x.l.drop (0 + 1)) = rl6 at HC6 hrn
 obtain ⟨HRN, HRL⟩ := zh2 hrn hrl
 clear hrn hrl
 have HC6 := zh HC6
 refine wp_region_noPanic ?_
 have hS0 : (fun wq => wq.cell? ⟨w.heap.size + 1 + 1 + 1 + 1, 1, none⟩ = some (.slice (some ⟨b5, o5, i5⟩) 0 c5) ∧ wq.cell? ⟨w.heap.size + 1, 2, none⟩ = some (.int .i64 0) ∧ wq.cell? ⟨w.heap.size + 1 + 1, 1, none⟩ = some (.bool v.pe.en.ad.v6) ∧ wq.cell? ⟨w.heap.size + 1 + 1, 2, none⟩ = some (.int .u64 v.pe.en.ad.hi) ∧ wq.cell? ⟨w.heap.size + 1 + 1, 3, none⟩ = some (.int .u64 v.pe.en.ad.lo) ∧ wq.cell? ⟨w.heap.size + 1 + 1, 4, none⟩ = some (.int .i64 v.pe.en.port) ∧ wq.cell? ⟨w.heap.size + 1 + 1, 5, none⟩ = some (.bool v.pe.came) ∧ wq.cell? ⟨w.heap.size + 1 + 1, 6, none⟩ = some (.int .i64 v.pe.since) ∧ wq.cell? ⟨w.heap.size + 1 + 1, 7, none⟩ = some (.int .i64 v.pe.pts) ∧ wq.cell? ⟨w.heap.size + 1 + 1, 8, none⟩ = some (.int .i64 v.pe.at_) ∧ wq.cell? ⟨w.heap.size + 1 + 1, 9, none⟩ = some (.int .i64 v.pe.ping) ∧ wq.cell? ⟨w.heap.size + 1 + 1, 10, none⟩ = some (.int .i64 v.pe.work)) W5.drew := by
  dsimp only
  (first | go_keep | (simp (disch := omega) [*]; done) | (simp (disch := first | omega | (simp; omega)) [World.cell?_setCell_far, World.cell?_alloc_past, *]; done) | (simp (disch := first | omega | (simp; omega)) [World.cell?_setCell_far, World.cell?_alloc_past, *]; repeat (first | exact rfl | refine ⟨rfl, ?_⟩)))
 refine wp_region_headH (fun wq => wq.cell? ⟨w.heap.size + 1 + 1 + 1 + 1, 1, none⟩ = some (.slice (some ⟨b5, o5, i5⟩) 0 c5) ∧ wq.cell? ⟨w.heap.size + 1, 2, none⟩ = some (.int .i64 0) ∧ wq.cell? ⟨w.heap.size + 1 + 1, 1, none⟩ = some (.bool v.pe.en.ad.v6) ∧ wq.cell? ⟨w.heap.size + 1 + 1, 2, none⟩ = some (.int .u64 v.pe.en.ad.hi) ∧ wq.cell? ⟨w.heap.size + 1 + 1, 3, none⟩ = some (.int .u64 v.pe.en.ad.lo) ∧ wq.cell? ⟨w.heap.size + 1 + 1, 4, none⟩ = some (.int .i64 v.pe.en.port) ∧ wq.cell? ⟨w.heap.size + 1 + 1, 5, none⟩ = some (.bool v.pe.came) ∧ wq.cell? ⟨w.heap.size + 1 + 1, 6, none⟩ = some (.int .i64 v.pe.since) ∧ wq.cell? ⟨w.heap.size + 1 + 1, 7, none⟩ = some (.int .i64 v.pe.pts) ∧ wq.cell? ⟨w.heap.size + 1 + 1, 8, none⟩ = some (.int .i64 v.pe.at_) ∧ wq.cell? ⟨w.heap.size + 1 + 1, 9, none⟩ = some (.int .i64 v.pe.ping) ∧ wq.cell? ⟨w.heap.size + 1 + 1, 10, none⟩ = some (.int .i64 v.pe.work)) 21 (by kernel_rfl) (by kernel_rfl) ?_
 refine hP 0 rfl ?_
 refine hP 1 rfl ?_
 refine hP 2 rfl ?_
 refine hP 3 rfl ?_
 refine hP 4 rfl ?_
 refine hP 5 rfl ?_
 refine hP 6 rfl ?_
 refine hP 8 rfl ?_
 refine hP 9 rfl ?_
 refine hP 10 rfl ?_
 refine hP 11 rfl ?_
 refine hP 12 rfl ?_
 refine hP 13 rfl ?_
 refine hP 14 rfl ?_
 refine hP 15 rfl ?_
 refine hP 16 rfl ?_
 refine hP 17 rfl ?_
 refine headH_one (i := 7) rfl rfl (by kernel_rfl) (fun K hK => ?_)
 go_simp
 refine hK.out _ _ ?_ (fun hS7 => ?_)
 ·try dsimp only
  (first | go_keep | (simp (disch := omega) [*]; done) | (simp (disch := first | omega | (simp; omega)) [World.cell?_setCell_far, World.cell?_alloc_past, *]; done) | (simp (disch := first | omega | (simp; omega)) [World.cell?_setCell_far, World.cell?_alloc_past, *]; repeat (first | exact rfl | refine ⟨rfl, ?_⟩)))
 clear hK K
 try simp only [Act.put, zs1, zs2, zs3]
 refine headH_one (i := 18) rfl rfl (by kernel_rfl) (fun K hK => ?_)
 go_simp
 refine hK.out _ _ ?_ (fun hS18 => ?_)
 ·try dsimp only
  (first | go_keep | (simp (disch := omega) [*]; done) | (simp (disch := first | omega | (simp; omega)) [World.cell?_setCell_far, World.cell?_alloc_past, *]; done) | (simp (disch := first | omega | (simp; omega)) [World.cell?_setCell_far, World.cell?_alloc_past, *]; repeat (first | exact rfl | refine ⟨rfl, ?_⟩)))
 clear hK K
 try simp only [Act.put, zs1, zs2, zs3]
 refine headH_one (i := 19) rfl rfl (by kernel_rfl) (fun K hK => ?_)
 go_simp
 (go_at_call 76; go_loud (rw [← hW6]; (with_reducible refine HC6.out.mono ?_); rintro e w6 ⟨r6, rfl, own6, b6⟩; have own6 := owns_base own6 hs6; obtain ⟨a8, c8, e8⟩ := owns_slice own6; subst e8; have HO6 := zh own6; clear own6; have B6 := below2 k3 b6; have z6 := b6.size; obtain ⟨hBm6, hBl6, hBr6, hBs6, hBv6⟩ := HB6.out; have hBv6 := hBv6.below b6; have hBm6 := hBm6.below b6; have hBl6 := hBl6.below b6; have hBr6 := hBr6.below b6; have hBs6 := hBs6.below b6; clear m0 m1 m2 m3 m4 m5 mf ml l0 l1 l2 v0 v1 v2 v3 v4 v5 v6 v7 v8 v9 v10 v11 v12 r0 r1 r2 r3 r4 r5 rf rl s0 s1 sf sl; obtain ⟨m0, m1, m2, m3, m4, m5⟩ := hBm6.e6; obtain ⟨l0, l1, l2⟩ := hBl6.e3; obtain ⟨r0, r1, r2, r3, r4, r5⟩ := hBr6.e6; obtain ⟨s0, s1⟩ := hBs6.e2; have v1 := hBv6.c1; have v2 := hBv6.c2; have v3 := hBv6.c3; have v4 := hBv6.c4; have v5 := hBv6.c5; have v6 := hBv6.c6; have v7 := hBv6.c7; have v8 := hBv6.c8; have v9 := hBv6.c9; have v10 := hBv6.c10; have mf := hBm6.frozen; have ml := hBm6.lt; have rf := hBr6.frozen; have rl := hBr6.lt; have sf := hBs6.frozen; have sl := hBs6.lt))
 refine hK.out _ _ ?_ (fun hS19 => ?_)
 ·try dsimp only
  (first | go_keep | (simp (disch := omega) [*]; done) | (simp (disch := first | omega | (simp; omega)) [World.cell?_setCell_far, World.cell?_alloc_past, *]; done) | (simp (disch := first | omega | (simp; omega)) [World.cell?_setCell_far, World.cell?_alloc_past, *]; repeat (first | exact rfl | refine ⟨rfl, ?_⟩)))
 clear hK K
 try simp only [Act.put, zs1, zs2, zs3]
 refine hP 20 rfl ?_
 refine headH_done (by kernel_rfl) ?_
 simp only [List.drop_succ_cons, List.drop_zero]
 go_wp2_with fail
 refine NoPanic.normal ?_
 go_wp2_with (go_at_call 75; (with_reducible refine (HP.out _ ⟨xs, .slice a8 rn c8, rl6⟩ (by simp [World.setCell]; omega) (by refine ((Firm.own HO6.out (Nat.le_refl _)).map (fun W h => (by (unfold ReadsL; rw [HRN.out]; exact owns_reads h)))).keep (fun g arr T h1 hb => (by (have nB1 : g ≠ w.heap.size + 1 + 1 + 1 + 1 := (by omega); have nB2 : w.heap.size + 1 + 1 + 1 + 1 ≠ g := (by omega); exact rcx hb)))) (by exact bel)).mono ?_); rintro e w7 ⟨v7, rfl, hM7, b7⟩; have HM7 := zh hM7; have B7 := below2 (w := w) (by exact bel) b7; obtain ⟨_, a6, c6, e6, _⟩ := shs_open (hM7.now (HG.out _ _ hb0 B7)).2.2.1.1; simp only [List.length_set] at e6; rw [← HN3.out] at e6; have E6 := zh e6; subst e6; have z7 := b7.size; have hBr7 : BlockIs w7 (w.heap.size + 1 + 1 + 1) [.int .i64 0, .int .i64 0, .slice none 0 0, .slice none 0 0, .slice none 0 0, .slice none 0 0] 40 := BlockIs.below (by exact rcx hBr6) b7; clear r0 r1 r2 r3 r4 r5 rf rl; obtain ⟨r0, r1, r2, r3, r4, r5⟩ := hBr7.e6; have rf := hBr7.frozen; have rl := hBr7.lt)
 refine bodyPost_named fun W9 h9 => ?_
 have hR9 : BlockIs W9 (w.heap.size + 1 + 1 + 1) [.int .i64 x0, .int .i64 x1, .slice a1 n1 c1, .slice a2 n2 c2, .slice a6 n3 c6, .slice a4 n4 c4] 40 := by subst h9; exact rcx hBr7
 have b9 : Below w.heap.size w W9 := by subst h9; exact bel
 have FIN : Hid (Firm w0 B W9 fun W => MmAt W ⟨x0, x1, m.bans, m.book, (.slice a6 n3 c6, m.parts.2.set j ⟨xs, .slice a8 rn c8, rl6⟩), m.locks⟩) := by
  subst h9
  unfold Hid
  refine (Firm.keep HM7.out fun g arr T h1 hb => ?_).from (by omega)
  have nB : w.heap.size ≠ g := by omega
  have nB2 : g ≠ w.heap.size := by omega
  have nB3 : g ≠ w.heap.size + 1 + 1 + 1 := by omega
  have nB4 : w.heap.size + 1 + 1 + 1 ≠ g := by omega
  exact rcx hb
 clear h9
 obtain ⟨e90, e91, e92, e93, e94, e95⟩ := hR9.e6
 exact bodyPost_ret (v := .agg #[.int .i64 x0, .int .i64 x1, .slice a1 n1 c1, .slice a2 n2 c2, .slice a6 n3 c6, .slice a4 n4 c4]) (by simp [results, Tryz.results48, go_sem, e90, e91, e92, e93, e94, e95]) rfl ⟨⟨x0, x1, m.bans, m.book, (.slice a6 n3 c6, m.parts.2.set j ⟨xs, .slice a8 rn c8, rl6⟩), m.locks⟩, (by simp only [E1.out, E2.out, E4.out, ← HN1.out, ← HN2.out, ← HN4.out]), (fun W h0 hkp => by (have hm9 := HM.out W h0; exact FIN.out W h0 hkp)), (by unfold Mm.pl setAt; simp only [if_pos q2, Int.toNat_natCast, List.map_set, HX0.out, HX1.out, ← HRL.out, HXS.out, List.append_assoc, List.singleton_append]), b9⟩

set_option maxHeartbeats 8000000 in
theorem memStore_6z2 (w0 : World → Prop) (hg : Grows w0) (B : Nat) (m : Mm) (s t : Int) (v : Vm) (w : World) (hb0 : w0 w) (hB : B ≤ w.heap.size) (hm : ∀ W, w0 W → MmAt W m) (hv : VmAt w v) (hs : 0 ≤ s ∧ s < (m.parts.2.length : Int)) (hl : m.parts.2.length ≤ 1000) (ht : 0 ≤ t) (ho : t ≤ ((shOf m s).l.length : Int)) (hp : (shOf m s).l.length = 0) (hck : ∀ a n c, (shOf m s).v = .slice a n c → ∃ p, a = some p ∧ c = 0) :
  Calls Tryz.prog 48 #[.agg #[.int .i64 m.inn, .int .i64 m.out, m.bans.1, m.book.1, m.parts.1, m.locks.1], .agg #[.int .i64 6, .int .i64 s, .int .i64 t], .agg #[.int .i64 v.n, .bool v.pe.en.ad.v6, .int .u64 v.pe.en.ad.hi, .int .u64 v.pe.en.ad.lo, .int .i64 v.pe.en.port, .bool v.pe.came, .int .i64 v.pe.since, .int .i64 v.pe.pts, .int .i64 v.pe.at_, .int .i64 v.pe.ping, .int .i64 v.pe.work, v.bans.1, v.book.1]] w (GivesMm w0 B w (storeP m.pl 6 s t v.pl)) := by
 have hres : storeP m.pl 6 s t v.pl = { m.pl with parts := setAt m.pl.parts s ((partP m.pl s).1, putP (partP m.pl s).2 t v.pe) } := by unfold storeP; rfl
 rw [hres]
 unfold GivesMm
 have h := hm w hb0
 have HM := zh hm
 have HG := zh hg
 obtain rfl : t = 0 := by omega
 obtain ⟨j, rfl⟩ : ∃ j : Nat, s = (j : Int) := ⟨s.toNat, by omega⟩
 have hj : j < m.parts.2.length := by omega
 have hq0 := shOf_pl m (j : Int)
 obtain ⟨x, hx⟩ : ∃ x, m.parts.2[j]? = some x := ⟨_, List.getElem?_eq_getElem hj⟩
 have hsx : shOf m (j : Int) = x := by unfold shOf getAt; rw [if_pos hs.1, Int.toNat_natCast, List.getD_eq_getElem?_getD, hx]; rfl
 have hAt := shOf_at h (j : Int)
 rw [hsx] at hAt hq0 hp hck
 obtain ⟨_, a5, c5, e5, _⟩ := pes_open hAt
 have hl0 : x.l = [] := List.eq_nil_of_length_eq_zero hp
 have HL0 := zh hl0
 rw [hp] at e5
 obtain ⟨⟨b5, o5, i5⟩, rfl, rfl⟩ := hck _ _ _ e5
 clear hck
 obtain ⟨_, p, c, e6, h3⟩ := shs_open h.2.2.1.1
 obtain ⟨b, o, rfl, h4, h5, h6⟩ := h3 (by omega)
 obtain ⟨k0, k1⟩ := h6 j x hx
 rw [e5] at k1
 have hput : putP x.l 0 v.pe = x.l.take 0 ++ v.pe :: x.l.drop (0 + 1) := by unfold putP; rw [if_neg (by omega)]; rfl
 rw [hq0]
 simp only [hput]
 have HP := zh (fun (W : World) (K : Sh) (hW : w.heap.size + 1 + 1 + 1 + 1 + 1 ≤ W.heap.size) (hK : Firm w0 (w.heap.size + 1 + 1 + 1 + 1 + 1) W fun W => ReadsL peV 10 W K.v K.l) (hb : Below w.heap.size w W) => mem_part_in w0 hg (w.heap.size + 1 + 1 + 1 + 1 + 1) m j K W (hg _ _ hb0 hb) hW hm hK hj hl)
 obtain ⟨a1, a2, a3, a4, c1, c2, c3, c4, e1, e2, e3, e4⟩ := mm_slices h
 obtain ⟨_, oa, oc, eo, _⟩ := ba_open hv.1
 obtain ⟨_, ka, kc, ek, _⟩ := ey_open hv.2
 have hmm := zmm e1 e2 e3 e4
 have HMM := zh hmm
 have ex := e3.symm.trans e6
 injection ex with ea en ec
 subst ea ec
 simp only [e1, e2, e3, e4] at HP
 obtain ⟨E1, E2, E4⟩ := zh3 e1 e2 e4
 obtain ⟨xs, hxs⟩ : ∃ z, z = x.size := ⟨_, rfl⟩
 rw [← hxs] at k0
 rw [e1, e2, e3, e4, eo, ek]
 clear hres e1 e2 e3 e4 eo ek hmm
 obtain ⟨x0, hx0, x1, hx1, n1, hn1, n2, hn2, n3, hn3, n4, hn4, nb, hnb, nk, hnk⟩ := nz8 m.inn m.out m.bans.2.length m.book.2.length m.parts.2.length m.locks.2.length v.bans.2.length v.book.2.length
 rw [← hx0, ← hx1, ← hn1, ← hn2, ← hn3, ← hn4, ← hnb, ← hnk]
 rw [← hx0, ← hx1, ← hn1, ← hn2, ← hn3, ← hn4] at HMM
 rw [← hx0, ← hx1, ← hn1, ← hn2, ← hn3, ← hn4] at HP
 have q1 : (j : Int) < (n3 : Int) := by omega
 have q2 : (0 : Int) ≤ (j : Int) := by omega
 obtain ⟨HX0, HX1, HN1, HN2, HN4, HXS, HAT⟩ := zh7 hx0 hx1 hn1 hn2 hn4 hxs hAt; have HATK := zh (fun W hW => show ReadsL peV 10 W x.v x.l by (have hq := shOf_at (hm W hW) (j : Int); rw [hsx] at hq; exact hq)); obtain ⟨HE5, HJ⟩ := zh2 e5 hj
 clear hput hl0 hp ho ht hxs hq0 hx hsx hAt e5 e6 en h3 h6 hs hl hj
 obtain ⟨HNB, HNK, HN3⟩ := zh3 hnb hnk hn3
 clear h hv hm hg hx0 hx1 hn1 hn2 hn3 hn4 hnb hnk
 skip
 go_enter Tryz.func48, Tryz.ntmps48
 go_upto_region 1 with fail
 refine wpn4 fun W4 B4 hBm hBl hBv hBr hs4 => ?_
 have z0 := keep B4 h5 k0
 have z1 := keep B4 h5 k1
 have y2 := hBm.c4
 have y3 := hBl.c1
 have y0 := hBl.c0
 obtain ⟨m0, m1, m2, m3, m4, m5⟩ := hBm.e6; have mf := hBm.frozen; have ml := hBm.lt; obtain ⟨l0, l1, l2⟩ := hBl.e3; obtain ⟨v0, v1, v2, v3, v4, v5, v6, v7, v8, v9, v10, v11, v12⟩ := hBv.e13; obtain ⟨r0, r1, r2, r3, r4, r5⟩ := hBr.e6; have rf := hBr.frozen; have rl := hBr.lt
 have p7 : min (IntKind.i64.wrap 1) 0 = 0 := by decide
 have HCC := zh (fun (W : World) (bk gk : Nat) (hT : BlockIs W bk [.slice (some ⟨b5, o5, i5⟩) 0 0, .slice (some ⟨gk, 0, none⟩) 1 1, .slice (some ⟨b5, o5, i5⟩) 0 0] 29) (hP : BlockIs W gk (peV v.pe) 52) (hb : Below w.heap.size w W) => by
  have r1 : ReadsL peV 10 W (.slice (some ⟨b5, o5, i5⟩) 0 0) (x.l.take 0) := by rw [HL0.out]; exact ReadsL.nil _ _ _ _ _
  have r3 : ReadsL peV 10 W (.slice (some ⟨b5, o5, i5⟩) 0 0) (x.l.drop (0 + 1)) := by rw [HL0.out]; exact ReadsL.nil _ _ _ _ _
  have r2 : ReadsL peV 10 W (.slice (some ⟨gk, 0, none⟩) 1 1) [v.pe] := reads_oneB hP
  exact concat3Pe _ _ _ (x.l.take 0) [v.pe] (x.l.drop (0 + 1)) bk W (hT.cell (i := 0) rfl) (hT.cell (i := 1) rfl) (hT.cell (i := 2) rfl) hT.lt r1 r2 r3 (by rw [HL0.out]; simp))
 clear m0 m1 m2 m3 m5 mf ml l2 v0 v1 v2 v3 v4 v5 v6 v7 v8 v9 v10 v11 v12 r0 r1 r2 r3 r4 r5 rf rl
 go_upto_region 12 with fail
 obtain ⟨W5, hW5⟩ : ∃ W5, W5 = W4.alloc (.cells #[.int .i64 xs, .slice (some ⟨b5, o5, i5⟩) 0 0] 112) := ⟨_, rfl⟩
 rw [← hW5]
 have B5 : Below w.heap.size w W5 := by subst hW5; exact B4.alloc B4.size _
 have hBs : BlockIs W5 W4.heap.size [.int .i64 xs, .slice (some ⟨b5, o5, i5⟩) 0 0] 112 := by subst hW5; exact BlockIs.new W4 [.int .i64 xs, .slice (some ⟨b5, o5, i5⟩) 0 0] _
 have hBm : BlockIs W5 w.heap.size [.int .i64 x0, .int .i64 x1, .slice a1 n1 c1, .slice a2 n2 c2, .slice (some ⟨b, o, none⟩) n3 c3, .slice a4 n4 c4] 40 := by subst hW5; exact hBm.alloc' _
 have hBl : BlockIs W5 (w.heap.size + 1) [.int .i64 6, .int .i64 j, .int .i64 0] 44 := by subst hW5; exact hBl.alloc' _
 have hBv : BlockIs W5 (w.heap.size + 1 + 1) [.int .i64 v.n, .bool v.pe.en.ad.v6, .int .u64 v.pe.en.ad.hi, .int .u64 v.pe.en.ad.lo, .int .i64 v.pe.en.port, .bool v.pe.came, .int .i64 v.pe.since, .int .i64 v.pe.pts, .int .i64 v.pe.at_, .int .i64 v.pe.ping, .int .i64 v.pe.work, .slice oa nb oc, .slice ka nk kc] 54 := by subst hW5; exact hBv.alloc' _
 have hBr : BlockIs W5 (w.heap.size + 1 + 1 + 1) [.int .i64 0, .int .i64 0, .slice none 0 0, .slice none 0 0, .slice none 0 0, .slice none 0 0] 40 := by subst hW5; exact hBr.alloc' _
 have hs5 : W5.heap.size = w.heap.size + 1 + 1 + 1 + 1 + 1 := by subst hW5; rw [World.size_alloc, hs4]
 clear hW5 z0 z1 y2 y3 y0
 rw [hs4] at hBs
 try rw [hs4]
 clear hs4
 obtain ⟨m0, m1, m2, m3, m4, m5⟩ := hBm.e6; have mf := hBm.frozen; have ml := hBm.lt; obtain ⟨l0, l1, l2⟩ := hBl.e3; obtain ⟨v0, v1, v2, v3, v4, v5, v6, v7, v8, v9, v10, v11, v12⟩ := hBv.e13; obtain ⟨r0, r1, r2, r3, r4, r5⟩ := hBr.e6; have rf := hBr.frozen; have rl := hBr.lt; obtain ⟨s0, s1⟩ := hBs.e2; have sf := hBs.frozen; have sl := hBs.lt
 go_upto_region 14 with fail
 obtain ⟨W6, hW6⟩ : ∃ W6, W6 = ((W5.alloc (.cells #[.bool v.pe.en.ad.v6, .int .u64 v.pe.en.ad.hi, .int .u64 v.pe.en.ad.lo, .int .i64 v.pe.en.port, .bool v.pe.came, .int .i64 v.pe.since, .int .i64 v.pe.pts, .int .i64 v.pe.at_, .int .i64 v.pe.ping, .int .i64 v.pe.work] 52)).alloc (.cells #[.slice (some ⟨b5, o5, i5⟩) 0 0, .slice (some ⟨w.heap.size + 1 + 1 + 1 + 1 + 1, 0, none⟩) 1 1, .slice (some ⟨b5, o5, i5⟩) 0 0] 29)).drew := ⟨_, rfl⟩
 have k1 : BlockIs W6 (w.heap.size + 1 + 1 + 1 + 1 + 1 + 1) [.slice (some ⟨b5, o5, i5⟩) 0 0, .slice (some ⟨w.heap.size + 1 + 1 + 1 + 1 + 1, 0, none⟩) 1 1, .slice (some ⟨b5, o5, i5⟩) 0 0] 29 := by subst hW6; exact BlockIs.drew' (BlockIs.newAt' (W5.alloc (.cells #[.bool v.pe.en.ad.v6, .int .u64 v.pe.en.ad.hi, .int .u64 v.pe.en.ad.lo, .int .i64 v.pe.en.port, .bool v.pe.came, .int .i64 v.pe.since, .int .i64 v.pe.pts, .int .i64 v.pe.at_, .int .i64 v.pe.ping, .int .i64 v.pe.work] 52)) [.slice (some ⟨b5, o5, i5⟩) 0 0, .slice (some ⟨w.heap.size + 1 + 1 + 1 + 1 + 1, 0, none⟩) 1 1, .slice (some ⟨b5, o5, i5⟩) 0 0] _ (by rw [World.size_alloc, hs5]))
 have k2 : BlockIs W6 (w.heap.size + 1 + 1 + 1 + 1 + 1) (peV v.pe) 52 := by subst hW6; exact BlockIs.drew' (BlockIs.alloc' (BlockIs.newAt' W5 (peV v.pe) _ hs5.symm) _)
 have k3 : Below w.heap.size w W6 := by subst hW6; exact bel
 have hBm6 := (show BlockIs W6 w.heap.size [.int .i64 x0, .int .i64 x1, .slice a1 n1 c1, .slice a2 n2 c2, .slice (some ⟨b, o, none⟩) n3 c3, .slice a4 n4 c4] 40 by subst hW6; exact BlockIs.drew' (BlockIs.alloc' (BlockIs.alloc' hBm _) _))
 have hBl6 := (show BlockIs W6 (w.heap.size + 1) [.int .i64 6, .int .i64 j, .int .i64 0] 44 by subst hW6; exact BlockIs.drew' (BlockIs.alloc' (BlockIs.alloc' hBl _) _))
 have hBr6 := (show BlockIs W6 (w.heap.size + 1 + 1 + 1) [.int .i64 0, .int .i64 0, .slice none 0 0, .slice none 0 0, .slice none 0 0, .slice none 0 0] 40 by subst hW6; exact BlockIs.drew' (BlockIs.alloc' (BlockIs.alloc' hBr _) _))
 have hBs6 := (show BlockIs W6 (w.heap.size + 1 + 1 + 1 + 1) [.int .i64 xs, .slice (some ⟨b5, o5, i5⟩) 0 0] 112 by subst hW6; exact BlockIs.drew' (BlockIs.alloc' (BlockIs.alloc' hBs _) _))
 have hBv6 := (show BlockIs W6 (w.heap.size + 1 + 1) [.int .i64 v.n, .bool v.pe.en.ad.v6, .int .u64 v.pe.en.ad.hi, .int .u64 v.pe.en.ad.lo, .int .i64 v.pe.en.port, .bool v.pe.came, .int .i64 v.pe.since, .int .i64 v.pe.pts, .int .i64 v.pe.at_, .int .i64 v.pe.ping, .int .i64 v.pe.work, .slice oa nb oc, .slice ka nk kc] 54 by subst hW6; exact BlockIs.drew' (BlockIs.alloc' (BlockIs.alloc' hBv _) _))
 have hs6 : w.heap.size + 1 + 1 + 1 + 1 + 1 ≤ W6.heap.size := by have := k2.lt; omega
 have HC6 := HCC.out W6 _ _ k1 k2 k3
 have HB6 := zh (And.intro hBm6 (And.intro hBl6 (And.intro hBr6 (And.intro hBs6 hBv6))))
 clear k1 k2 hBm6 hBl6 hBr6 hBs6 hBv6
 generalize hrn : (x.l.take 0 ++ [v.pe] ++ x.l.drop (0 + 1)).length = rn at HC6
 generalize hrl : (x.l.take 0 ++ [v.pe] ++ x.l.drop (0 + 1)) = rl6 at HC6 hrn
 obtain ⟨HRN, HRL⟩ := zh2 hrn hrl
 clear hrn hrl
 have HC6 := zh HC6
 refine wp_region_noPanic ?_
 have hS0 : (fun wq => wq.cell? ⟨w.heap.size + 1 + 1 + 1 + 1, 1, none⟩ = some (.slice (some ⟨b5, o5, i5⟩) 0 0) ∧ wq.cell? ⟨w.heap.size + 1, 2, none⟩ = some (.int .i64 0) ∧ wq.cell? ⟨w.heap.size + 1 + 1, 1, none⟩ = some (.bool v.pe.en.ad.v6) ∧ wq.cell? ⟨w.heap.size + 1 + 1, 2, none⟩ = some (.int .u64 v.pe.en.ad.hi) ∧ wq.cell? ⟨w.heap.size + 1 + 1, 3, none⟩ = some (.int .u64 v.pe.en.ad.lo) ∧ wq.cell? ⟨w.heap.size + 1 + 1, 4, none⟩ = some (.int .i64 v.pe.en.port) ∧ wq.cell? ⟨w.heap.size + 1 + 1, 5, none⟩ = some (.bool v.pe.came) ∧ wq.cell? ⟨w.heap.size + 1 + 1, 6, none⟩ = some (.int .i64 v.pe.since) ∧ wq.cell? ⟨w.heap.size + 1 + 1, 7, none⟩ = some (.int .i64 v.pe.pts) ∧ wq.cell? ⟨w.heap.size + 1 + 1, 8, none⟩ = some (.int .i64 v.pe.at_) ∧ wq.cell? ⟨w.heap.size + 1 + 1, 9, none⟩ = some (.int .i64 v.pe.ping) ∧ wq.cell? ⟨w.heap.size + 1 + 1, 10, none⟩ = some (.int .i64 v.pe.work)) W5.drew := by
  dsimp only
  (first | go_keep | (simp (disch := omega) [*]; done) | (simp (disch := first | omega | (simp; omega)) [World.cell?_setCell_far, World.cell?_alloc_past, *]; done) | (simp (disch := first | omega | (simp; omega)) [World.cell?_setCell_far, World.cell?_alloc_past, *]; repeat (first | exact rfl | refine ⟨rfl, ?_⟩)))
 refine wp_region_headH (fun wq => wq.cell? ⟨w.heap.size + 1 + 1 + 1 + 1, 1, none⟩ = some (.slice (some ⟨b5, o5, i5⟩) 0 0) ∧ wq.cell? ⟨w.heap.size + 1, 2, none⟩ = some (.int .i64 0) ∧ wq.cell? ⟨w.heap.size + 1 + 1, 1, none⟩ = some (.bool v.pe.en.ad.v6) ∧ wq.cell? ⟨w.heap.size + 1 + 1, 2, none⟩ = some (.int .u64 v.pe.en.ad.hi) ∧ wq.cell? ⟨w.heap.size + 1 + 1, 3, none⟩ = some (.int .u64 v.pe.en.ad.lo) ∧ wq.cell? ⟨w.heap.size + 1 + 1, 4, none⟩ = some (.int .i64 v.pe.en.port) ∧ wq.cell? ⟨w.heap.size + 1 + 1, 5, none⟩ = some (.bool v.pe.came) ∧ wq.cell? ⟨w.heap.size + 1 + 1, 6, none⟩ = some (.int .i64 v.pe.since) ∧ wq.cell? ⟨w.heap.size + 1 + 1, 7, none⟩ = some (.int .i64 v.pe.pts) ∧ wq.cell? ⟨w.heap.size + 1 + 1, 8, none⟩ = some (.int .i64 v.pe.at_) ∧ wq.cell? ⟨w.heap.size + 1 + 1, 9, none⟩ = some (.int .i64 v.pe.ping) ∧ wq.cell? ⟨w.heap.size + 1 + 1, 10, none⟩ = some (.int .i64 v.pe.work)) 21 (by kernel_rfl) (by kernel_rfl) ?_
 refine hP 0 rfl ?_
 refine hP 1 rfl ?_
 refine hP 2 rfl ?_
 refine hP 3 rfl ?_
 refine hP 4 rfl ?_
 refine hP 5 rfl ?_
 refine hP 6 rfl ?_
 refine hP 8 rfl ?_
 refine hP 9 rfl ?_
 refine hP 10 rfl ?_
 refine hP 11 rfl ?_
 refine hP 12 rfl ?_
 refine hP 13 rfl ?_
 refine hP 14 rfl ?_
 refine hP 15 rfl ?_
 refine hP 16 rfl ?_
 refine hP 17 rfl ?_
 refine headH_one (i := 7) rfl rfl (by kernel_rfl) (fun K hK => ?_)
 go_simp
 refine hK.out _ _ ?_ (fun hS7 => ?_)
 ·try dsimp only
  (first | go_keep | (simp (disch := omega) [*]; done) | (simp (disch := first | omega | (simp; omega)) [World.cell?_setCell_far, World.cell?_alloc_past, *]; done) | (simp (disch := first | omega | (simp; omega)) [World.cell?_setCell_far, World.cell?_alloc_past, *]; repeat (first | exact rfl | refine ⟨rfl, ?_⟩)))
 clear hK K
 try simp only [Act.put, zs1, zs2, zs3]
 refine headH_one (i := 18) rfl rfl (by kernel_rfl) (fun K hK => ?_)
 go_simp
 refine hK.out _ _ ?_ (fun hS18 => ?_)
 ·try dsimp only
  (first | go_keep | (simp (disch := omega) [*]; done) | (simp (disch := first | omega | (simp; omega)) [World.cell?_setCell_far, World.cell?_alloc_past, *]; done) | (simp (disch := first | omega | (simp; omega)) [World.cell?_setCell_far, World.cell?_alloc_past, *]; repeat (first | exact rfl | refine ⟨rfl, ?_⟩)))
 clear hK K
 try simp only [Act.put, zs1, zs2, zs3]
 refine headH_one (i := 19) rfl rfl (by kernel_rfl) (fun K hK => ?_)
 go_simp
 (go_at_call 76; go_loud (rw [← hW6]; (with_reducible refine HC6.out.mono ?_); rintro e w6 ⟨r6, rfl, own6, b6⟩; have own6 := owns_base own6 hs6; obtain ⟨a8, c8, e8⟩ := owns_slice own6; subst e8; have HO6 := zh own6; clear own6; have B6 := below2 k3 b6; have z6 := b6.size; obtain ⟨hBm6, hBl6, hBr6, hBs6, hBv6⟩ := HB6.out; have hBv6 := hBv6.below b6; have hBm6 := hBm6.below b6; have hBl6 := hBl6.below b6; have hBr6 := hBr6.below b6; have hBs6 := hBs6.below b6; clear m0 m1 m2 m3 m4 m5 mf ml l0 l1 l2 v0 v1 v2 v3 v4 v5 v6 v7 v8 v9 v10 v11 v12 r0 r1 r2 r3 r4 r5 rf rl s0 s1 sf sl; obtain ⟨m0, m1, m2, m3, m4, m5⟩ := hBm6.e6; obtain ⟨l0, l1, l2⟩ := hBl6.e3; obtain ⟨r0, r1, r2, r3, r4, r5⟩ := hBr6.e6; obtain ⟨s0, s1⟩ := hBs6.e2; have v1 := hBv6.c1; have v2 := hBv6.c2; have v3 := hBv6.c3; have v4 := hBv6.c4; have v5 := hBv6.c5; have v6 := hBv6.c6; have v7 := hBv6.c7; have v8 := hBv6.c8; have v9 := hBv6.c9; have v10 := hBv6.c10; have mf := hBm6.frozen; have ml := hBm6.lt; have rf := hBr6.frozen; have rl := hBr6.lt; have sf := hBs6.frozen; have sl := hBs6.lt))
 refine hK.out _ _ ?_ (fun hS19 => ?_)
 ·try dsimp only
  (first | go_keep | (simp (disch := omega) [*]; done) | (simp (disch := first | omega | (simp; omega)) [World.cell?_setCell_far, World.cell?_alloc_past, *]; done) | (simp (disch := first | omega | (simp; omega)) [World.cell?_setCell_far, World.cell?_alloc_past, *]; repeat (first | exact rfl | refine ⟨rfl, ?_⟩)))
 clear hK K
 try simp only [Act.put, zs1, zs2, zs3]
 refine hP 20 rfl ?_
 refine headH_done (by kernel_rfl) ?_
 simp only [List.drop_succ_cons, List.drop_zero]
 go_wp2_with fail
 refine NoPanic.normal ?_
 go_wp2_with (go_at_call 75; (with_reducible refine (HP.out _ ⟨xs, .slice a8 rn c8, rl6⟩ (by simp [World.setCell]; omega) (by refine ((Firm.own HO6.out (Nat.le_refl _)).map (fun W h => (by (unfold ReadsL; rw [HRN.out]; exact owns_reads h)))).keep (fun g arr T h1 hb => (by (have nB1 : g ≠ w.heap.size + 1 + 1 + 1 + 1 := (by omega); have nB2 : w.heap.size + 1 + 1 + 1 + 1 ≠ g := (by omega); exact rcx hb)))) (by exact bel)).mono ?_); rintro e w7 ⟨v7, rfl, hM7, b7⟩; have HM7 := zh hM7; have B7 := below2 (w := w) (by exact bel) b7; obtain ⟨_, a6, c6, e6, _⟩ := shs_open (hM7.now (HG.out _ _ hb0 B7)).2.2.1.1; simp only [List.length_set] at e6; rw [← HN3.out] at e6; have E6 := zh e6; subst e6; have z7 := b7.size; have hBr7 : BlockIs w7 (w.heap.size + 1 + 1 + 1) [.int .i64 0, .int .i64 0, .slice none 0 0, .slice none 0 0, .slice none 0 0, .slice none 0 0] 40 := BlockIs.below (by exact rcx hBr6) b7; clear r0 r1 r2 r3 r4 r5 rf rl; obtain ⟨r0, r1, r2, r3, r4, r5⟩ := hBr7.e6; have rf := hBr7.frozen; have rl := hBr7.lt)
 refine bodyPost_named fun W9 h9 => ?_
 have hR9 : BlockIs W9 (w.heap.size + 1 + 1 + 1) [.int .i64 x0, .int .i64 x1, .slice a1 n1 c1, .slice a2 n2 c2, .slice a6 n3 c6, .slice a4 n4 c4] 40 := by subst h9; exact rcx hBr7
 have b9 : Below w.heap.size w W9 := by subst h9; exact bel
 have FIN : Hid (Firm w0 B W9 fun W => MmAt W ⟨x0, x1, m.bans, m.book, (.slice a6 n3 c6, m.parts.2.set j ⟨xs, .slice a8 rn c8, rl6⟩), m.locks⟩) := by
  subst h9
  unfold Hid
  refine (Firm.keep HM7.out fun g arr T h1 hb => ?_).from (by omega)
  have nB : w.heap.size ≠ g := by omega
  have nB2 : g ≠ w.heap.size := by omega
  have nB3 : g ≠ w.heap.size + 1 + 1 + 1 := by omega
  have nB4 : w.heap.size + 1 + 1 + 1 ≠ g := by omega
  exact rcx hb
 clear h9
 obtain ⟨e90, e91, e92, e93, e94, e95⟩ := hR9.e6
 exact bodyPost_ret (v := .agg #[.int .i64 x0, .int .i64 x1, .slice a1 n1 c1, .slice a2 n2 c2, .slice a6 n3 c6, .slice a4 n4 c4]) (by simp [results, Tryz.results48, go_sem, e90, e91, e92, e93, e94, e95]) rfl ⟨⟨x0, x1, m.bans, m.book, (.slice a6 n3 c6, m.parts.2.set j ⟨xs, .slice a8 rn c8, rl6⟩), m.locks⟩, (by simp only [E1.out, E2.out, E4.out, ← HN1.out, ← HN2.out, ← HN4.out]), (fun W h0 hkp => by (have hm9 := HM.out W h0; exact FIN.out W h0 hkp)), (by unfold Mm.pl setAt; simp only [if_pos q2, Int.toNat_natCast, List.map_set, HX0.out, HX1.out, ← HRL.out, HXS.out, List.append_assoc, List.singleton_append]), b9⟩
theorem memStore_any (w0 : World → Prop) (hg : Grows w0) (B : Nat) (m : Mm) (k s t : Int) (v : Vm) (w : World) (hb0 : w0 w) (hB : B ≤ w.heap.size) (hm : ∀ W, w0 W → MmAt W m) (hv : VmAt w v) (hl : m.parts.2.length ≤ 1000)
  (hs : k = 5 ∨ k = 6 → 0 ≤ s ∧ s < (m.parts.2.length : Int)) (ht : k = 6 → 0 ≤ t) (hN : (shOf m s).l.length ≤ 100000) (hb : v.bans.2.length ≤ 1000) (hk : v.book.2.length ≤ 1000) :
  Calls Tryz.prog 48 #[.agg #[.int .i64 m.inn, .int .i64 m.out, m.bans.1, m.book.1, m.parts.1, m.locks.1], .agg #[.int .i64 k, .int .i64 s, .int .i64 t], .agg #[.int .i64 v.n, .bool v.pe.en.ad.v6, .int .u64 v.pe.en.ad.hi, .int .u64 v.pe.en.ad.lo, .int .i64 v.pe.en.port, .bool v.pe.came, .int .i64 v.pe.since, .int .i64 v.pe.pts, .int .i64 v.pe.at_, .int .i64 v.pe.ping, .int .i64 v.pe.work, v.bans.1, v.book.1]] w (GivesMm w0 B w (storeP m.pl k s t v.pl)) := by
 by_cases h3 : k = 3
 ·subst h3; exact memStore_3 w0 hg B m s t v w hb0 hB hm hv hb
 by_cases h4 : k = 4
 ·subst h4; exact memStore_4 w0 hg B m s t v w hb0 hB hm hv hk
 by_cases h5 : k = 5
 ·subst h5; exact memStore_5 w0 hg B m s t v w hb0 hB hm hv (hs (Or.inl rfl)) hl
 by_cases h6 : k = 6
 ·subst h6
  have hs := hs (Or.inr rfl)
  have ht := ht rfl
  rcases Int.lt_or_le ((shOf m s).l.length : Int) t with ho | ho
  ·exact memStore_6over w0 hg B m s t v w hb0 hB hm hv hs hl ho
  obtain ⟨_, a5, c5, e5, _⟩ := pes_open (shOf_at (hm w hb0) s)
  rcases Nat.eq_zero_or_pos (shOf m s).l.length with hp | hp
  ·cases a5 with
   | none => exact memStore_6z0 w0 hg B m s t v w hb0 hB hm hv hs hl ht ho hp fun a n c e => by rw [e5] at e; injection e with e _ _; exact e.symm
   | some q =>
    by_cases hc : c5 = 0
    ·exact memStore_6z2 w0 hg B m s t v w hb0 hB hm hv hs hl ht ho hp fun a n c e => by rw [e5] at e; injection e with e _ e'; exact ⟨q, e.symm, e'.symm.trans hc⟩
    ·exact memStore_6z1 w0 hg B m s t v w hb0 hB hm hv hs hl ht ho hp fun a n c e => by rw [e5] at e; injection e with e _ e'; exact ⟨q, e.symm, fun h => hc (e'.trans h)⟩
  ·by_cases hc : c5 = min (t.toNat + 1) (shOf m s).l.length
   ·exact memStore_6full w0 hg B m s t v w hb0 hB hm hv hs hl ht ho hp hN fun a n c e => by rw [e5] at e; injection e with _ e e'; rw [← e, ← e']; exact hc
   ·exact memStore_6in w0 hg B m s t v w hb0 hB hm hv hs hl ht ho hp hN fun a n c e => by rw [e5] at e; injection e with _ e e'; rw [← e, ← e']; exact hc
 ·exact memStore_0 w0 hg B m k s t v w hb0 hB hm hv ⟨h3, h4, h5, h6⟩
theorem memLoad_any (m : Mm) (k s t : Int) (w : World) (h : MmAt w m) (hb : m.bans.2.length ≤ 1000) (hk : m.book.2.length ≤ 1000) (h16 : 1 ≤ k ∧ k ≤ 6) (hs : k = 5 ∨ k = 6 → 0 ≤ s ∧ s < (m.parts.2.length : Int)) (ht : k = 6 → 0 ≤ t) :
  Calls Tryz.prog 47 #[.agg #[.int .i64 m.inn, .int .i64 m.out, m.bans.1, m.book.1, m.parts.1, m.locks.1], .agg #[.int .i64 k, .int .i64 s, .int .i64 t]] w (GivesVm w (loadP m.pl k s t)) := by
 rcases (show k = 1 ∨ k = 2 ∨ k = 3 ∨ k = 4 ∨ k = 5 ∨ k = 6 by omega) with rfl | rfl | rfl | rfl | rfl | rfl
 ·exact memLoad_1 m s t w h
 ·exact memLoad_2 m s t w h
 ·exact memLoad_3 m s t w h hb
 ·exact memLoad_4 m s t w h hk
 ·exact memLoad_5 m s t w h (hs (Or.inl rfl))
 ·exact memLoad_6 m s t w h (hs (Or.inr rfl)) (ht rfl)
theorem memSwap_any (m : Mm) (o : Oq) (w : World) (h : MmAt w m) (ho : OqAt w o) : Calls Tryz.prog 49 #[.agg #[.int .i64 m.inn, .int .i64 m.out, m.bans.1, m.book.1, m.parts.1, m.locks.1], .agg #[.int .i64 o.kind, .int .i64 o.lock, .int .i64 o.lk, .int .i64 o.ls, .int .i64 o.lt, .int .i64 o.old, .int .i64 o.new, .int .i64 o.vn, .bool o.pe.en.ad.v6, .int .u64 o.pe.en.ad.hi, .int .u64 o.pe.en.ad.lo, .int .i64 o.pe.en.port, .bool o.pe.came, .int .i64 o.pe.since, .int .i64 o.pe.pts, .int .i64 o.pe.at_, .int .i64 o.pe.ping, .int .i64 o.pe.work, o.bans.1, o.book.1, .bool o.mark]] w (GivesMv w m (swapP m.pl o.lk o.old o.new)) := memSwap_all m o w h ho
def GivesDo (w0 : World → Prop) (B : Nat) (w : World) (r : Pm × Vp) (e : Ending) (w' : World) : Prop := ∃ (m : Mm) (v : Vm), e = .returned (.tuple #[.agg #[.int .i64 m.inn, .int .i64 m.out, m.bans.1, m.book.1, m.parts.1, m.locks.1], .agg #[.int .i64 v.n, .bool v.pe.en.ad.v6, .int .u64 v.pe.en.ad.hi, .int .u64 v.pe.en.ad.lo, .int .i64 v.pe.en.port, .bool v.pe.came, .int .i64 v.pe.since, .int .i64 v.pe.pts, .int .i64 v.pe.at_, .int .i64 v.pe.ping, .int .i64 v.pe.work, v.bans.1, v.book.1]]) ∧ Firm w0 B w' (fun W => MmAt W m) ∧ Firm w0 B w' (fun W => VmAt W v) ∧ m.pl = r.1 ∧ v.pl = r.2 ∧ Below w.heap.size w w'
theorem mayP_right {m : Mm} {o : Oq} (h : mayP m.pl o = true) : opRight o m.parts.2.length = true := by
 unfold mayP at h
 rw [Bool.and_eq_true] at h
 have : m.pl.parts.length = m.parts.2.length := by unfold Mm.pl; simp
 rw [← this]; exact h.1
theorem opRight_lock {o : Oq} {n : Nat} (h : opRight o n = true) (hk : o.kind = 1 ∨ o.kind = 2 ∨ o.kind = 3 ∨ o.kind = 4) : 0 ≤ o.lock ∧ o.lock ≤ (n : Int) + 1 := by
 unfold opRight at h
 rw [Bool.and_eq_true] at h
 rcases hk with hk | hk | hk | hk <;> simp [hk] at h <;> omega
theorem opRight_load {o : Oq} {n : Nat} (h : opRight o n = true) (hk : o.kind = 5 ∨ o.kind = 6) : 1 ≤ o.lk ∧ o.lk ≤ 6 ∧ (o.lk = 5 ∨ o.lk = 6 → 0 ≤ o.ls ∧ o.ls < (n : Int)) ∧ (o.lk = 6 → 0 ≤ o.lt) := by
 unfold opRight plOk at h
 rw [Bool.and_eq_true] at h
 rcases hk with hk | hk <;> simp [hk] at h <;> refine ⟨by omega, by omega, fun _ => by omega, fun _ => by omega⟩
theorem lock_nat {m : Mm} {o : Oq} (h : mayP m.pl o = true) (hk : o.kind = 1 ∨ o.kind = 2 ∨ o.kind = 3 ∨ o.kind = 4) (hl : m.locks.2.length = m.parts.2.length + 2) : ∃ n : Nat, o.lock = (n : Int) ∧ n < m.locks.2.length := by
 have := opRight_lock (mayP_right h) hk
 exact ⟨o.lock.toNat, by omega, by omega⟩
theorem rise_firm {w0 : World → Prop} {B B' : Nat} {w6 : World} {v : Value} {l : List Int} {who : Int} {a : Option Addr} {c : Nat} (h : (.slice a (riseP l who).length c = v ∧ riseP l who = l) ∨ w6.ownsRow B' 3 1 (.slice a (riseP l who).length c) (riseP l who).length ((riseP l who).flatMap inV)) (hB : B ≤ B') (hv : ∀ W, w0 W → ReadsL inV 1 W v l) : Firm w0 B w6 fun W => ReadsL inV 1 W (.slice a (riseP l who).length c) (riseP l who) := by
 rcases h with ⟨e1, e2⟩ | h
 ·rw [e1, e2]; exact Firm.old hv
 ·exact (Firm.own h hB).map fun W h => owns_readsL h
set_option maxHeartbeats 4000000 in
theorem memDo_clo (x who : Int) (B : Nat) (w : World) (c0 : w.cell? ⟨B, 0, none⟩ = some (.int .i64 who)) (hB : B < w.heap.size) :
  Calls Tryz.prog 46 #[.int .i64 x, .pointer (some ⟨B, 0, none⟩)] w fun e w' => e = .returned (.bool (decide (x = who))) ∧ Below w.heap.size w w' := by
 have hq : (x == who) = decide (x = who) := by by_cases h : x = who <;> simp [h]
 go_enter Tryz.func46, Tryz.ntmps46
 go_wp2_with fail
 go_ret
 exact ⟨by first | rfl | simp [hq] | (rw [← hq]), Below.refl _ _⟩
def zeroVm : Vm := ⟨0, zeroPe, (.slice none 0 0, []), (.slice none 0 0, [])⟩
theorem zeroVm_at (W : World) : VmAt W zeroVm := ⟨ReadsL.nil _ _ _ _ _, ReadsL.nil _ _ _ _ _⟩
def DoC (f : FuncId) (w0 : World → Prop) (B : Nat) (m : Mm) (o : Oq) (who : Int) (w : World) : Prop := Calls Tryz.prog f #[.agg #[.int .i64 m.inn, .int .i64 m.out, m.bans.1, m.book.1, m.parts.1, m.locks.1], .agg #[.int .i64 o.kind, .int .i64 o.lock, .int .i64 o.lk, .int .i64 o.ls, .int .i64 o.lt, .int .i64 o.old, .int .i64 o.new, .int .i64 o.vn, .bool o.pe.en.ad.v6, .int .u64 o.pe.en.ad.hi, .int .u64 o.pe.en.ad.lo, .int .i64 o.pe.en.port, .bool o.pe.came, .int .i64 o.pe.since, .int .i64 o.pe.pts, .int .i64 o.pe.at_, .int .i64 o.pe.ping, .int .i64 o.pe.work, o.bans.1, o.book.1, .bool o.mark], .int .i64 who] w (GivesDo w0 B w (doP m.pl o who))
set_option maxHeartbeats 16000000 in
theorem memDo_no (w0 : World → Prop) (hg : Grows w0) (B : Nat) (m : Mm) (o : Oq) (who : Int) (w : World) (hb0 : w0 w) (hB : B ≤ w.heap.size) (hm : ∀ W, w0 W → MmAt W m) (ho : OqAt w o) (hmay : mayP m.pl o = false) :
  DoC 14 w0 B m o who w := by
 unfold DoC
 have hres : doP m.pl o who = (m.pl, zeroVp) := by unfold doP; exact if_pos hmay
 rw [hres]
 clear hres
 unfold GivesDo
 have h := hm w hb0
 obtain ⟨HM, HG⟩ := zh2 hm hg
 have HMAY := zh (fun (W : World) (hb : Below w.heap.size w W) => memMay_any m o who W (h.below hb) (ho.below hb))
 rw [hmay] at HMAY
 have HL := zh (fun (W : World) (hb : Below w.heap.size w W) => memLock_any m o.lock W (h.below hb))
 have HLK := zh (fun (W : World) (hW : w0 W) => lkOf_at (hm W hW) o.lock)

 obtain ⟨_, qa, qc, eq, _⟩ := ins_open (lkOf_at h o.lock)
 obtain ⟨a1, a2, a3, a4, c1, c2, c3, c4, e1, e2, e3, e4⟩ := mm_slices h
 obtain ⟨_, oa, oc, eo, _⟩ := ba_open ho.1
 obtain ⟨_, ka, kc, ek, _⟩ := ey_open ho.2
 have hmm := zmm e1 e2 e3 e4
 have HMM := zh hmm
 obtain ⟨E1, E2, E3, E4, EQ, EO, EK⟩ := zh7 e1 e2 e3 e4 eq eo ek
 simp only [e1, e2, e3, e4, eo, ek, eq] at HMAY HL 
 rw [e1, e2, e3, e4, eo, ek]
 clear e1 e2 e3 e4 eo ek hmm eq
 obtain ⟨x0, hx0, x1, hx1, n1, hn1, n2, hn2, n3, hn3, n4, hn4, nb, hnb, nk, hnk, qn, hqn, qb, hqb⟩ := nz10 m.inn m.out m.bans.2.length m.book.2.length m.parts.2.length m.locks.2.length o.bans.2.length o.book.2.length ((lkOf m o.lock).l.length) ((lkOf m o.lock).b)
 simp only [← hx0, ← hx1, ← hn1, ← hn2, ← hn3, ← hn4, ← hnb, ← hnk, ← hqn, ← hqb] at HMAY HL  ⊢
 rw [← hx0, ← hx1, ← hn1, ← hn2, ← hn3, ← hn4] at HMM
 obtain ⟨HX0, HX1, HN1, HN2, HN3, HN4, HNB, HNK, HQN, HQB⟩ := zh10 hx0 hx1 hn1 hn2 hn3 hn4 hnb hnk hqn hqb
 clear h ho hm hg hmay hx0 hx1 hn1 hn2 hn3 hn4 hnb hnk hqn hqb
 go_enter Tryz.func14, Tryz.ntmps14
 go_upto_region 1 with fail
 refine wpn5 fun W5 B5 hBm hBo hBw hBr hBv hs5 => ?_
 obtain ⟨m0, m1, m2, m3, m4, m5⟩ := hBm.e6; have k0 := hBw.c0
 have HBo := zh hBo
 go_wp2_with (first
  | (refine list_load_blk rfl 56 _ rfl (w.heap.size + 1) _ 56 hBo rfl Tryz.underlying56 (by kernel_rfl) ?_)
  | (go_at_call 12; (with_reducible refine (HMAY.out _ B5).mono ?_); rintro e w1 ⟨rfl, b1⟩; have z1 := b1.size; have B6 := below2 B5 b1; have hBm1 := hBm.below b1; have hBo1 := hBo.below b1; have hBw1 := hBw.below b1; have hBr1 := hBr.below b1; have hBv1 := hBv.below b1; clear m0 m1 m2 m3 m4 m5 k0; obtain ⟨m0, m1, m2, m3, m4, m5⟩ := hBm1.e6; have mf := hBm1.frozen; have ml := hBm1.lt)
  | (refine list_store_blk rfl 40 _ _ rfl (w.heap.size + 1 + 1 + 1) _ _ 40 hBr1 rfl rfl (by kernel_rfl) rfl (by simp [Value.oneCell']) w.heap.size w B6 (by omega) ?_; intro w20 hR20 hoth20 hsz20 bw20)
  | (refine list_store_blk rfl 54 _ _ rfl (w.heap.size + 1 + 1 + 1 + 1) _ _ 54 (hoth20 _ _ _ (by omega) hBv1) rfl rfl (by kernel_rfl) rfl (by simp [Value.oneCell']) w.heap.size w bw20 (by omega) ?_; intro w21 hV21 hoth21 hsz21 bw21))
 have hR21 := hoth21 _ _ _ (by omega) hR20
 obtain ⟨e90, e91, e92, e93, e94, e95⟩ := hR21.e6; obtain ⟨f90, f91, f92, f93, f94, f95, f96, f97, f98, f99, f910, f911, f912⟩ := hV21.e13
 exact bodyPost_ret (v := .tuple #[.agg #[.int .i64 x0, .int .i64 x1, .slice a1 n1 c1, .slice a2 n2 c2, .slice a3 n3 c3, .slice a4 n4 c4], .agg #[.int .i64 0, .bool false, .int .u64 0, .int .u64 0, .int .i64 0, .bool false, .int .i64 0, .int .i64 0, .int .i64 0, .int .i64 0, .int .i64 0, .slice none 0 0, .slice none 0 0]]) (by simp [results, Tryz.results14, go_sem, e90, e91, e92, e93, e94, e95, f90, f91, f92, f93, f94, f95, f96, f97, f98, f99, f910, f911, f912]) rfl ⟨m, zeroVm, (by rw [HMM.out]; rfl), (Firm.old HM.out), (Firm.old fun W _ => zeroVm_at W), rfl, rfl, bw21⟩
set_option maxHeartbeats 16000000 in
theorem memDo_1 (w0 : World → Prop) (hg : Grows w0) (B : Nat) (m : Mm) (o : Oq) (who : Int) (w : World) (hb0 : w0 w) (hB : B ≤ w.heap.size) (hm : ∀ W, w0 W → MmAt W m) (ho : OqAt w o) (hwho : 0 ≤ who ∧ who ≤ 100) (hmay : mayP m.pl o = true) (hk : o.kind = 1) (hll : m.locks.2.length = m.parts.2.length + 2) (hlen : m.locks.2.length ≤ 1000) :
  DoC 14 w0 B m o who w := by
 unfold DoC
 have hres : doP m.pl o who = (lockedP m.pl o.lock (who + 1, (lockP m.pl o.lock).2), zeroVp) := by unfold doP; rw [if_neg (by rw [hmay]; simp), if_pos hk]
 rw [hres]
 clear hres
 unfold GivesDo
 have h := hm w hb0
 obtain ⟨HM, HG⟩ := zh2 hm hg
 have HMAY := zh (fun (W : World) (hb : Below w.heap.size w W) => memMay_any m o who W (h.below hb) (ho.below hb))
 rw [hmay] at HMAY
 have HL := zh (fun (W : World) (hb : Below w.heap.size w W) => memLock_any m o.lock W (h.below hb))
 have HLK := zh (fun (W : World) (hW : w0 W) => lkOf_at (hm W hW) o.lock)
 obtain ⟨n, hln, hn⟩ := lock_nat hmay (by omega) hll
 have HLD := zh (fun (B' : Nat) (W : World) (k : Lk) (hW : B' ≤ W.heap.size) (hK : Firm w0 B' W fun W => ReadsL inV 1 W k.v k.l) (hb : Below w.heap.size w W) => mem_locked_in w0 hg B' m n k W (hg _ _ hb0 hb) hW hm hK hn hlen)
 have HN := zh hn
 obtain ⟨_, qa, qc, eq, _⟩ := ins_open (lkOf_at h o.lock)
 obtain ⟨a1, a2, a3, a4, c1, c2, c3, c4, e1, e2, e3, e4⟩ := mm_slices h
 obtain ⟨_, oa, oc, eo, _⟩ := ba_open ho.1
 obtain ⟨_, ka, kc, ek, _⟩ := ey_open ho.2
 have hmm := zmm e1 e2 e3 e4
 have HMM := zh hmm
 obtain ⟨E1, E2, E3, E4, EQ, EO, EK⟩ := zh7 e1 e2 e3 e4 eq eo ek
 simp only [e1, e2, e3, e4, eo, ek, eq] at HMAY HL HLD
 rw [e1, e2, e3, e4, eo, ek]
 clear e1 e2 e3 e4 eo ek hmm eq
 obtain ⟨x0, hx0, x1, hx1, n1, hn1, n2, hn2, n3, hn3, n4, hn4, nb, hnb, nk, hnk, qn, hqn, qb, hqb⟩ := nz10 m.inn m.out m.bans.2.length m.book.2.length m.parts.2.length m.locks.2.length o.bans.2.length o.book.2.length ((lkOf m o.lock).l.length) ((lkOf m o.lock).b)
 simp only [← hx0, ← hx1, ← hn1, ← hn2, ← hn3, ← hn4, ← hnb, ← hnk, ← hqn, ← hqb] at HMAY HL HLD ⊢
 rw [← hx0, ← hx1, ← hn1, ← hn2, ← hn3, ← hn4] at HMM
 simp only [hln, hk] at HMAY HL ⊢
 have HLN := zh hln
 have hwr : IntKind.i64.wrap (who + 1) = who + 1 := by rw [IntKind.wrap_i64]; omega
 obtain ⟨HX0, HX1, HN1, HN2, HN3, HN4, HNB, HNK, HQN, HQB⟩ := zh10 hx0 hx1 hn1 hn2 hn3 hn4 hnb hnk hqn hqb
 clear h ho hm hg hmay hx0 hx1 hn1 hn2 hn3 hn4 hnb hnk hqn hqb hk hll hlen hn hln hwho
 go_enter Tryz.func14, Tryz.ntmps14
 go_upto_region 1 with fail
 refine wpn5 fun W5 B5 hBm hBo hBw hBr hBv hs5 => ?_
 obtain ⟨m0, m1, m2, m3, m4, m5⟩ := hBm.e6; have k0 := hBw.c0
 have HBo := zh hBo
 go_upto_region 4 with (first
  | (refine list_load_blk rfl 56 _ rfl (w.heap.size + 1) _ 56 hBo rfl Tryz.underlying56 (by kernel_rfl) ?_)
  | (go_at_call 12; (with_reducible refine (HMAY.out _ B5).mono ?_); rintro e w1 ⟨rfl, b1⟩; have z1 := b1.size; have B6 := below2 B5 b1; have hBm1 := hBm.below b1; have hBo1 := hBo.below b1; have hBw1 := hBw.below b1; have hBr1 := hBr.below b1; have hBv1 := hBv.below b1; clear m0 m1 m2 m3 m4 m5 k0; obtain ⟨m0, m1, m2, m3, m4, m5⟩ := hBm1.e6; have mf := hBm1.frozen; have ml := hBm1.lt; obtain ⟨o0, o1⟩ := hBo1.e2)
  | (go_at_call 39; (with_reducible refine (HL.out _ B6).mono ?_); rintro e w2 ⟨rfl, b2⟩; have z2 := b2.size; have B7 := below2 B6 b2; have hBm2 := hBm1.below b2; have hBo2 := hBo1.below b2; have hBw2 := hBw1.below b2; have hBr2 := hBr1.below b2; have hBv2 := hBv1.below b2; clear m0 m1 m2 m3 m4 m5 mf ml o0 o1))
 refine wpn1 fun W3 bW2 hBl3 hs3 => ?_
 have B8 := below2 B7 bW2
 have hBm3 := hBm2.below bW2
 have hBo3 := hBo2.below bW2
 have hBw3 := hBw2.below bW2
 have hBr3 := hBr2.below bW2
 have hBv3 := hBv2.below bW2
 have hz3 : w.heap.size + 1 + 1 + 1 + 1 + 1 ≤ w2.heap.size := by omega
 clear hBm1 hBo1 hBw1 hBr1 hBv1 hBm2 hBo2 hBw2 hBr2 hBv2 hBm hBw hBr hBv hBo
 obtain ⟨m0, m1, m2, m3, m4, m5⟩ := hBm3.e6; have mf := hBm3.frozen; have ml := hBm3.lt; obtain ⟨o0, o1⟩ := hBo3.e2; have k0 := hBw3.c0; obtain ⟨l0, l1⟩ := hBl3.e2; have lf := hBl3.frozen; have ll := hBl3.lt
 go_wp2_with (first
  | (go_at_call 42; (with_reducible refine (HLD.out (w2.heap.size + 1) _ ⟨who + 1, .slice qa qn qc, (lkOf m o.lock).l⟩ (by first | omega | (simp; omega)) (by rw [HQN.out, ← EQ.out]; exact Firm.old fun W hW => HLK.out W hW) B8).mono ?_); rintro e w7 ⟨v7, rfl, hM7, b7⟩; have HM7 := zh hM7; have z7 := b7.size; have B9 := below2 B8 b7; obtain ⟨_, a6, c6, e6, _⟩ := lks_open (hM7.now (HG.out _ _ hb0 B9)).2.2.2.1; simp only [List.length_set] at e6; rw [← HN4.out] at e6; have E6 := zh e6; subst e6; have hBr7 := hBr3.below b7; have hBv7 := hBv3.below b7)
  | (refine list_store_blk rfl 40 _ _ rfl (w.heap.size + 1 + 1 + 1) _ _ 40 hBr7 rfl rfl (by kernel_rfl) rfl (by simp [Value.oneCell']) w.heap.size w B9 (by omega) ?_; intro w20 hR20 hoth20 hsz20 bw20)
  | (refine list_store_blk rfl 54 _ _ rfl (w.heap.size + 1 + 1 + 1 + 1) _ _ 54 (hoth20 _ _ _ (by omega) hBv7) rfl rfl (by kernel_rfl) rfl (by simp [Value.oneCell']) w.heap.size w bw20 (by omega) ?_; intro w21 hV21 hoth21 hsz21 bw21))
 have hR21 := hoth21 _ _ _ (by omega) hR20
 have HF := zh ((Firm.keep HM7.out (fun g arr T h1 hb => hoth21 _ _ _ (by omega) (hoth20 _ _ _ (by omega) hb))).from (by omega : B ≤ w2.heap.size + 1))
 obtain ⟨e90, e91, e92, e93, e94, e95⟩ := hR21.e6; obtain ⟨f90, f91, f92, f93, f94, f95, f96, f97, f98, f99, f910, f911, f912⟩ := hV21.e13
 exact bodyPost_ret (v := .tuple #[.agg #[.int .i64 x0, .int .i64 x1, .slice a1 n1 c1, .slice a2 n2 c2, .slice a3 n3 c3, .slice a6 n4 c6], .agg #[.int .i64 0, .bool false, .int .u64 0, .int .u64 0, .int .i64 0, .bool false, .int .i64 0, .int .i64 0, .int .i64 0, .int .i64 0, .int .i64 0, .slice none 0 0, .slice none 0 0]]) (by simp [results, Tryz.results14, go_sem, e90, e91, e92, e93, e94, e95, f90, f91, f92, f93, f94, f95, f96, f97, f98, f99, f910, f911, f912]) rfl ⟨⟨x0, x1, m.bans, m.book, m.parts, (.slice a6 n4 c6, m.locks.2.set n ⟨who + 1, .slice qa qn qc, (lkOf m o.lock).l⟩)⟩, zeroVm, (by first | (simp only [E1.out, E2.out, E3.out, ← HN1.out, ← HN2.out, ← HN3.out]; done) | (simp only [E1.out, E2.out, E3.out, ← HN1.out, ← HN2.out, ← HN3.out]; rfl)), (by rw [HX0.out, HX1.out]; exact HF.out), (Firm.old fun W _ => zeroVm_at W), (by rw [← HLN.out, lkOf_pl]; unfold Mm.pl lockedP setAt; simp only [HLN.out, if_pos (Int.natCast_nonneg n), Int.toNat_natCast, List.map_set, HX0.out, HX1.out]), rfl, bw21⟩

set_option maxHeartbeats 16000000 in
theorem memDo_2 (w0 : World → Prop) (hg : Grows w0) (B : Nat) (m : Mm) (o : Oq) (who : Int) (w : World) (hb0 : w0 w) (hB : B ≤ w.heap.size) (hm : ∀ W, w0 W → MmAt W m) (ho : OqAt w o) (hwho : 0 ≤ who ∧ who ≤ 100) (hmay : mayP m.pl o = true) (hk : o.kind = 2) (hll : m.locks.2.length = m.parts.2.length + 2) (hlen : m.locks.2.length ≤ 1000) (hok : ∀ k ∈ m.pl.locks, k.2.Pairwise (· < ·)) (hql : (lkOf m o.lock).l.length ≤ 1000) :
  DoC 14 w0 B m o who w := by
 unfold DoC
 have hres : doP m.pl o who = (lockedP m.pl o.lock ((lockP m.pl o.lock).1, riseP (lockP m.pl o.lock).2 who), zeroVp) := by unfold doP; rw [if_neg (by rw [hmay]; simp), if_neg (by omega), if_pos hk]
 rw [hres]
 clear hres
 unfold GivesDo
 have h := hm w hb0
 obtain ⟨HM, HG⟩ := zh2 hm hg
 have HMAY := zh (fun (W : World) (hb : Below w.heap.size w W) => memMay_any m o who W (h.below hb) (ho.below hb))
 rw [hmay] at HMAY
 have HL := zh (fun (W : World) (hb : Below w.heap.size w W) => memLock_any m o.lock W (h.below hb))
 have HLK := zh (fun (W : World) (hW : w0 W) => lkOf_at (hm W hW) o.lock)
 obtain ⟨n, hln, hn⟩ := lock_nat hmay (by omega) hll
 have HLD := zh (fun (B' : Nat) (W : World) (k : Lk) (hW : B' ≤ W.heap.size) (hK : Firm w0 B' W fun W => ReadsL inV 1 W k.v k.l) (hb : Below w.heap.size w W) => mem_locked_in w0 hg B' m n k W (hg _ _ hb0 hb) hW hm hK hn hlen)
 have HN := zh hn
 have hsq : (lkOf m o.lock).l.Pairwise (· < ·) := by
  rcases getAt_mem (l := m.pl.locks) (k := o.lock) (d := ((0 : Int), ([] : List Int))) with e | e
  ·have := hok _ e; rw [show getAt m.pl.locks o.lock (0, []) = lockP m.pl o.lock from rfl, lkOf_pl] at this; exact this
  ·rw [show getAt m.pl.locks o.lock (0, []) = lockP m.pl o.lock from rfl, lkOf_pl] at e; rw [(Prod.mk.inj e).2]; exact List.Pairwise.nil
 have HSH := zh (fun (W : World) (hb : Below w.heap.size w W) => memShared_any (lkOf m o.lock).v (lkOf m o.lock).l who W (ReadsL.below (lkOf_at h o.lock) hb) hsq hql)
 obtain ⟨_, qa, qc, eq, _⟩ := ins_open (lkOf_at h o.lock)
 obtain ⟨a1, a2, a3, a4, c1, c2, c3, c4, e1, e2, e3, e4⟩ := mm_slices h
 obtain ⟨_, oa, oc, eo, _⟩ := ba_open ho.1
 obtain ⟨_, ka, kc, ek, _⟩ := ey_open ho.2
 have hmm := zmm e1 e2 e3 e4
 have HMM := zh hmm
 obtain ⟨E1, E2, E3, E4, EQ, EO, EK⟩ := zh7 e1 e2 e3 e4 eq eo ek
 simp only [e1, e2, e3, e4, eo, ek, eq] at HMAY HL HLD HSH
 rw [e1, e2, e3, e4, eo, ek]
 clear e1 e2 e3 e4 eo ek hmm eq
 obtain ⟨x0, hx0, x1, hx1, n1, hn1, n2, hn2, n3, hn3, n4, hn4, nb, hnb, nk, hnk, qn, hqn, qb, hqb⟩ := nz10 m.inn m.out m.bans.2.length m.book.2.length m.parts.2.length m.locks.2.length o.bans.2.length o.book.2.length ((lkOf m o.lock).l.length) ((lkOf m o.lock).b)
 simp only [← hx0, ← hx1, ← hn1, ← hn2, ← hn3, ← hn4, ← hnb, ← hnk, ← hqn, ← hqb] at HMAY HL HLD HSH ⊢
 rw [← hx0, ← hx1, ← hn1, ← hn2, ← hn3, ← hn4] at HMM
 simp only [hln, hk] at HMAY HL ⊢
 have HLN := zh hln
 have hwr : IntKind.i64.wrap (who + 1) = who + 1 := by rw [IntKind.wrap_i64]; omega
 obtain ⟨HX0, HX1, HN1, HN2, HN3, HN4, HNB, HNK, HQN, HQB⟩ := zh10 hx0 hx1 hn1 hn2 hn3 hn4 hnb hnk hqn hqb
 clear h ho hm hg hmay hx0 hx1 hn1 hn2 hn3 hn4 hnb hnk hqn hqb hk hll hlen hn hln hwho hok hql hsq
 go_enter Tryz.func14, Tryz.ntmps14
 go_upto_region 1 with fail
 refine wpn5 fun W5 B5 hBm hBo hBw hBr hBv hs5 => ?_
 obtain ⟨m0, m1, m2, m3, m4, m5⟩ := hBm.e6; have k0 := hBw.c0
 have HBo := zh hBo
 go_upto_region 4 with (first
  | (refine list_load_blk rfl 56 _ rfl (w.heap.size + 1) _ 56 hBo rfl Tryz.underlying56 (by kernel_rfl) ?_)
  | (go_at_call 12; (with_reducible refine (HMAY.out _ B5).mono ?_); rintro e w1 ⟨rfl, b1⟩; have z1 := b1.size; have B6 := below2 B5 b1; have hBm1 := hBm.below b1; have hBo1 := hBo.below b1; have hBw1 := hBw.below b1; have hBr1 := hBr.below b1; have hBv1 := hBv.below b1; clear m0 m1 m2 m3 m4 m5 k0; obtain ⟨m0, m1, m2, m3, m4, m5⟩ := hBm1.e6; have mf := hBm1.frozen; have ml := hBm1.lt; obtain ⟨o0, o1⟩ := hBo1.e2)
  | (go_at_call 39; (with_reducible refine (HL.out _ B6).mono ?_); rintro e w2 ⟨rfl, b2⟩; have z2 := b2.size; have B7 := below2 B6 b2; have hBm2 := hBm1.below b2; have hBo2 := hBo1.below b2; have hBw2 := hBw1.below b2; have hBr2 := hBr1.below b2; have hBv2 := hBv1.below b2; clear m0 m1 m2 m3 m4 m5 mf ml o0 o1))
 refine wpn1 fun W3 bW2 hBl3 hs3 => ?_
 have B8 := below2 B7 bW2
 have hBm3 := hBm2.below bW2
 have hBo3 := hBo2.below bW2
 have hBw3 := hBw2.below bW2
 have hBr3 := hBr2.below bW2
 have hBv3 := hBv2.below bW2
 have hz3 : w.heap.size + 1 + 1 + 1 + 1 + 1 ≤ w2.heap.size := by omega
 clear hBm1 hBo1 hBw1 hBr1 hBv1 hBm2 hBo2 hBw2 hBr2 hBv2 hBm hBw hBr hBv hBo
 obtain ⟨m0, m1, m2, m3, m4, m5⟩ := hBm3.e6; have mf := hBm3.frozen; have ml := hBm3.lt; obtain ⟨o0, o1⟩ := hBo3.e2; have k0 := hBw3.c0; obtain ⟨l0, l1⟩ := hBl3.e2; have lf := hBl3.frozen; have ll := hBl3.lt
 go_upto_region 8 with fail
 refine wp_region_noPanic ?_
 have hS0 : (fun wq => wq.cell? ⟨w.heap.size, 0, none⟩ = some (.int .i64 x0) ∧ wq.cell? ⟨w.heap.size, 1, none⟩ = some (.int .i64 x1) ∧ wq.cell? ⟨w.heap.size, 2, none⟩ = some (.slice a1 n1 c1) ∧ wq.cell? ⟨w.heap.size, 3, none⟩ = some (.slice a2 n2 c2) ∧ wq.cell? ⟨w.heap.size, 4, none⟩ = some (.slice a3 n3 c3) ∧ wq.cell? ⟨w.heap.size, 5, none⟩ = some (.slice a4 n4 c4) ∧ wq.cell? ⟨w.heap.size + 1, 1, none⟩ = some (.int .i64 n) ∧ wq.cell? ⟨w.heap.size + 1 + 1, 0, none⟩ = some (.int .i64 who) ∧ wq.cell? ⟨w2.heap.size, 0, none⟩ = some (.int .i64 qb) ∧ wq.cell? ⟨w2.heap.size, 1, none⟩ = some (.slice qa qn qc)) W3.drew := by
  dsimp only
  (first | go_keep | (simp (disch := omega) [*]; done) | (simp (disch := first | omega | (simp; omega)) [World.cell?_setCell_far, World.cell?_alloc_past, *]; done) | (simp (disch := first | omega | (simp; omega)) [World.cell?_setCell_far, World.cell?_alloc_past, *]; repeat (first | exact rfl | refine ⟨rfl, ?_⟩)))
 refine wp_region_headH (fun wq => wq.cell? ⟨w.heap.size, 0, none⟩ = some (.int .i64 x0) ∧ wq.cell? ⟨w.heap.size, 1, none⟩ = some (.int .i64 x1) ∧ wq.cell? ⟨w.heap.size, 2, none⟩ = some (.slice a1 n1 c1) ∧ wq.cell? ⟨w.heap.size, 3, none⟩ = some (.slice a2 n2 c2) ∧ wq.cell? ⟨w.heap.size, 4, none⟩ = some (.slice a3 n3 c3) ∧ wq.cell? ⟨w.heap.size, 5, none⟩ = some (.slice a4 n4 c4) ∧ wq.cell? ⟨w.heap.size + 1, 1, none⟩ = some (.int .i64 n) ∧ wq.cell? ⟨w.heap.size + 1 + 1, 0, none⟩ = some (.int .i64 who) ∧ wq.cell? ⟨w2.heap.size, 0, none⟩ = some (.int .i64 qb) ∧ wq.cell? ⟨w2.heap.size, 1, none⟩ = some (.slice qa qn qc)) 13 (by kernel_rfl) (by kernel_rfl) ?_
 refine hP 0 rfl ?_
 refine hP 1 rfl ?_
 refine hP 2 rfl ?_
 refine hP 3 rfl ?_
 refine hP 4 rfl ?_
 refine hP 5 rfl ?_
 refine hP 6 rfl ?_
 refine hP 7 rfl ?_
 refine hP 11 rfl ?_
 refine headH_one (i := 8) rfl rfl (by kernel_rfl) (fun K hK => ?_)
 go_simp
 go_at_call 43
 refine (HSH.out _ (by first | exact B8 | exact bel)).mono ?_
 rintro e w6 ⟨a9, c9, rfl, hx9, b6⟩
 have HX9 := zh hx9
 have z6 := b6.size
 simp only [World.size_drew] at z6
 have B10 := below2 (w := w) (by first | exact B8 | exact bel) b6
 obtain ⟨hBm6, hBo6, hBw6, hBr6, hBv6, hBl6⟩ : BlockIs w6 w.heap.size [.int .i64 x0, .int .i64 x1, .slice a1 n1 c1, .slice a2 n2 c2, .slice a3 n3 c3, .slice a4 n4 c4] 40 ∧ BlockIs w6 (w.heap.size + 1) [.int .i64 2, .int .i64 n, .int .i64 o.lk, .int .i64 o.ls, .int .i64 o.lt, .int .i64 o.old, .int .i64 o.new, .int .i64 o.vn, .bool o.pe.en.ad.v6, .int .u64 o.pe.en.ad.hi, .int .u64 o.pe.en.ad.lo, .int .i64 o.pe.en.port, .bool o.pe.came, .int .i64 o.pe.since, .int .i64 o.pe.pts, .int .i64 o.pe.at_, .int .i64 o.pe.ping, .int .i64 o.pe.work, .slice oa nb oc, .slice ka nk kc, .bool o.mark] 56 ∧ BlockIs w6 (w.heap.size + 1 + 1) [.int .i64 who] 3 ∧ BlockIs w6 (w.heap.size + 1 + 1 + 1) [.int .i64 0, .int .i64 0, .slice none 0 0, .slice none 0 0, .slice none 0 0, .slice none 0 0] 40 ∧ BlockIs w6 (w.heap.size + 1 + 1 + 1 + 1) [.int .i64 0, .bool false, .int .u64 0, .int .u64 0, .int .i64 0, .bool false, .int .i64 0, .int .i64 0, .int .i64 0, .int .i64 0, .int .i64 0, .slice none 0 0, .slice none 0 0] 54 ∧ BlockIs w6 w2.heap.size [.int .i64 qb, .slice qa qn qc] 90 := ⟨hBm3.drew'.below b6, hBo3.drew'.below b6, hBw3.drew'.below b6, hBr3.drew'.below b6, hBv3.drew'.below b6, hBl3.drew'.below b6⟩
 clear hx9 m0 m1 m2 m3 m4 m5 mf ml o0 o1 k0 l0 l1 lf ll
 obtain ⟨m0, m1, m2, m3, m4, m5⟩ := hBm6.e6; have mf := hBm6.frozen; have ml := hBm6.lt; obtain ⟨o0, o1⟩ := hBo6.e2; have k0 := hBw6.c0; obtain ⟨l0, l1⟩ := hBl6.e2
 have HKS6 := zh (rise_firm (w0 := w0) (B := w2.heap.size + 1) HX9.out (by first | omega | (simp; omega)) (fun W hW => (by first | exact HLK.out W hW | (rw [HQN.out, ← EQ.out]; exact HLK.out W hW))))
 generalize hrn : (riseP (lkOf m o.lock).l who).length = rn at HKS6 ⊢
 generalize hrl : riseP (lkOf m o.lock).l who = rls at HKS6 hrn
 obtain ⟨HRL, HRN⟩ := zh2 hrl hrn
 clear hrl hrn HX9
 refine hK.out _ _ ?_ (fun hS8 => ?_)
 ·try dsimp only
  (first | go_keep | (simp (disch := omega) [*]; done) | (simp (disch := first | omega | (simp; omega)) [World.cell?_setCell_far, World.cell?_alloc_past, *]; done) | (simp (disch := first | omega | (simp; omega)) [World.cell?_setCell_far, World.cell?_alloc_past, *]; repeat (first | exact rfl | refine ⟨rfl, ?_⟩)))
 clear hK K
 try simp only [Act.put, zs1, zs2, zs3]
 refine hP 9 rfl ?_
 refine headH_one (i := 10) rfl rfl (by kernel_rfl) (fun K hK => ?_)
 go_simp
 (go_at_call 42; (with_reducible refine (HLD.out (w2.heap.size + 1) _ ⟨qb, .slice a9 rn c9, rls⟩ (by first | omega | (simp; omega)) HKS6.out B10).mono ?_); rintro e w7 ⟨v7, rfl, hM7, b7⟩; have HM7 := zh hM7; have z7 := b7.size; have B9 := below2 (w := w) B10 b7; obtain ⟨_, a6, c6, e6, _⟩ := lks_open (hM7.now (HG.out _ _ hb0 B9)).2.2.2.1; simp only [List.length_set] at e6; rw [← HN4.out] at e6; have E6 := zh e6; subst e6; have hBr7 := hBr6.below b7; have hBv7 := hBv6.below b7)
 have hBm7 := hBm6.below b7; have hBo7 := hBo6.below b7; have hBw7 := hBw6.below b7; have hBl7 := hBl6.below b7
 clear m0 m1 m2 m3 m4 m5 mf ml o0 o1 k0 l0 l1
 obtain ⟨m0, m1, m2, m3, m4, m5⟩ := hBm7.e6; have mf := hBm7.frozen; have ml := hBm7.lt; obtain ⟨o0, o1⟩ := hBo7.e2; have k0 := hBw7.c0; obtain ⟨r0, r1, r2, r3, r4, r5⟩ := hBr7.e6; have rf := hBr7.frozen; have rl := hBr7.lt; obtain ⟨l0, l1⟩ := hBl7.e2
 refine hK.out _ _ ?_ (fun hS10 => ?_)
 ·try dsimp only
  (first | go_keep | (simp (disch := omega) [*]; done) | (simp (disch := first | omega | (simp; omega)) [World.cell?_setCell_far, World.cell?_alloc_past, *]; done) | (simp (disch := first | omega | (simp; omega)) [World.cell?_setCell_far, World.cell?_alloc_past, *]; repeat (first | exact rfl | refine ⟨rfl, ?_⟩)))
 clear hK K
 try simp only [Act.put, zs1, zs2, zs3]
 refine headH_one (i := 12) rfl rfl (by kernel_rfl) (fun K hK => ?_)
 go_simp
 refine named_world (K := K) fun w20 h20 => ?_
 have hR20 : BlockIs w20 (w.heap.size + 1 + 1 + 1) [.int .i64 x0, .int .i64 x1, .slice a1 n1 c1, .slice a2 n2 c2, .slice a3 n3 c3, .slice a6 n4 c6] 40 := by subst h20; exact rcx hBr7
 have bw20 : Below w.heap.size w w20 := by subst h20; exact bel
 have hoth20 : ∀ k arr u, k ≠ w.heap.size + 1 + 1 + 1 → BlockIs w7 k arr u → BlockIs w20 k arr u := by
  subst h20
  intro k arr u hk hb
  have hk' := Ne.symm hk
  exact rcx hb
 clear h20
 have hBm20 := hoth20 _ _ _ (by omega) hBm7; have hBo20 := hoth20 _ _ _ (by omega) hBo7; have hBw20 := hoth20 _ _ _ (by omega) hBw7; have hBl20 := hoth20 _ _ _ (by omega) hBl7
 clear m0 m1 m2 m3 m4 m5 mf ml o0 o1 k0 l0 l1 r0 r1 r2 r3 r4 r5 rf rl
 obtain ⟨m0, m1, m2, m3, m4, m5⟩ := hBm20.e6; have mf := hBm20.frozen; have ml := hBm20.lt; obtain ⟨o0, o1⟩ := hBo20.e2; have k0 := hBw20.c0; obtain ⟨l0, l1⟩ := hBl20.e2
 refine hK.out _ _ ?_ (fun hS12 => ?_)
 ·try dsimp only
  (repeat' apply And.intro) <;> assumption
 clear hK K
 try simp only [Act.put, zs1, zs2, zs3]
 refine headH_done (by kernel_rfl) ?_
 simp only [List.drop_succ_cons, List.drop_zero]
 go_wp2_with (first
  | (refine list_store_blk rfl 54 _ _ rfl (w.heap.size + 1 + 1 + 1 + 1) _ _ 54 (hoth20 _ _ _ (by omega) hBv7) rfl rfl (by kernel_rfl) rfl (by simp [Value.oneCell']) w.heap.size w bw20 (by omega) ?_; intro w21 hV21 hoth21 hsz21 bw21))
 refine NoPanic.normal ?_
 go_wp2_with fail
 have hR21 := hoth21 _ _ _ (by omega) hR20
 have HF := zh ((Firm.keep HM7.out (fun g arr T h1 hb => hoth21 _ _ _ (by omega) (hoth20 _ _ _ (by omega) hb))).from (by omega : B ≤ w2.heap.size + 1))
 obtain ⟨e90, e91, e92, e93, e94, e95⟩ := hR21.e6; obtain ⟨f90, f91, f92, f93, f94, f95, f96, f97, f98, f99, f910, f911, f912⟩ := hV21.e13
 exact bodyPost_ret (v := .tuple #[.agg #[.int .i64 x0, .int .i64 x1, .slice a1 n1 c1, .slice a2 n2 c2, .slice a3 n3 c3, .slice a6 n4 c6], .agg #[.int .i64 0, .bool false, .int .u64 0, .int .u64 0, .int .i64 0, .bool false, .int .i64 0, .int .i64 0, .int .i64 0, .int .i64 0, .int .i64 0, .slice none 0 0, .slice none 0 0]]) (by simp [results, Tryz.results14, go_sem, e90, e91, e92, e93, e94, e95, f90, f91, f92, f93, f94, f95, f96, f97, f98, f99, f910, f911, f912]) rfl ⟨⟨x0, x1, m.bans, m.book, m.parts, (.slice a6 n4 c6, m.locks.2.set n ⟨qb, .slice a9 rn c9, rls⟩)⟩, zeroVm, (by first | (simp only [E1.out, E2.out, E3.out, ← HN1.out, ← HN2.out, ← HN3.out]; done) | (simp only [E1.out, E2.out, E3.out, ← HN1.out, ← HN2.out, ← HN3.out]; rfl)), (by rw [HX0.out, HX1.out]; exact HF.out), (Firm.old fun W _ => zeroVm_at W), (by rw [← HLN.out, lkOf_pl]; unfold Mm.pl lockedP setAt; simp only [HLN.out, if_pos (Int.natCast_nonneg n), Int.toNat_natCast, List.map_set, HX0.out, HX1.out, HQB.out, ← HRL.out]), rfl, bw21⟩

set_option maxHeartbeats 16000000 in
theorem memDo_3y (w0 : World → Prop) (hg : Grows w0) (B : Nat) (m : Mm) (o : Oq) (who : Int) (w : World) (hb0 : w0 w) (hB : B ≤ w.heap.size) (hm : ∀ W, w0 W → MmAt W m) (ho : OqAt w o) (hwho : 0 ≤ who ∧ who ≤ 100) (hmay : mayP m.pl o = true) (hk : o.kind = 3) (hll : m.locks.2.length = m.parts.2.length + 2) (hlen : m.locks.2.length ≤ 1000) (hby : (lkOf m o.lock).b = who + 1) :
  DoC 14 w0 B m o who w := by
 unfold DoC
 have hres : doP m.pl o who = (lockedP m.pl o.lock (0, (lockP m.pl o.lock).2), zeroVp) := by unfold doP; rw [if_neg (by rw [hmay]; simp), if_neg (by omega), if_neg (by omega), if_pos hk, if_pos (by rw [lkOf_pl]; exact hby)]
 rw [hres]
 clear hres
 unfold GivesDo
 have h := hm w hb0
 obtain ⟨HM, HG⟩ := zh2 hm hg
 have HMAY := zh (fun (W : World) (hb : Below w.heap.size w W) => memMay_any m o who W (h.below hb) (ho.below hb))
 rw [hmay] at HMAY
 have HL := zh (fun (W : World) (hb : Below w.heap.size w W) => memLock_any m o.lock W (h.below hb))
 have HLK := zh (fun (W : World) (hW : w0 W) => lkOf_at (hm W hW) o.lock)
 obtain ⟨n, hln, hn⟩ := lock_nat hmay (by omega) hll
 have HLD := zh (fun (B' : Nat) (W : World) (k : Lk) (hW : B' ≤ W.heap.size) (hK : Firm w0 B' W fun W => ReadsL inV 1 W k.v k.l) (hb : Below w.heap.size w W) => mem_locked_in w0 hg B' m n k W (hg _ _ hb0 hb) hW hm hK hn hlen)
 have HN := zh hn
 obtain ⟨_, qa, qc, eq, _⟩ := ins_open (lkOf_at h o.lock)
 obtain ⟨a1, a2, a3, a4, c1, c2, c3, c4, e1, e2, e3, e4⟩ := mm_slices h
 obtain ⟨_, oa, oc, eo, _⟩ := ba_open ho.1
 obtain ⟨_, ka, kc, ek, _⟩ := ey_open ho.2
 have hmm := zmm e1 e2 e3 e4
 have HMM := zh hmm
 obtain ⟨E1, E2, E3, E4, EQ, EO, EK⟩ := zh7 e1 e2 e3 e4 eq eo ek
 simp only [e1, e2, e3, e4, eo, ek, eq] at HMAY HL HLD
 rw [e1, e2, e3, e4, eo, ek]
 clear e1 e2 e3 e4 eo ek hmm eq
 obtain ⟨x0, hx0, x1, hx1, n1, hn1, n2, hn2, n3, hn3, n4, hn4, nb, hnb, nk, hnk, qn, hqn, qb, hqb⟩ := nz10 m.inn m.out m.bans.2.length m.book.2.length m.parts.2.length m.locks.2.length o.bans.2.length o.book.2.length ((lkOf m o.lock).l.length) ((lkOf m o.lock).b)
 simp only [← hx0, ← hx1, ← hn1, ← hn2, ← hn3, ← hn4, ← hnb, ← hnk, ← hqn, ← hqb] at HMAY HL HLD ⊢
 rw [← hx0, ← hx1, ← hn1, ← hn2, ← hn3, ← hn4] at HMM
 simp only [hln, hk] at HMAY HL ⊢
 have HLN := zh hln
 have hwr : IntKind.i64.wrap (who + 1) = who + 1 := by rw [IntKind.wrap_i64]; omega
 rw [← hqb] at hby
 have f9 : (qb == who + 1) = true := by simpa using hby
 obtain ⟨HX0, HX1, HN1, HN2, HN3, HN4, HNB, HNK, HQN, HQB⟩ := zh10 hx0 hx1 hn1 hn2 hn3 hn4 hnb hnk hqn hqb
 clear h ho hm hg hmay hx0 hx1 hn1 hn2 hn3 hn4 hnb hnk hqn hqb hk hll hlen hn hln hwho hby
 go_enter Tryz.func14, Tryz.ntmps14
 go_upto_region 1 with fail
 refine wpn5 fun W5 B5 hBm hBo hBw hBr hBv hs5 => ?_
 obtain ⟨m0, m1, m2, m3, m4, m5⟩ := hBm.e6; have k0 := hBw.c0
 have HBo := zh hBo
 go_upto_region 4 with (first
  | (refine list_load_blk rfl 56 _ rfl (w.heap.size + 1) _ 56 hBo rfl Tryz.underlying56 (by kernel_rfl) ?_)
  | (go_at_call 12; (with_reducible refine (HMAY.out _ B5).mono ?_); rintro e w1 ⟨rfl, b1⟩; have z1 := b1.size; have B6 := below2 B5 b1; have hBm1 := hBm.below b1; have hBo1 := hBo.below b1; have hBw1 := hBw.below b1; have hBr1 := hBr.below b1; have hBv1 := hBv.below b1; clear m0 m1 m2 m3 m4 m5 k0; obtain ⟨m0, m1, m2, m3, m4, m5⟩ := hBm1.e6; have mf := hBm1.frozen; have ml := hBm1.lt; obtain ⟨o0, o1⟩ := hBo1.e2)
  | (go_at_call 39; (with_reducible refine (HL.out _ B6).mono ?_); rintro e w2 ⟨rfl, b2⟩; have z2 := b2.size; have B7 := below2 B6 b2; have hBm2 := hBm1.below b2; have hBo2 := hBo1.below b2; have hBw2 := hBw1.below b2; have hBr2 := hBr1.below b2; have hBv2 := hBv1.below b2; clear m0 m1 m2 m3 m4 m5 mf ml o0 o1))
 refine wpn1 fun W3 bW2 hBl3 hs3 => ?_
 have B8 := below2 B7 bW2
 have hBm3 := hBm2.below bW2
 have hBo3 := hBo2.below bW2
 have hBw3 := hBw2.below bW2
 have hBr3 := hBr2.below bW2
 have hBv3 := hBv2.below bW2
 have hz3 : w.heap.size + 1 + 1 + 1 + 1 + 1 ≤ w2.heap.size := by omega
 clear hBm1 hBo1 hBw1 hBr1 hBv1 hBm2 hBo2 hBw2 hBr2 hBv2 hBm hBw hBr hBv hBo
 obtain ⟨m0, m1, m2, m3, m4, m5⟩ := hBm3.e6; have mf := hBm3.frozen; have ml := hBm3.lt; obtain ⟨o0, o1⟩ := hBo3.e2; have k0 := hBw3.c0; obtain ⟨l0, l1⟩ := hBl3.e2; have lf := hBl3.frozen; have ll := hBl3.lt
 go_wp2_with (first
  | (go_at_call 42; (with_reducible refine (HLD.out (w2.heap.size + 1) _ ⟨0, .slice qa qn qc, (lkOf m o.lock).l⟩ (by first | omega | (simp; omega)) (by rw [HQN.out, ← EQ.out]; exact Firm.old fun W hW => HLK.out W hW) (by exact bel)).mono ?_); rintro e w7 ⟨v7, rfl, hM7, b7⟩; have HM7 := zh hM7; have z7 := b7.size; have B9 := below2 (w := w) (by exact bel) b7; obtain ⟨_, a6, c6, e6, _⟩ := lks_open (hM7.now (HG.out _ _ hb0 B9)).2.2.2.1; simp only [List.length_set] at e6; rw [← HN4.out] at e6; have E6 := zh e6; subst e6; have hBr7 := (show BlockIs _ (w.heap.size + 1 + 1 + 1) [.int .i64 0, .int .i64 0, .slice none 0 0, .slice none 0 0, .slice none 0 0, .slice none 0 0] 40 from (by exact rcx hBr3)).below b7; have hBv7 := (show BlockIs _ (w.heap.size + 1 + 1 + 1 + 1) [.int .i64 0, .bool false, .int .u64 0, .int .u64 0, .int .i64 0, .bool false, .int .i64 0, .int .i64 0, .int .i64 0, .int .i64 0, .int .i64 0, .slice none 0 0, .slice none 0 0] 54 from (by exact rcx hBv3)).below b7)
  | (refine list_store_blk rfl 40 _ _ rfl (w.heap.size + 1 + 1 + 1) _ _ 40 hBr7 rfl rfl (by kernel_rfl) rfl (by simp [Value.oneCell']) w.heap.size w B9 (by omega) ?_; intro w20 hR20 hoth20 hsz20 bw20)
  | (refine list_store_blk rfl 54 _ _ rfl (w.heap.size + 1 + 1 + 1 + 1) _ _ 54 (hoth20 _ _ _ (by omega) hBv7) rfl rfl (by kernel_rfl) rfl (by simp [Value.oneCell']) w.heap.size w bw20 (by omega) ?_; intro w21 hV21 hoth21 hsz21 bw21))
 have hR21 := hoth21 _ _ _ (by omega) hR20
 have HF := zh ((Firm.keep HM7.out (fun g arr T h1 hb => hoth21 _ _ _ (by omega) (hoth20 _ _ _ (by omega) hb))).from (by omega : B ≤ w2.heap.size + 1))
 obtain ⟨e90, e91, e92, e93, e94, e95⟩ := hR21.e6; obtain ⟨f90, f91, f92, f93, f94, f95, f96, f97, f98, f99, f910, f911, f912⟩ := hV21.e13
 exact bodyPost_ret (v := .tuple #[.agg #[.int .i64 x0, .int .i64 x1, .slice a1 n1 c1, .slice a2 n2 c2, .slice a3 n3 c3, .slice a6 n4 c6], .agg #[.int .i64 0, .bool false, .int .u64 0, .int .u64 0, .int .i64 0, .bool false, .int .i64 0, .int .i64 0, .int .i64 0, .int .i64 0, .int .i64 0, .slice none 0 0, .slice none 0 0]]) (by simp [results, Tryz.results14, go_sem, e90, e91, e92, e93, e94, e95, f90, f91, f92, f93, f94, f95, f96, f97, f98, f99, f910, f911, f912]) rfl ⟨⟨x0, x1, m.bans, m.book, m.parts, (.slice a6 n4 c6, m.locks.2.set n ⟨0, .slice qa qn qc, (lkOf m o.lock).l⟩)⟩, zeroVm, (by first | (simp only [E1.out, E2.out, E3.out, ← HN1.out, ← HN2.out, ← HN3.out]; done) | (simp only [E1.out, E2.out, E3.out, ← HN1.out, ← HN2.out, ← HN3.out]; rfl)), (by rw [HX0.out, HX1.out]; exact HF.out), (Firm.old fun W _ => zeroVm_at W), (by rw [← HLN.out, lkOf_pl]; unfold Mm.pl lockedP setAt; simp only [HLN.out, if_pos (Int.natCast_nonneg n), Int.toNat_natCast, List.map_set, HX0.out, HX1.out, HQB.out]), rfl, bw21⟩
set_option maxHeartbeats 16000000 in
theorem memDo_3n (w0 : World → Prop) (hg : Grows w0) (B : Nat) (m : Mm) (o : Oq) (who : Int) (w : World) (hb0 : w0 w) (hB : B ≤ w.heap.size) (hm : ∀ W, w0 W → MmAt W m) (ho : OqAt w o) (hwho : 0 ≤ who ∧ who ≤ 100) (hmay : mayP m.pl o = true) (hk : o.kind = 3) (hll : m.locks.2.length = m.parts.2.length + 2) (hlen : m.locks.2.length ≤ 1000) (hby : ¬ (lkOf m o.lock).b = who + 1) :
  DoC 14 w0 B m o who w := by
 unfold DoC
 have hres : doP m.pl o who = (lockedP m.pl o.lock ((lockP m.pl o.lock).1, (lockP m.pl o.lock).2), zeroVp) := by unfold doP; rw [if_neg (by rw [hmay]; simp), if_neg (by omega), if_neg (by omega), if_pos hk, if_neg (by rw [lkOf_pl]; exact hby)]
 rw [hres]
 clear hres
 unfold GivesDo
 have h := hm w hb0
 obtain ⟨HM, HG⟩ := zh2 hm hg
 have HMAY := zh (fun (W : World) (hb : Below w.heap.size w W) => memMay_any m o who W (h.below hb) (ho.below hb))
 rw [hmay] at HMAY
 have HL := zh (fun (W : World) (hb : Below w.heap.size w W) => memLock_any m o.lock W (h.below hb))
 have HLK := zh (fun (W : World) (hW : w0 W) => lkOf_at (hm W hW) o.lock)
 obtain ⟨n, hln, hn⟩ := lock_nat hmay (by omega) hll
 have HLD := zh (fun (B' : Nat) (W : World) (k : Lk) (hW : B' ≤ W.heap.size) (hK : Firm w0 B' W fun W => ReadsL inV 1 W k.v k.l) (hb : Below w.heap.size w W) => mem_locked_in w0 hg B' m n k W (hg _ _ hb0 hb) hW hm hK hn hlen)
 have HN := zh hn
 obtain ⟨_, qa, qc, eq, _⟩ := ins_open (lkOf_at h o.lock)
 obtain ⟨a1, a2, a3, a4, c1, c2, c3, c4, e1, e2, e3, e4⟩ := mm_slices h
 obtain ⟨_, oa, oc, eo, _⟩ := ba_open ho.1
 obtain ⟨_, ka, kc, ek, _⟩ := ey_open ho.2
 have hmm := zmm e1 e2 e3 e4
 have HMM := zh hmm
 obtain ⟨E1, E2, E3, E4, EQ, EO, EK⟩ := zh7 e1 e2 e3 e4 eq eo ek
 simp only [e1, e2, e3, e4, eo, ek, eq] at HMAY HL HLD
 rw [e1, e2, e3, e4, eo, ek]
 clear e1 e2 e3 e4 eo ek hmm eq
 obtain ⟨x0, hx0, x1, hx1, n1, hn1, n2, hn2, n3, hn3, n4, hn4, nb, hnb, nk, hnk, qn, hqn, qb, hqb⟩ := nz10 m.inn m.out m.bans.2.length m.book.2.length m.parts.2.length m.locks.2.length o.bans.2.length o.book.2.length ((lkOf m o.lock).l.length) ((lkOf m o.lock).b)
 simp only [← hx0, ← hx1, ← hn1, ← hn2, ← hn3, ← hn4, ← hnb, ← hnk, ← hqn, ← hqb] at HMAY HL HLD ⊢
 rw [← hx0, ← hx1, ← hn1, ← hn2, ← hn3, ← hn4] at HMM
 simp only [hln, hk] at HMAY HL ⊢
 have HLN := zh hln
 have hwr : IntKind.i64.wrap (who + 1) = who + 1 := by rw [IntKind.wrap_i64]; omega
 rw [← hqb] at hby
 have f9 : (qb == who + 1) = false := by simpa using hby
 obtain ⟨HX0, HX1, HN1, HN2, HN3, HN4, HNB, HNK, HQN, HQB⟩ := zh10 hx0 hx1 hn1 hn2 hn3 hn4 hnb hnk hqn hqb
 clear h ho hm hg hmay hx0 hx1 hn1 hn2 hn3 hn4 hnb hnk hqn hqb hk hll hlen hn hln hwho hby
 go_enter Tryz.func14, Tryz.ntmps14
 go_upto_region 1 with fail
 refine wpn5 fun W5 B5 hBm hBo hBw hBr hBv hs5 => ?_
 obtain ⟨m0, m1, m2, m3, m4, m5⟩ := hBm.e6; have k0 := hBw.c0
 have HBo := zh hBo
 go_upto_region 4 with (first
  | (refine list_load_blk rfl 56 _ rfl (w.heap.size + 1) _ 56 hBo rfl Tryz.underlying56 (by kernel_rfl) ?_)
  | (go_at_call 12; (with_reducible refine (HMAY.out _ B5).mono ?_); rintro e w1 ⟨rfl, b1⟩; have z1 := b1.size; have B6 := below2 B5 b1; have hBm1 := hBm.below b1; have hBo1 := hBo.below b1; have hBw1 := hBw.below b1; have hBr1 := hBr.below b1; have hBv1 := hBv.below b1; clear m0 m1 m2 m3 m4 m5 k0; obtain ⟨m0, m1, m2, m3, m4, m5⟩ := hBm1.e6; have mf := hBm1.frozen; have ml := hBm1.lt; obtain ⟨o0, o1⟩ := hBo1.e2)
  | (go_at_call 39; (with_reducible refine (HL.out _ B6).mono ?_); rintro e w2 ⟨rfl, b2⟩; have z2 := b2.size; have B7 := below2 B6 b2; have hBm2 := hBm1.below b2; have hBo2 := hBo1.below b2; have hBw2 := hBw1.below b2; have hBr2 := hBr1.below b2; have hBv2 := hBv1.below b2; clear m0 m1 m2 m3 m4 m5 mf ml o0 o1))
 refine wpn1 fun W3 bW2 hBl3 hs3 => ?_
 have B8 := below2 B7 bW2
 have hBm3 := hBm2.below bW2
 have hBo3 := hBo2.below bW2
 have hBw3 := hBw2.below bW2
 have hBr3 := hBr2.below bW2
 have hBv3 := hBv2.below bW2
 have hz3 : w.heap.size + 1 + 1 + 1 + 1 + 1 ≤ w2.heap.size := by omega
 clear hBm1 hBo1 hBw1 hBr1 hBv1 hBm2 hBo2 hBw2 hBr2 hBv2 hBm hBw hBr hBv hBo
 obtain ⟨m0, m1, m2, m3, m4, m5⟩ := hBm3.e6; have mf := hBm3.frozen; have ml := hBm3.lt; obtain ⟨o0, o1⟩ := hBo3.e2; have k0 := hBw3.c0; obtain ⟨l0, l1⟩ := hBl3.e2; have lf := hBl3.frozen; have ll := hBl3.lt
 go_wp2_with (first
  | (go_at_call 42; (with_reducible refine (HLD.out (w2.heap.size + 1) _ ⟨qb, .slice qa qn qc, (lkOf m o.lock).l⟩ (by first | omega | (simp; omega)) (by rw [HQN.out, ← EQ.out]; exact Firm.old fun W hW => HLK.out W hW) B8).mono ?_); rintro e w7 ⟨v7, rfl, hM7, b7⟩; have HM7 := zh hM7; have z7 := b7.size; have B9 := below2 B8 b7; obtain ⟨_, a6, c6, e6, _⟩ := lks_open (hM7.now (HG.out _ _ hb0 B9)).2.2.2.1; simp only [List.length_set] at e6; rw [← HN4.out] at e6; have E6 := zh e6; subst e6; have hBr7 := hBr3.below b7; have hBv7 := hBv3.below b7)
  | (refine list_store_blk rfl 40 _ _ rfl (w.heap.size + 1 + 1 + 1) _ _ 40 hBr7 rfl rfl (by kernel_rfl) rfl (by simp [Value.oneCell']) w.heap.size w B9 (by omega) ?_; intro w20 hR20 hoth20 hsz20 bw20)
  | (refine list_store_blk rfl 54 _ _ rfl (w.heap.size + 1 + 1 + 1 + 1) _ _ 54 (hoth20 _ _ _ (by omega) hBv7) rfl rfl (by kernel_rfl) rfl (by simp [Value.oneCell']) w.heap.size w bw20 (by omega) ?_; intro w21 hV21 hoth21 hsz21 bw21))
 have hR21 := hoth21 _ _ _ (by omega) hR20
 have HF := zh ((Firm.keep HM7.out (fun g arr T h1 hb => hoth21 _ _ _ (by omega) (hoth20 _ _ _ (by omega) hb))).from (by omega : B ≤ w2.heap.size + 1))
 obtain ⟨e90, e91, e92, e93, e94, e95⟩ := hR21.e6; obtain ⟨f90, f91, f92, f93, f94, f95, f96, f97, f98, f99, f910, f911, f912⟩ := hV21.e13
 exact bodyPost_ret (v := .tuple #[.agg #[.int .i64 x0, .int .i64 x1, .slice a1 n1 c1, .slice a2 n2 c2, .slice a3 n3 c3, .slice a6 n4 c6], .agg #[.int .i64 0, .bool false, .int .u64 0, .int .u64 0, .int .i64 0, .bool false, .int .i64 0, .int .i64 0, .int .i64 0, .int .i64 0, .int .i64 0, .slice none 0 0, .slice none 0 0]]) (by simp [results, Tryz.results14, go_sem, e90, e91, e92, e93, e94, e95, f90, f91, f92, f93, f94, f95, f96, f97, f98, f99, f910, f911, f912]) rfl ⟨⟨x0, x1, m.bans, m.book, m.parts, (.slice a6 n4 c6, m.locks.2.set n ⟨qb, .slice qa qn qc, (lkOf m o.lock).l⟩)⟩, zeroVm, (by first | (simp only [E1.out, E2.out, E3.out, ← HN1.out, ← HN2.out, ← HN3.out]; done) | (simp only [E1.out, E2.out, E3.out, ← HN1.out, ← HN2.out, ← HN3.out]; rfl)), (by rw [HX0.out, HX1.out]; exact HF.out), (Firm.old fun W _ => zeroVm_at W), (by rw [← HLN.out, lkOf_pl]; unfold Mm.pl lockedP setAt; simp only [HLN.out, if_pos (Int.natCast_nonneg n), Int.toNat_natCast, List.map_set, HX0.out, HX1.out, HQB.out]), rfl, bw21⟩

set_option maxHeartbeats 16000000 in
theorem memDo_4 (w0 : World → Prop) (hg : Grows w0) (B : Nat) (m : Mm) (o : Oq) (who : Int) (w : World) (hb0 : w0 w) (hB : B ≤ w.heap.size) (hm : ∀ W, w0 W → MmAt W m) (ho : OqAt w o) (hwho : 0 ≤ who ∧ who ≤ 100) (hmay : mayP m.pl o = true) (hk : o.kind = 4) (hll : m.locks.2.length = m.parts.2.length + 2) (hlen : m.locks.2.length ≤ 1000) (hql : (lkOf m o.lock).l.length ≤ 1000) :
  DoC 14 w0 B m o who w := by
 unfold DoC
 have hres : doP m.pl o who = (lockedP m.pl o.lock ((lockP m.pl o.lock).1, (lockP m.pl o.lock).2.filter fun x => !decide (x = who)), zeroVp) := by unfold doP; rw [if_neg (by rw [hmay]; simp), if_neg (by omega), if_neg (by omega), if_neg (by omega), if_pos hk]
 rw [hres]
 clear hres
 unfold GivesDo
 have h := hm w hb0
 obtain ⟨HM, HG⟩ := zh2 hm hg
 have HMAY := zh (fun (W : World) (hb : Below w.heap.size w W) => memMay_any m o who W (h.below hb) (ho.below hb))
 rw [hmay] at HMAY
 have HL := zh (fun (W : World) (hb : Below w.heap.size w W) => memLock_any m o.lock W (h.below hb))
 have HLK := zh (fun (W : World) (hW : w0 W) => lkOf_at (hm W hW) o.lock)
 obtain ⟨n, hln, hn⟩ := lock_nat hmay (by omega) hll
 have HLD := zh (fun (B' : Nat) (W : World) (k : Lk) (hW : B' ≤ W.heap.size) (hK : Firm w0 B' W fun W => ReadsL inV 1 W k.v k.l) (hb : Below w.heap.size w W) => mem_locked_in w0 hg B' m n k W (hg _ _ hb0 hb) hW hm hK hn hlen)
 have HN := zh hn
 have HCL := zh (fun (W : World) (hb : Below w.heap.size w W) => cloneI (lkOf m o.lock).v (lkOf m o.lock).l.length ((lkOf m o.lock).l.flatMap inV) W (ReadsL.below (lkOf_at h o.lock) hb) (inV_ones _) (by omega))
 have HDF := zh (fun (v : Value) (base : Nat) (W : World) (hown : W.ownsRow base 3 1 v (lkOf m o.lock).l.length ((lkOf m o.lock).l.flatMap inV)) (hbase : base ≤ W.heap.size) (hc : W.cell? ⟨w.heap.size + 1 + 1, 0, none⟩ = some (.int .i64 who)) (hlt : w.heap.size + 1 + 1 < base) => intDeleteFunc 46 #[.pointer (some ⟨w.heap.size + 1 + 1, 0, none⟩)] (fun x => decide (x = who)) v (lkOf m o.lock).l base W hown hbase (by omega) (fun W' x hb => memDo_clo x who _ W' (keep hb hlt hc) (by have := hb.size; omega)) (enters_of Tryz.func46 (by kernel_rfl) rfl))
 obtain ⟨_, qa, qc, eq, _⟩ := ins_open (lkOf_at h o.lock)
 obtain ⟨a1, a2, a3, a4, c1, c2, c3, c4, e1, e2, e3, e4⟩ := mm_slices h
 obtain ⟨_, oa, oc, eo, _⟩ := ba_open ho.1
 obtain ⟨_, ka, kc, ek, _⟩ := ey_open ho.2
 have hmm := zmm e1 e2 e3 e4
 have HMM := zh hmm
 obtain ⟨E1, E2, E3, E4, EQ, EO, EK⟩ := zh7 e1 e2 e3 e4 eq eo ek
 simp only [e1, e2, e3, e4, eo, ek, eq] at HMAY HL HLD HCL
 rw [e1, e2, e3, e4, eo, ek]
 clear e1 e2 e3 e4 eo ek hmm eq
 obtain ⟨x0, hx0, x1, hx1, n1, hn1, n2, hn2, n3, hn3, n4, hn4, nb, hnb, nk, hnk, qn, hqn, qb, hqb⟩ := nz10 m.inn m.out m.bans.2.length m.book.2.length m.parts.2.length m.locks.2.length o.bans.2.length o.book.2.length ((lkOf m o.lock).l.length) ((lkOf m o.lock).b)
 simp only [← hx0, ← hx1, ← hn1, ← hn2, ← hn3, ← hn4, ← hnb, ← hnk, ← hqn, ← hqb] at HMAY HL HLD HCL ⊢
 rw [← hx0, ← hx1, ← hn1, ← hn2, ← hn3, ← hn4] at HMM
 simp only [hln, hk] at HMAY HL ⊢
 have HLN := zh hln
 have hwr : IntKind.i64.wrap (who + 1) = who + 1 := by rw [IntKind.wrap_i64]; omega
 obtain ⟨HX0, HX1, HN1, HN2, HN3, HN4, HNB, HNK, HQN, HQB⟩ := zh10 hx0 hx1 hn1 hn2 hn3 hn4 hnb hnk hqn hqb
 clear h ho hm hg hmay hx0 hx1 hn1 hn2 hn3 hn4 hnb hnk hqn hqb hk hll hlen hn hln hwho hql
 go_enter Tryz.func14, Tryz.ntmps14
 go_upto_region 1 with fail
 refine wpn5 fun W5 B5 hBm hBo hBw hBr hBv hs5 => ?_
 obtain ⟨m0, m1, m2, m3, m4, m5⟩ := hBm.e6; have k0 := hBw.c0
 have HBo := zh hBo
 go_upto_region 4 with (first
  | (refine list_load_blk rfl 56 _ rfl (w.heap.size + 1) _ 56 hBo rfl Tryz.underlying56 (by kernel_rfl) ?_)
  | (go_at_call 12; (with_reducible refine (HMAY.out _ B5).mono ?_); rintro e w1 ⟨rfl, b1⟩; have z1 := b1.size; have B6 := below2 B5 b1; have hBm1 := hBm.below b1; have hBo1 := hBo.below b1; have hBw1 := hBw.below b1; have hBr1 := hBr.below b1; have hBv1 := hBv.below b1; clear m0 m1 m2 m3 m4 m5 k0; obtain ⟨m0, m1, m2, m3, m4, m5⟩ := hBm1.e6; have mf := hBm1.frozen; have ml := hBm1.lt; obtain ⟨o0, o1⟩ := hBo1.e2)
  | (go_at_call 39; (with_reducible refine (HL.out _ B6).mono ?_); rintro e w2 ⟨rfl, b2⟩; have z2 := b2.size; have B7 := below2 B6 b2; have hBm2 := hBm1.below b2; have hBo2 := hBo1.below b2; have hBw2 := hBw1.below b2; have hBr2 := hBr1.below b2; have hBv2 := hBv1.below b2; clear m0 m1 m2 m3 m4 m5 mf ml o0 o1))
 refine wpn1 fun W3 bW2 hBl3 hs3 => ?_
 have B8 := below2 B7 bW2
 have hBm3 := hBm2.below bW2
 have hBo3 := hBo2.below bW2
 have hBw3 := hBw2.below bW2
 have hBr3 := hBr2.below bW2
 have hBv3 := hBv2.below bW2
 have hz3 : w.heap.size + 1 + 1 + 1 + 1 + 1 ≤ w2.heap.size := by omega
 clear hBm1 hBo1 hBw1 hBr1 hBv1 hBm2 hBo2 hBw2 hBr2 hBv2 hBm hBw hBr hBv hBo
 obtain ⟨m0, m1, m2, m3, m4, m5⟩ := hBm3.e6; have mf := hBm3.frozen; have ml := hBm3.lt; obtain ⟨o0, o1⟩ := hBo3.e2; have k0 := hBw3.c0; obtain ⟨l0, l1⟩ := hBl3.e2; have lf := hBl3.frozen; have ll := hBl3.lt
 go_upto_region 15 with (first
  | (go_at_call 45; (with_reducible refine (HCL.out _ B8).mono ?_); rintro e w5 ⟨r5, rfl, own5, b5⟩; rw [HQN.out] at own5; have HO5 := zh own5; clear own5; have z5 := b5.size; have B9a := below2 B8 b5; have hBw5 := hBw3.below b5; have kk0 := hBw5.c0)
  | (go_at_call 44; (with_reducible refine (HDF.out _ _ _ HO5.out z5 kk0 (by omega)).mono ?_); rintro e w6 ⟨r6, rfl, own6, b6⟩; obtain ⟨a9, c9, e9⟩ := owns_slice own6; subst e9; have HO6 := zh own6; clear own6; have b6' := Below.trans b5 b6; have z6 := b6'.size; have B10 := below2 B8 b6'; have hBm6 := hBm3.below b6'; have hBo6 := hBo3.below b6'; have hBr6 := hBr3.below b6'; have hBv6 := hBv3.below b6'; have hBl6 := hBl3.below b6'; clear m0 m1 m2 m3 m4 m5 mf ml o0 o1 k0 l0 l1 lf ll kk0; obtain ⟨m0, m1, m2, m3, m4, m5⟩ := hBm6.e6; have mf := hBm6.frozen; have ml := hBm6.lt; obtain ⟨o0, o1⟩ := hBo6.e2; obtain ⟨l0, l1⟩ := hBl6.e2; have lf := hBl6.frozen; have ll := hBl6.lt; generalize hrn : ((lkOf m o.lock).l.filter fun x => !decide (x = who)).length = rn at HO6 ⊢; generalize hrl : ((lkOf m o.lock).l.filter fun x => !decide (x = who)) = rls at HO6 hrn; obtain ⟨HRL, HRN⟩ := zh2 hrl hrn; clear hrl hrn))
 go_wp2_with (first
  | (go_at_call 42; (with_reducible refine (HLD.out (w2.heap.size + 1) _ ⟨qb, .slice a9 rn c9, rls⟩ (by first | omega | (simp; omega)) (Firm.keep ((Firm.own HO6.out (by omega : w2.heap.size + 1 ≤ W3.heap.size)).map (fun W h => (by (unfold ReadsL; rw [HRN.out]; exact owns_reads h)))) (fun g arr T h1 hb => (by (have nB1 : g ≠ w2.heap.size := (by omega); have nB2 : w2.heap.size ≠ g := (by omega); exact rcx hb)))) (by exact bel)).mono ?_); rintro e w7 ⟨v7, rfl, hM7, b7⟩; have HM7 := zh hM7; have z7 := b7.size; have B9 := below2 (w := w) (by exact bel) b7; obtain ⟨_, a6, c6, e6, _⟩ := lks_open (hM7.now (HG.out _ _ hb0 B9)).2.2.2.1; simp only [List.length_set] at e6; rw [← HN4.out] at e6; have E6 := zh e6; subst e6; have hBr7 := (show BlockIs _ (w.heap.size + 1 + 1 + 1) [.int .i64 0, .int .i64 0, .slice none 0 0, .slice none 0 0, .slice none 0 0, .slice none 0 0] 40 from (by exact rcx hBr6)).below b7; have hBv7 := (show BlockIs _ (w.heap.size + 1 + 1 + 1 + 1) [.int .i64 0, .bool false, .int .u64 0, .int .u64 0, .int .i64 0, .bool false, .int .i64 0, .int .i64 0, .int .i64 0, .int .i64 0, .int .i64 0, .slice none 0 0, .slice none 0 0] 54 from (by exact rcx hBv6)).below b7)
  | (refine list_store_blk rfl 40 _ _ rfl (w.heap.size + 1 + 1 + 1) _ _ 40 hBr7 rfl rfl (by kernel_rfl) rfl (by simp [Value.oneCell']) w.heap.size w B9 (by omega) ?_; intro w20 hR20 hoth20 hsz20 bw20)
  | (refine list_store_blk rfl 54 _ _ rfl (w.heap.size + 1 + 1 + 1 + 1) _ _ 54 (hoth20 _ _ _ (by omega) hBv7) rfl rfl (by kernel_rfl) rfl (by simp [Value.oneCell']) w.heap.size w bw20 (by omega) ?_; intro w21 hV21 hoth21 hsz21 bw21))
 have hR21 := hoth21 _ _ _ (by omega) hR20
 have HF := zh ((Firm.keep HM7.out (fun g arr T h1 hb => hoth21 _ _ _ (by omega) (hoth20 _ _ _ (by omega) hb))).from (by omega : B ≤ w2.heap.size + 1))
 obtain ⟨e90, e91, e92, e93, e94, e95⟩ := hR21.e6; obtain ⟨f90, f91, f92, f93, f94, f95, f96, f97, f98, f99, f910, f911, f912⟩ := hV21.e13
 exact bodyPost_ret (v := .tuple #[.agg #[.int .i64 x0, .int .i64 x1, .slice a1 n1 c1, .slice a2 n2 c2, .slice a3 n3 c3, .slice a6 n4 c6], .agg #[.int .i64 0, .bool false, .int .u64 0, .int .u64 0, .int .i64 0, .bool false, .int .i64 0, .int .i64 0, .int .i64 0, .int .i64 0, .int .i64 0, .slice none 0 0, .slice none 0 0]]) (by simp [results, Tryz.results14, go_sem, e90, e91, e92, e93, e94, e95, f90, f91, f92, f93, f94, f95, f96, f97, f98, f99, f910, f911, f912]) rfl ⟨⟨x0, x1, m.bans, m.book, m.parts, (.slice a6 n4 c6, m.locks.2.set n ⟨qb, .slice a9 rn c9, rls⟩)⟩, zeroVm, (by first | (simp only [E1.out, E2.out, E3.out, ← HN1.out, ← HN2.out, ← HN3.out]; done) | (simp only [E1.out, E2.out, E3.out, ← HN1.out, ← HN2.out, ← HN3.out]; rfl)), (by rw [HX0.out, HX1.out]; exact HF.out), (Firm.old fun W _ => zeroVm_at W), (by rw [← HLN.out, lkOf_pl]; unfold Mm.pl lockedP setAt; simp only [HLN.out, if_pos (Int.natCast_nonneg n), Int.toNat_natCast, List.map_set, HX0.out, HX1.out, HQB.out, ← HRL.out]), rfl, bw21⟩

set_option maxHeartbeats 16000000 in
theorem memDo_5 (w0 : World → Prop) (hg : Grows w0) (B : Nat) (m : Mm) (o : Oq) (who : Int) (w : World) (hb0 : w0 w) (hB : B ≤ w.heap.size) (hm : ∀ W, w0 W → MmAt W m) (ho : OqAt w o) (hmay : mayP m.pl o = true) (hk : o.kind = 5) (hbn : m.bans.2.length ≤ 1000) (hbk : m.book.2.length ≤ 1000) :
  DoC 14 w0 B m o who w := by
 unfold DoC
 have hres : doP m.pl o who = (m.pl, loadP m.pl o.lk o.ls o.lt) := by unfold doP; rw [if_neg (by rw [hmay]; simp), if_neg (by omega), if_neg (by omega), if_neg (by omega), if_neg (by omega), if_pos hk]
 rw [hres]
 clear hres
 unfold GivesDo
 have h := hm w hb0
 obtain ⟨HM, HG⟩ := zh2 hm hg
 have HMAY := zh (fun (W : World) (hb : Below w.heap.size w W) => memMay_any m o who W (h.below hb) (ho.below hb))
 rw [hmay] at HMAY
 have HL := zh (fun (W : World) (hb : Below w.heap.size w W) => memLock_any m o.lock W (h.below hb))
 have HLK := zh (fun (W : World) (hW : w0 W) => lkOf_at (hm W hW) o.lock)
 have hpr := opRight_load (mayP_right hmay) (Or.inl hk)
 have HLO := zh (fun (W : World) (hb : Below w.heap.size w W) => memLoad_any m o.lk o.ls o.lt W (h.below hb) hbn hbk ⟨hpr.1, hpr.2.1⟩ hpr.2.2.1 hpr.2.2.2)
 obtain ⟨_, qa, qc, eq, _⟩ := ins_open (lkOf_at h o.lock)
 obtain ⟨a1, a2, a3, a4, c1, c2, c3, c4, e1, e2, e3, e4⟩ := mm_slices h
 obtain ⟨_, oa, oc, eo, _⟩ := ba_open ho.1
 obtain ⟨_, ka, kc, ek, _⟩ := ey_open ho.2
 have hmm := zmm e1 e2 e3 e4
 have HMM := zh hmm
 obtain ⟨E1, E2, E3, E4, EQ, EO, EK⟩ := zh7 e1 e2 e3 e4 eq eo ek
 simp only [e1, e2, e3, e4, eo, ek, eq] at HMAY HL HLO
 rw [e1, e2, e3, e4, eo, ek]
 clear e1 e2 e3 e4 eo ek hmm eq
 obtain ⟨x0, hx0, x1, hx1, n1, hn1, n2, hn2, n3, hn3, n4, hn4, nb, hnb, nk, hnk, qn, hqn, qb, hqb⟩ := nz10 m.inn m.out m.bans.2.length m.book.2.length m.parts.2.length m.locks.2.length o.bans.2.length o.book.2.length ((lkOf m o.lock).l.length) ((lkOf m o.lock).b)
 simp only [← hx0, ← hx1, ← hn1, ← hn2, ← hn3, ← hn4, ← hnb, ← hnk, ← hqn, ← hqb] at HMAY HL HLO ⊢
 rw [← hx0, ← hx1, ← hn1, ← hn2, ← hn3, ← hn4] at HMM
 simp only [hk] at HMAY HL ⊢
 obtain ⟨HX0, HX1, HN1, HN2, HN3, HN4, HNB, HNK, HQN, HQB⟩ := zh10 hx0 hx1 hn1 hn2 hn3 hn4 hnb hnk hqn hqb
 clear h ho hm hg hmay hx0 hx1 hn1 hn2 hn3 hn4 hnb hnk hqn hqb hk hbn hbk hpr
 go_enter Tryz.func14, Tryz.ntmps14
 go_upto_region 1 with fail
 refine wpn5 fun W5 B5 hBm hBo hBw hBr hBv hs5 => ?_
 obtain ⟨m0, m1, m2, m3, m4, m5⟩ := hBm.e6; have k0 := hBw.c0
 have HBo := zh hBo
 go_upto_region 4 with (first
  | (refine list_load_blk rfl 56 _ rfl (w.heap.size + 1) _ 56 hBo rfl Tryz.underlying56 (by kernel_rfl) ?_)
  | (go_at_call 12; (with_reducible refine (HMAY.out _ B5).mono ?_); rintro e w1 ⟨rfl, b1⟩; have z1 := b1.size; have B6 := below2 B5 b1; have hBm1 := hBm.below b1; have hBo1 := hBo.below b1; have hBw1 := hBw.below b1; have hBr1 := hBr.below b1; have hBv1 := hBv.below b1; clear m0 m1 m2 m3 m4 m5 k0; obtain ⟨m0, m1, m2, m3, m4, m5⟩ := hBm1.e6; have mf := hBm1.frozen; have ml := hBm1.lt; obtain ⟨o0, o1⟩ := hBo1.e2)
  | (go_at_call 39; (with_reducible refine (HL.out _ B6).mono ?_); rintro e w2 ⟨rfl, b2⟩; have z2 := b2.size; have B7 := below2 B6 b2; have hBm2 := hBm1.below b2; have hBo2 := hBo1.below b2; have hBw2 := hBw1.below b2; have hBr2 := hBr1.below b2; have hBv2 := hBv1.below b2; clear m0 m1 m2 m3 m4 m5 mf ml o0 o1))
 refine wpn1 fun W3 bW2 hBl3 hs3 => ?_
 have B8 := below2 B7 bW2
 have hBm3 := hBm2.below bW2
 have hBo3 := hBo2.below bW2
 have hBw3 := hBw2.below bW2
 have hBr3 := hBr2.below bW2
 have hBv3 := hBv2.below bW2
 have hz3 : w.heap.size + 1 + 1 + 1 + 1 + 1 ≤ w2.heap.size := by omega
 clear hBm1 hBo1 hBw1 hBr1 hBv1 hBm2 hBo2 hBw2 hBr2 hBv2 hBm hBw hBr hBv hBo
 obtain ⟨m0, m1, m2, m3, m4, m5⟩ := hBm3.e6; have mf := hBm3.frozen; have ml := hBm3.lt; have o0 := hBo3.c0; have o2 := hBo3.c2; have o3 := hBo3.c3; have o4 := hBo3.c4; have k0 := hBw3.c0; obtain ⟨l0, l1⟩ := hBl3.e2; have lf := hBl3.frozen; have ll := hBl3.lt
 go_upto_region 17 with fail
 refine wp_region_noPanic ?_
 have hS0 : (fun wq => wq.cell? ⟨w.heap.size, 0, none⟩ = some (.int .i64 x0) ∧ wq.cell? ⟨w.heap.size, 1, none⟩ = some (.int .i64 x1) ∧ wq.cell? ⟨w.heap.size, 2, none⟩ = some (.slice a1 n1 c1) ∧ wq.cell? ⟨w.heap.size, 3, none⟩ = some (.slice a2 n2 c2) ∧ wq.cell? ⟨w.heap.size, 4, none⟩ = some (.slice a3 n3 c3) ∧ wq.cell? ⟨w.heap.size, 5, none⟩ = some (.slice a4 n4 c4) ∧ wq.cell? ⟨w.heap.size + 1, 2, none⟩ = some (.int .i64 o.lk) ∧ wq.cell? ⟨w.heap.size + 1, 3, none⟩ = some (.int .i64 o.ls) ∧ wq.cell? ⟨w.heap.size + 1, 4, none⟩ = some (.int .i64 o.lt)) W3.drew := by
  dsimp only
  (first | go_keep | (simp (disch := omega) [*]; done) | (simp (disch := first | omega | (simp; omega)) [World.cell?_setCell_far, World.cell?_alloc_past, *]; done) | (simp (disch := first | omega | (simp; omega)) [World.cell?_setCell_far, World.cell?_alloc_past, *]; repeat (first | exact rfl | refine ⟨rfl, ?_⟩)))
 refine wp_region_headH (fun wq => wq.cell? ⟨w.heap.size, 0, none⟩ = some (.int .i64 x0) ∧ wq.cell? ⟨w.heap.size, 1, none⟩ = some (.int .i64 x1) ∧ wq.cell? ⟨w.heap.size, 2, none⟩ = some (.slice a1 n1 c1) ∧ wq.cell? ⟨w.heap.size, 3, none⟩ = some (.slice a2 n2 c2) ∧ wq.cell? ⟨w.heap.size, 4, none⟩ = some (.slice a3 n3 c3) ∧ wq.cell? ⟨w.heap.size, 5, none⟩ = some (.slice a4 n4 c4) ∧ wq.cell? ⟨w.heap.size + 1, 2, none⟩ = some (.int .i64 o.lk) ∧ wq.cell? ⟨w.heap.size + 1, 3, none⟩ = some (.int .i64 o.ls) ∧ wq.cell? ⟨w.heap.size + 1, 4, none⟩ = some (.int .i64 o.lt)) 5 (by kernel_rfl) (by kernel_rfl) ?_
 refine hP 0 rfl ?_
 refine hP 1 rfl ?_
 refine hP 2 rfl ?_
 refine hP 3 rfl ?_
 refine headH_one (i := 4) rfl rfl (by kernel_rfl) (fun K hK => ?_)
 go_simp
 go_at_call 47
 refine (HLO.out _ (by first | exact B8 | exact bel)).mono ?_
 unfold GivesVm
 rintro e w7 ⟨v7, rfl, hF7, hv7, b7⟩
 have hv9 := (hF7 (fun _ => True) _ (Nat.le_refl _)).now trivial
 obtain ⟨_, a8, c8, e8, _⟩ := ba_open hv9.1
 obtain ⟨_, a9, c9, e9, _⟩ := ey_open hv9.2
 obtain ⟨vn, vp, ⟨vb, vbl⟩, ⟨vk, vkl⟩⟩ := v7
 simp only at e8 e9
 subst e8 e9
 have HF7 := zh (hF7 w0 (w2.heap.size + 1) (by simp only [World.size_drew]; omega)); have HV7 := zh hv7
 have z7 := b7.size
 simp only [World.size_drew] at z7
 have B9 := below2 (w := w) (by first | exact B8 | exact bel) b7
 have hBm7 := hBm3.drew'.below b7; have hBo7 := hBo3.drew'.below b7; have hBr7 := hBr3.drew'.below b7; have hBv7 := hBv3.drew'.below b7
 clear hF7 hv7 hv9 m0 m1 m2 m3 m4 m5 mf ml o2 o3 o4 k0 l0 l1 lf ll
 obtain ⟨m0, m1, m2, m3, m4, m5⟩ := hBm7.e6; have mf := hBm7.frozen; have ml := hBm7.lt; have o2 := hBo7.c2; have o3 := hBo7.c3; have o4 := hBo7.c4
 refine hK.out _ _ ?_ (fun hS4 => ?_)
 ·try dsimp only
  (first | go_keep | (simp (disch := omega) [*]; done) | (simp (disch := first | omega | (simp; omega)) [World.cell?_setCell_far, World.cell?_alloc_past, *]; done) | (simp (disch := first | omega | (simp; omega)) [World.cell?_setCell_far, World.cell?_alloc_past, *]; repeat (first | exact rfl | refine ⟨rfl, ?_⟩)))
 clear hK K
 try simp only [Act.put, zs1, zs2, zs3]
 refine headH_done (by kernel_rfl) ?_
 simp only [List.drop_succ_cons, List.drop_zero]
 go_wp2_with (first
  | (refine list_store_blk rfl 40 _ _ rfl (w.heap.size + 1 + 1 + 1) _ _ 40 hBr7 rfl rfl (by kernel_rfl) rfl (by simp [Value.oneCell']) w.heap.size w B9 (by omega) ?_; intro w20 hR20 hoth20 hsz20 bw20)
  | (refine list_store_blk rfl 54 _ _ rfl (w.heap.size + 1 + 1 + 1 + 1) _ _ 54 (hoth20 _ _ _ (by omega) hBv7) rfl rfl (by kernel_rfl) rfl (by simp [Value.oneCell']) w.heap.size w bw20 (by omega) ?_; intro w21 hV21 hoth21 hsz21 bw21))
 refine NoPanic.normal ?_
 go_wp2_with fail
 have hR21 := hoth21 _ _ _ (by omega) hR20
 obtain ⟨e90, e91, e92, e93, e94, e95⟩ := hR21.e6; obtain ⟨f90, f91, f92, f93, f94, f95, f96, f97, f98, f99, f910, f911, f912⟩ := hV21.e13
 exact bodyPost_ret (v := .tuple #[.agg #[.int .i64 x0, .int .i64 x1, .slice a1 n1 c1, .slice a2 n2 c2, .slice a3 n3 c3, .slice a4 n4 c4], .agg #[.int .i64 vn, .bool vp.en.ad.v6, .int .u64 vp.en.ad.hi, .int .u64 vp.en.ad.lo, .int .i64 vp.en.port, .bool vp.came, .int .i64 vp.since, .int .i64 vp.pts, .int .i64 vp.at_, .int .i64 vp.ping, .int .i64 vp.work, .slice a8 vbl.length c8, .slice a9 vkl.length c9]]) (by simp [results, Tryz.results14, go_sem, e90, e91, e92, e93, e94, e95, f90, f91, f92, f93, f94, f95, f96, f97, f98, f99, f910, f911, f912]) rfl ⟨m, ⟨vn, vp, (.slice a8 vbl.length c8, vbl), (.slice a9 vkl.length c9, vkl)⟩, (by rw [HMM.out]), (Firm.old HM.out), ((Firm.keep HF7.out (fun g arr T h1 hb => hoth21 _ _ _ (by omega) (hoth20 _ _ _ (by omega) hb))).from (by omega : B ≤ w2.heap.size + 1)), rfl, HV7.out, bw21⟩
end Go.Proofs.YtnplgagaoeckoaaGreat
