/- Texts put together: MemG, MemH, MemI, MemJ, MemJB. No condition. -/
import Derived.Test.YtnplgagaoeckoaaGreatRibothoyfiv
import Derived.Test.YtnplgagaoeckoaaGreatRcaqfxibnhd
import Derived.Test.YtnplgagaoeckoaaGreatRsmhyilczlt
import Derived.Test.YtnplgagaoeckoaaGreatRzqhmawytif
namespace Go.Proofs.YtnplgagaoeckoaaGreat
open Go.RowKit

set_option maxRecDepth 100000 in
set_option maxHeartbeats 8000000 in
theorem memMay_no (m : Mm) (o : Oq) (who : Int) (w : World) (h : MmAt w m) (ho : OqAt w o) (hr : opRight o m.parts.2.length = false) :
    Calls Tryz.prog 12 #[.agg #[.int .i64 m.inn, .int .i64 m.out, m.bans.1, m.book.1, m.parts.1, m.locks.1], .agg #[.int .i64 o.kind, .int .i64 o.lock, .int .i64 o.lk, .int .i64 o.ls, .int .i64 o.lt, .int .i64 o.old, .int .i64 o.new, .int .i64 o.vn, .bool o.pe.en.ad.v6, .int .u64 o.pe.en.ad.hi, .int .u64 o.pe.en.ad.lo, .int .i64 o.pe.en.port, .bool o.pe.came, .int .i64 o.pe.since, .int .i64 o.pe.pts, .int .i64 o.pe.at_, .int .i64 o.pe.ping, .int .i64 o.pe.work, o.bans.1, o.book.1, .bool o.mark], .int .i64 who] w fun e w' => e = .returned (.bool (mayP m.pl o)) ∧ Below w.heap.size w w' := by
  have HL := Lib.hid (fun (W : World) (hb : Below w.heap.size w W) => memLock_any m o.lock W (h.below hb))
  have hlr := lkOf_at h o.lock
  have HR := Lib.hid (fun (W : World) => opRight_any o m.parts.2.length W)
  have hpl : m.pl.parts.length = m.parts.2.length := by unfold Mm.pl; simp
  have hlp := lkOf_pl m o.lock
  generalize lkOf m o.lock = q at *
  obtain ⟨qb, qv, ql⟩ := q
  simp only at hlr hlp HL
  obtain ⟨_, qa, qc, eq, _⟩ := ins_open hlr
  subst eq
  have hres : mayP m.pl o = false := by unfold mayP; rw [hpl, hlp]; rw [hr]; rfl
  rw [hres]
  obtain ⟨a1, a2, a3, a4, c1, c2, c3, c4, e1, e2, e3, e4⟩ := mm_slices h
  obtain ⟨_, oa, oc, eo, _⟩ := ba_open ho.1
  obtain ⟨_, ka, kc, ek, _⟩ := ey_open ho.2
  obtain ⟨x0, x1, ⟨y1, z1⟩, ⟨y2, z2⟩, ⟨y3, z3⟩, ⟨y4, z4⟩⟩ := m
  obtain ⟨kind, lock, lk, ls, lt, old, new, vn, pe, ⟨ob, obl⟩, ⟨okv, okl⟩, mark⟩ := o
  simp only at e1 e2 e3 e4 eo ek
  subst e1 e2 e3 e4 eo ek
  clear hres hpl hlp hlr h ho
  simp only at *
  generalize z1.length = n1 at *; generalize z2.length = n2 at *; generalize z3.length = n3 at *; generalize z4.length = n4 at *; generalize obl.length = nb at *; generalize okl.length = nk at *
  rw [hr] at HR
  clear hr
  skip
  have hBm : BlockIs ((w.alloc (.cells #[.int .i64 x0, .int .i64 x1, .slice a1 n1 c1, .slice a2 n2 c2, .slice a3 n3 c3, .slice a4 n4 c4] 40)).alloc (.cells #[.int .i64 kind, .int .i64 lock, .int .i64 lk, .int .i64 ls, .int .i64 lt, .int .i64 old, .int .i64 new, .int .i64 vn, .bool pe.en.ad.v6, .int .u64 pe.en.ad.hi, .int .u64 pe.en.ad.lo, .int .i64 pe.en.port, .bool pe.came, .int .i64 pe.since, .int .i64 pe.pts, .int .i64 pe.at_, .int .i64 pe.ping, .int .i64 pe.work, .slice oa nb oc, .slice ka nk kc, .bool mark] 56)) w.heap.size [.int .i64 x0, .int .i64 x1, .slice a1 n1 c1, .slice a2 n2 c2, .slice a3 n3 c3, .slice a4 n4 c4] 40 := (BlockIs.new w [.int .i64 x0, .int .i64 x1, .slice a1 n1 c1, .slice a2 n2 c2, .slice a3 n3 c3, .slice a4 n4 c4] _).alloc' _
  have hBo : BlockIs ((w.alloc (.cells #[.int .i64 x0, .int .i64 x1, .slice a1 n1 c1, .slice a2 n2 c2, .slice a3 n3 c3, .slice a4 n4 c4] 40)).alloc (.cells #[.int .i64 kind, .int .i64 lock, .int .i64 lk, .int .i64 ls, .int .i64 lt, .int .i64 old, .int .i64 new, .int .i64 vn, .bool pe.en.ad.v6, .int .u64 pe.en.ad.hi, .int .u64 pe.en.ad.lo, .int .i64 pe.en.port, .bool pe.came, .int .i64 pe.since, .int .i64 pe.pts, .int .i64 pe.at_, .int .i64 pe.ping, .int .i64 pe.work, .slice oa nb oc, .slice ka nk kc, .bool mark] 56)) (w.heap.size + 1) [.int .i64 kind, .int .i64 lock, .int .i64 lk, .int .i64 ls, .int .i64 lt, .int .i64 old, .int .i64 new, .int .i64 vn, .bool pe.en.ad.v6, .int .u64 pe.en.ad.hi, .int .u64 pe.en.ad.lo, .int .i64 pe.en.port, .bool pe.came, .int .i64 pe.since, .int .i64 pe.pts, .int .i64 pe.at_, .int .i64 pe.ping, .int .i64 pe.work, .slice oa nb oc, .slice ka nk kc, .bool mark] 56 := BlockIs.newAt' _ [.int .i64 kind, .int .i64 lock, .int .i64 lk, .int .i64 ls, .int .i64 lt, .int .i64 old, .int .i64 new, .int .i64 vn, .bool pe.en.ad.v6, .int .u64 pe.en.ad.hi, .int .u64 pe.en.ad.lo, .int .i64 pe.en.port, .bool pe.came, .int .i64 pe.since, .int .i64 pe.pts, .int .i64 pe.at_, .int .i64 pe.ping, .int .i64 pe.work, .slice oa nb oc, .slice ka nk kc, .bool mark] _ (by simp)
  have HBm := Lib.hid hBm; have HBo := Lib.hid hBo
  have s0 := hBm.cell (i := 0) rfl; have s1 := hBm.cell (i := 1) rfl; have s2 := hBm.cell (i := 2) rfl; have s3 := hBm.cell (i := 3) rfl; have s4 := hBm.cell (i := 4) rfl; have s5 := hBm.cell (i := 5) rfl
  clear hBm
  go_enter Tryz.func12, Tryz.ntmps12
  go_wp2_with (first
    | (refine list_load_blk rfl 56 _ rfl (w.heap.size + 1) [.int .i64 kind, .int .i64 lock, .int .i64 lk, .int .i64 ls, .int .i64 lt, .int .i64 old, .int .i64 new, .int .i64 vn, .bool pe.en.ad.v6, .int .u64 pe.en.ad.hi, .int .u64 pe.en.ad.lo, .int .i64 pe.en.port, .bool pe.came, .int .i64 pe.since, .int .i64 pe.pts, .int .i64 pe.at_, .int .i64 pe.ping, .int .i64 pe.work, .slice oa nb oc, .slice ka nk kc, .bool mark] 56 hBo rfl Tryz.underlying56 (by kernel_rfl) ?_)
    | (go_at_call 38; (with_reducible refine (HR.out _).mono ?_); rintro e w1 ⟨rfl, b1⟩; have b1o := b1; simp only [World.size_alloc] at b1; have z1 := b1.size; have b2 : Below w.heap.size w w1 := (by exact bel); have hM1 := HBm.out.below b1o; have hO1 := HBo.out.below b1o; have p0 := hM1.cell (i := 0) rfl; have p1 := hM1.cell (i := 1) rfl; have p2 := hM1.cell (i := 2) rfl; have p3 := hM1.cell (i := 3) rfl; have p4 := hM1.cell (i := 4) rfl; have p5 := hM1.cell (i := 5) rfl; have o0 := hO1.cell (i := 0) rfl; have o1 := hO1.cell (i := 1) rfl)
    | (go_at_call 39; (with_reducible refine (HL.out _ b2).mono ?_); rintro e w3 ⟨rfl, b3⟩; have z3 := b3.size; have hO3 := (hO1.below b3).alloc' (.cells #[.int .i64 qb, .slice qa ql.length qc] 90); have hL3 : BlockIs (w3.alloc (.cells #[.int .i64 qb, .slice qa ql.length qc] 90)) w3.heap.size [.int .i64 qb, .slice qa ql.length qc] 90 := BlockIs.new w3 _ _; have t0 := hO3.cell (i := 0) rfl; have t1 := hO3.cell (i := 1) rfl; have q0 := hL3.cell (i := 0) rfl; have q1 := hL3.cell (i := 1) rfl))

  go_ret
  exact ⟨rfl, by first | exact (below2 b2 b3).alloc (below2 b2 b3).size _ | exact bel⟩

set_option maxRecDepth 100000 in
set_option maxHeartbeats 8000000 in
theorem memMay_1yy (m : Mm) (o : Oq) (who : Int) (w : World) (h : MmAt w m) (ho : OqAt w o) (hr : opRight o m.parts.2.length = true) (hk : o.kind = 1) (hb : (lkOf m o.lock).b = 0) (hs : (lkOf m o.lock).l = []) :
    Calls Tryz.prog 12 #[.agg #[.int .i64 m.inn, .int .i64 m.out, m.bans.1, m.book.1, m.parts.1, m.locks.1], .agg #[.int .i64 o.kind, .int .i64 o.lock, .int .i64 o.lk, .int .i64 o.ls, .int .i64 o.lt, .int .i64 o.old, .int .i64 o.new, .int .i64 o.vn, .bool o.pe.en.ad.v6, .int .u64 o.pe.en.ad.hi, .int .u64 o.pe.en.ad.lo, .int .i64 o.pe.en.port, .bool o.pe.came, .int .i64 o.pe.since, .int .i64 o.pe.pts, .int .i64 o.pe.at_, .int .i64 o.pe.ping, .int .i64 o.pe.work, o.bans.1, o.book.1, .bool o.mark], .int .i64 who] w fun e w' => e = .returned (.bool (mayP m.pl o)) ∧ Below w.heap.size w w' := by
  have HL := Lib.hid (fun (W : World) (hb : Below w.heap.size w W) => memLock_any m o.lock W (h.below hb))
  have hlr := lkOf_at h o.lock
  have HR := Lib.hid (fun (W : World) => opRight_any o m.parts.2.length W)
  have hpl : m.pl.parts.length = m.parts.2.length := by unfold Mm.pl; simp
  have hlp := lkOf_pl m o.lock
  generalize lkOf m o.lock = q at *
  obtain ⟨qb, qv, ql⟩ := q
  simp only at hlr hlp HL
  obtain ⟨_, qa, qc, eq, _⟩ := ins_open hlr
  subst eq
  have hres : mayP m.pl o = true := by unfold mayP; rw [hpl, hlp]; rw [hr, if_pos hk, decide_eq_true hb, decide_eq_true hs]; rfl
  rw [hres]
  obtain ⟨a1, a2, a3, a4, c1, c2, c3, c4, e1, e2, e3, e4⟩ := mm_slices h
  obtain ⟨_, oa, oc, eo, _⟩ := ba_open ho.1
  obtain ⟨_, ka, kc, ek, _⟩ := ey_open ho.2
  obtain ⟨x0, x1, ⟨y1, z1⟩, ⟨y2, z2⟩, ⟨y3, z3⟩, ⟨y4, z4⟩⟩ := m
  obtain ⟨kind, lock, lk, ls, lt, old, new, vn, pe, ⟨ob, obl⟩, ⟨okv, okl⟩, mark⟩ := o
  simp only at e1 e2 e3 e4 eo ek
  subst e1 e2 e3 e4 eo ek
  clear hres hpl hlp hlr h ho
  simp only at *
  generalize z1.length = n1 at *; generalize z2.length = n2 at *; generalize z3.length = n3 at *; generalize z4.length = n4 at *; generalize obl.length = nb at *; generalize okl.length = nk at *
  rw [hr] at HR
  clear hr
  subst hk
  have f1 : (qb == 0) = true := by simpa using hb
  have f2 : ((ql.length : Int) == 0) = true := by rw [hs]; rfl
  clear hb hs
  have hBm : BlockIs ((w.alloc (.cells #[.int .i64 x0, .int .i64 x1, .slice a1 n1 c1, .slice a2 n2 c2, .slice a3 n3 c3, .slice a4 n4 c4] 40)).alloc (.cells #[.int .i64 1, .int .i64 lock, .int .i64 lk, .int .i64 ls, .int .i64 lt, .int .i64 old, .int .i64 new, .int .i64 vn, .bool pe.en.ad.v6, .int .u64 pe.en.ad.hi, .int .u64 pe.en.ad.lo, .int .i64 pe.en.port, .bool pe.came, .int .i64 pe.since, .int .i64 pe.pts, .int .i64 pe.at_, .int .i64 pe.ping, .int .i64 pe.work, .slice oa nb oc, .slice ka nk kc, .bool mark] 56)) w.heap.size [.int .i64 x0, .int .i64 x1, .slice a1 n1 c1, .slice a2 n2 c2, .slice a3 n3 c3, .slice a4 n4 c4] 40 := (BlockIs.new w [.int .i64 x0, .int .i64 x1, .slice a1 n1 c1, .slice a2 n2 c2, .slice a3 n3 c3, .slice a4 n4 c4] _).alloc' _
  have hBo : BlockIs ((w.alloc (.cells #[.int .i64 x0, .int .i64 x1, .slice a1 n1 c1, .slice a2 n2 c2, .slice a3 n3 c3, .slice a4 n4 c4] 40)).alloc (.cells #[.int .i64 1, .int .i64 lock, .int .i64 lk, .int .i64 ls, .int .i64 lt, .int .i64 old, .int .i64 new, .int .i64 vn, .bool pe.en.ad.v6, .int .u64 pe.en.ad.hi, .int .u64 pe.en.ad.lo, .int .i64 pe.en.port, .bool pe.came, .int .i64 pe.since, .int .i64 pe.pts, .int .i64 pe.at_, .int .i64 pe.ping, .int .i64 pe.work, .slice oa nb oc, .slice ka nk kc, .bool mark] 56)) (w.heap.size + 1) [.int .i64 1, .int .i64 lock, .int .i64 lk, .int .i64 ls, .int .i64 lt, .int .i64 old, .int .i64 new, .int .i64 vn, .bool pe.en.ad.v6, .int .u64 pe.en.ad.hi, .int .u64 pe.en.ad.lo, .int .i64 pe.en.port, .bool pe.came, .int .i64 pe.since, .int .i64 pe.pts, .int .i64 pe.at_, .int .i64 pe.ping, .int .i64 pe.work, .slice oa nb oc, .slice ka nk kc, .bool mark] 56 := BlockIs.newAt' _ [.int .i64 1, .int .i64 lock, .int .i64 lk, .int .i64 ls, .int .i64 lt, .int .i64 old, .int .i64 new, .int .i64 vn, .bool pe.en.ad.v6, .int .u64 pe.en.ad.hi, .int .u64 pe.en.ad.lo, .int .i64 pe.en.port, .bool pe.came, .int .i64 pe.since, .int .i64 pe.pts, .int .i64 pe.at_, .int .i64 pe.ping, .int .i64 pe.work, .slice oa nb oc, .slice ka nk kc, .bool mark] _ (by simp)
  have HBm := Lib.hid hBm; have HBo := Lib.hid hBo
  have s0 := hBm.cell (i := 0) rfl; have s1 := hBm.cell (i := 1) rfl; have s2 := hBm.cell (i := 2) rfl; have s3 := hBm.cell (i := 3) rfl; have s4 := hBm.cell (i := 4) rfl; have s5 := hBm.cell (i := 5) rfl
  clear hBm
  go_enter Tryz.func12, Tryz.ntmps12
  go_wp2_with (first
    | (refine list_load_blk rfl 56 _ rfl (w.heap.size + 1) [.int .i64 1, .int .i64 lock, .int .i64 lk, .int .i64 ls, .int .i64 lt, .int .i64 old, .int .i64 new, .int .i64 vn, .bool pe.en.ad.v6, .int .u64 pe.en.ad.hi, .int .u64 pe.en.ad.lo, .int .i64 pe.en.port, .bool pe.came, .int .i64 pe.since, .int .i64 pe.pts, .int .i64 pe.at_, .int .i64 pe.ping, .int .i64 pe.work, .slice oa nb oc, .slice ka nk kc, .bool mark] 56 hBo rfl Tryz.underlying56 (by kernel_rfl) ?_)
    | (go_at_call 38; (with_reducible refine (HR.out _).mono ?_); rintro e w1 ⟨rfl, b1⟩; have b1o := b1; simp only [World.size_alloc] at b1; have z1 := b1.size; have b2 : Below w.heap.size w w1 := (by exact bel); have hM1 := HBm.out.below b1o; have hO1 := HBo.out.below b1o; have p0 := hM1.cell (i := 0) rfl; have p1 := hM1.cell (i := 1) rfl; have p2 := hM1.cell (i := 2) rfl; have p3 := hM1.cell (i := 3) rfl; have p4 := hM1.cell (i := 4) rfl; have p5 := hM1.cell (i := 5) rfl; have o0 := hO1.cell (i := 0) rfl; have o1 := hO1.cell (i := 1) rfl)
    | (go_at_call 39; (with_reducible refine (HL.out _ b2).mono ?_); rintro e w3 ⟨rfl, b3⟩; have z3 := b3.size; have hO3 := (hO1.below b3).alloc' (.cells #[.int .i64 qb, .slice qa ql.length qc] 90); have hL3 : BlockIs (w3.alloc (.cells #[.int .i64 qb, .slice qa ql.length qc] 90)) w3.heap.size [.int .i64 qb, .slice qa ql.length qc] 90 := BlockIs.new w3 _ _; have t0 := hO3.cell (i := 0) rfl; have t1 := hO3.cell (i := 1) rfl; have q0 := hL3.cell (i := 0) rfl; have q1 := hL3.cell (i := 1) rfl))

  go_ret
  exact ⟨rfl, by first | exact (below2 b2 b3).alloc (below2 b2 b3).size _ | exact bel⟩

set_option maxRecDepth 100000 in
set_option maxHeartbeats 8000000 in
theorem memMay_1yn (m : Mm) (o : Oq) (who : Int) (w : World) (h : MmAt w m) (ho : OqAt w o) (hr : opRight o m.parts.2.length = true) (hk : o.kind = 1) (hb : (lkOf m o.lock).b = 0) (hs : ¬ (lkOf m o.lock).l = []) :
    Calls Tryz.prog 12 #[.agg #[.int .i64 m.inn, .int .i64 m.out, m.bans.1, m.book.1, m.parts.1, m.locks.1], .agg #[.int .i64 o.kind, .int .i64 o.lock, .int .i64 o.lk, .int .i64 o.ls, .int .i64 o.lt, .int .i64 o.old, .int .i64 o.new, .int .i64 o.vn, .bool o.pe.en.ad.v6, .int .u64 o.pe.en.ad.hi, .int .u64 o.pe.en.ad.lo, .int .i64 o.pe.en.port, .bool o.pe.came, .int .i64 o.pe.since, .int .i64 o.pe.pts, .int .i64 o.pe.at_, .int .i64 o.pe.ping, .int .i64 o.pe.work, o.bans.1, o.book.1, .bool o.mark], .int .i64 who] w fun e w' => e = .returned (.bool (mayP m.pl o)) ∧ Below w.heap.size w w' := by
  have HL := Lib.hid (fun (W : World) (hb : Below w.heap.size w W) => memLock_any m o.lock W (h.below hb))
  have hlr := lkOf_at h o.lock
  have HR := Lib.hid (fun (W : World) => opRight_any o m.parts.2.length W)
  have hpl : m.pl.parts.length = m.parts.2.length := by unfold Mm.pl; simp
  have hlp := lkOf_pl m o.lock
  generalize lkOf m o.lock = q at *
  obtain ⟨qb, qv, ql⟩ := q
  simp only at hlr hlp HL
  obtain ⟨_, qa, qc, eq, _⟩ := ins_open hlr
  subst eq
  have hres : mayP m.pl o = false := by unfold mayP; rw [hpl, hlp]; rw [hr, if_pos hk, decide_eq_true hb, decide_eq_false hs]; rfl
  rw [hres]
  obtain ⟨a1, a2, a3, a4, c1, c2, c3, c4, e1, e2, e3, e4⟩ := mm_slices h
  obtain ⟨_, oa, oc, eo, _⟩ := ba_open ho.1
  obtain ⟨_, ka, kc, ek, _⟩ := ey_open ho.2
  obtain ⟨x0, x1, ⟨y1, z1⟩, ⟨y2, z2⟩, ⟨y3, z3⟩, ⟨y4, z4⟩⟩ := m
  obtain ⟨kind, lock, lk, ls, lt, old, new, vn, pe, ⟨ob, obl⟩, ⟨okv, okl⟩, mark⟩ := o
  simp only at e1 e2 e3 e4 eo ek
  subst e1 e2 e3 e4 eo ek
  clear hres hpl hlp hlr h ho
  simp only at *
  generalize z1.length = n1 at *; generalize z2.length = n2 at *; generalize z3.length = n3 at *; generalize z4.length = n4 at *; generalize obl.length = nb at *; generalize okl.length = nk at *
  rw [hr] at HR
  clear hr
  subst hk
  have f1 : (qb == 0) = true := by simpa using hb
  have f2 : ((ql.length : Int) == 0) = false := by exact beq_eq_false_iff_ne.2 fun e => hs (List.eq_nil_of_length_eq_zero (by omega))
  clear hb hs
  have hBm : BlockIs ((w.alloc (.cells #[.int .i64 x0, .int .i64 x1, .slice a1 n1 c1, .slice a2 n2 c2, .slice a3 n3 c3, .slice a4 n4 c4] 40)).alloc (.cells #[.int .i64 1, .int .i64 lock, .int .i64 lk, .int .i64 ls, .int .i64 lt, .int .i64 old, .int .i64 new, .int .i64 vn, .bool pe.en.ad.v6, .int .u64 pe.en.ad.hi, .int .u64 pe.en.ad.lo, .int .i64 pe.en.port, .bool pe.came, .int .i64 pe.since, .int .i64 pe.pts, .int .i64 pe.at_, .int .i64 pe.ping, .int .i64 pe.work, .slice oa nb oc, .slice ka nk kc, .bool mark] 56)) w.heap.size [.int .i64 x0, .int .i64 x1, .slice a1 n1 c1, .slice a2 n2 c2, .slice a3 n3 c3, .slice a4 n4 c4] 40 := (BlockIs.new w [.int .i64 x0, .int .i64 x1, .slice a1 n1 c1, .slice a2 n2 c2, .slice a3 n3 c3, .slice a4 n4 c4] _).alloc' _
  have hBo : BlockIs ((w.alloc (.cells #[.int .i64 x0, .int .i64 x1, .slice a1 n1 c1, .slice a2 n2 c2, .slice a3 n3 c3, .slice a4 n4 c4] 40)).alloc (.cells #[.int .i64 1, .int .i64 lock, .int .i64 lk, .int .i64 ls, .int .i64 lt, .int .i64 old, .int .i64 new, .int .i64 vn, .bool pe.en.ad.v6, .int .u64 pe.en.ad.hi, .int .u64 pe.en.ad.lo, .int .i64 pe.en.port, .bool pe.came, .int .i64 pe.since, .int .i64 pe.pts, .int .i64 pe.at_, .int .i64 pe.ping, .int .i64 pe.work, .slice oa nb oc, .slice ka nk kc, .bool mark] 56)) (w.heap.size + 1) [.int .i64 1, .int .i64 lock, .int .i64 lk, .int .i64 ls, .int .i64 lt, .int .i64 old, .int .i64 new, .int .i64 vn, .bool pe.en.ad.v6, .int .u64 pe.en.ad.hi, .int .u64 pe.en.ad.lo, .int .i64 pe.en.port, .bool pe.came, .int .i64 pe.since, .int .i64 pe.pts, .int .i64 pe.at_, .int .i64 pe.ping, .int .i64 pe.work, .slice oa nb oc, .slice ka nk kc, .bool mark] 56 := BlockIs.newAt' _ [.int .i64 1, .int .i64 lock, .int .i64 lk, .int .i64 ls, .int .i64 lt, .int .i64 old, .int .i64 new, .int .i64 vn, .bool pe.en.ad.v6, .int .u64 pe.en.ad.hi, .int .u64 pe.en.ad.lo, .int .i64 pe.en.port, .bool pe.came, .int .i64 pe.since, .int .i64 pe.pts, .int .i64 pe.at_, .int .i64 pe.ping, .int .i64 pe.work, .slice oa nb oc, .slice ka nk kc, .bool mark] _ (by simp)
  have HBm := Lib.hid hBm; have HBo := Lib.hid hBo
  have s0 := hBm.cell (i := 0) rfl; have s1 := hBm.cell (i := 1) rfl; have s2 := hBm.cell (i := 2) rfl; have s3 := hBm.cell (i := 3) rfl; have s4 := hBm.cell (i := 4) rfl; have s5 := hBm.cell (i := 5) rfl
  clear hBm
  go_enter Tryz.func12, Tryz.ntmps12
  go_wp2_with (first
    | (refine list_load_blk rfl 56 _ rfl (w.heap.size + 1) [.int .i64 1, .int .i64 lock, .int .i64 lk, .int .i64 ls, .int .i64 lt, .int .i64 old, .int .i64 new, .int .i64 vn, .bool pe.en.ad.v6, .int .u64 pe.en.ad.hi, .int .u64 pe.en.ad.lo, .int .i64 pe.en.port, .bool pe.came, .int .i64 pe.since, .int .i64 pe.pts, .int .i64 pe.at_, .int .i64 pe.ping, .int .i64 pe.work, .slice oa nb oc, .slice ka nk kc, .bool mark] 56 hBo rfl Tryz.underlying56 (by kernel_rfl) ?_)
    | (go_at_call 38; (with_reducible refine (HR.out _).mono ?_); rintro e w1 ⟨rfl, b1⟩; have b1o := b1; simp only [World.size_alloc] at b1; have z1 := b1.size; have b2 : Below w.heap.size w w1 := (by exact bel); have hM1 := HBm.out.below b1o; have hO1 := HBo.out.below b1o; have p0 := hM1.cell (i := 0) rfl; have p1 := hM1.cell (i := 1) rfl; have p2 := hM1.cell (i := 2) rfl; have p3 := hM1.cell (i := 3) rfl; have p4 := hM1.cell (i := 4) rfl; have p5 := hM1.cell (i := 5) rfl; have o0 := hO1.cell (i := 0) rfl; have o1 := hO1.cell (i := 1) rfl)
    | (go_at_call 39; (with_reducible refine (HL.out _ b2).mono ?_); rintro e w3 ⟨rfl, b3⟩; have z3 := b3.size; have hO3 := (hO1.below b3).alloc' (.cells #[.int .i64 qb, .slice qa ql.length qc] 90); have hL3 : BlockIs (w3.alloc (.cells #[.int .i64 qb, .slice qa ql.length qc] 90)) w3.heap.size [.int .i64 qb, .slice qa ql.length qc] 90 := BlockIs.new w3 _ _; have t0 := hO3.cell (i := 0) rfl; have t1 := hO3.cell (i := 1) rfl; have q0 := hL3.cell (i := 0) rfl; have q1 := hL3.cell (i := 1) rfl))

  go_ret
  exact ⟨rfl, by first | exact (below2 b2 b3).alloc (below2 b2 b3).size _ | exact bel⟩

set_option maxRecDepth 100000 in
set_option maxHeartbeats 8000000 in
theorem memMay_2y (m : Mm) (o : Oq) (who : Int) (w : World) (h : MmAt w m) (ho : OqAt w o) (hr : opRight o m.parts.2.length = true) (hk : o.kind = 2) (hb : (lkOf m o.lock).b = 0) :
    Calls Tryz.prog 12 #[.agg #[.int .i64 m.inn, .int .i64 m.out, m.bans.1, m.book.1, m.parts.1, m.locks.1], .agg #[.int .i64 o.kind, .int .i64 o.lock, .int .i64 o.lk, .int .i64 o.ls, .int .i64 o.lt, .int .i64 o.old, .int .i64 o.new, .int .i64 o.vn, .bool o.pe.en.ad.v6, .int .u64 o.pe.en.ad.hi, .int .u64 o.pe.en.ad.lo, .int .i64 o.pe.en.port, .bool o.pe.came, .int .i64 o.pe.since, .int .i64 o.pe.pts, .int .i64 o.pe.at_, .int .i64 o.pe.ping, .int .i64 o.pe.work, o.bans.1, o.book.1, .bool o.mark], .int .i64 who] w fun e w' => e = .returned (.bool (mayP m.pl o)) ∧ Below w.heap.size w w' := by
  have HL := Lib.hid (fun (W : World) (hb : Below w.heap.size w W) => memLock_any m o.lock W (h.below hb))
  have hlr := lkOf_at h o.lock
  have HR := Lib.hid (fun (W : World) => opRight_any o m.parts.2.length W)
  have hpl : m.pl.parts.length = m.parts.2.length := by unfold Mm.pl; simp
  have hlp := lkOf_pl m o.lock
  generalize lkOf m o.lock = q at *
  obtain ⟨qb, qv, ql⟩ := q
  simp only at hlr hlp HL
  obtain ⟨_, qa, qc, eq, _⟩ := ins_open hlr
  subst eq
  have hres : mayP m.pl o = true := by unfold mayP; rw [hpl, hlp]; rw [hr, if_neg (by omega), if_pos hk, decide_eq_true hb]; rfl
  rw [hres]
  obtain ⟨a1, a2, a3, a4, c1, c2, c3, c4, e1, e2, e3, e4⟩ := mm_slices h
  obtain ⟨_, oa, oc, eo, _⟩ := ba_open ho.1
  obtain ⟨_, ka, kc, ek, _⟩ := ey_open ho.2
  obtain ⟨x0, x1, ⟨y1, z1⟩, ⟨y2, z2⟩, ⟨y3, z3⟩, ⟨y4, z4⟩⟩ := m
  obtain ⟨kind, lock, lk, ls, lt, old, new, vn, pe, ⟨ob, obl⟩, ⟨okv, okl⟩, mark⟩ := o
  simp only at e1 e2 e3 e4 eo ek
  subst e1 e2 e3 e4 eo ek
  clear hres hpl hlp hlr h ho
  simp only at *
  generalize z1.length = n1 at *; generalize z2.length = n2 at *; generalize z3.length = n3 at *; generalize z4.length = n4 at *; generalize obl.length = nb at *; generalize okl.length = nk at *
  rw [hr] at HR
  clear hr
  subst hk
  have f1 : (qb == 0) = true := by simpa using hb
  clear hb
  have hBm : BlockIs ((w.alloc (.cells #[.int .i64 x0, .int .i64 x1, .slice a1 n1 c1, .slice a2 n2 c2, .slice a3 n3 c3, .slice a4 n4 c4] 40)).alloc (.cells #[.int .i64 2, .int .i64 lock, .int .i64 lk, .int .i64 ls, .int .i64 lt, .int .i64 old, .int .i64 new, .int .i64 vn, .bool pe.en.ad.v6, .int .u64 pe.en.ad.hi, .int .u64 pe.en.ad.lo, .int .i64 pe.en.port, .bool pe.came, .int .i64 pe.since, .int .i64 pe.pts, .int .i64 pe.at_, .int .i64 pe.ping, .int .i64 pe.work, .slice oa nb oc, .slice ka nk kc, .bool mark] 56)) w.heap.size [.int .i64 x0, .int .i64 x1, .slice a1 n1 c1, .slice a2 n2 c2, .slice a3 n3 c3, .slice a4 n4 c4] 40 := (BlockIs.new w [.int .i64 x0, .int .i64 x1, .slice a1 n1 c1, .slice a2 n2 c2, .slice a3 n3 c3, .slice a4 n4 c4] _).alloc' _
  have hBo : BlockIs ((w.alloc (.cells #[.int .i64 x0, .int .i64 x1, .slice a1 n1 c1, .slice a2 n2 c2, .slice a3 n3 c3, .slice a4 n4 c4] 40)).alloc (.cells #[.int .i64 2, .int .i64 lock, .int .i64 lk, .int .i64 ls, .int .i64 lt, .int .i64 old, .int .i64 new, .int .i64 vn, .bool pe.en.ad.v6, .int .u64 pe.en.ad.hi, .int .u64 pe.en.ad.lo, .int .i64 pe.en.port, .bool pe.came, .int .i64 pe.since, .int .i64 pe.pts, .int .i64 pe.at_, .int .i64 pe.ping, .int .i64 pe.work, .slice oa nb oc, .slice ka nk kc, .bool mark] 56)) (w.heap.size + 1) [.int .i64 2, .int .i64 lock, .int .i64 lk, .int .i64 ls, .int .i64 lt, .int .i64 old, .int .i64 new, .int .i64 vn, .bool pe.en.ad.v6, .int .u64 pe.en.ad.hi, .int .u64 pe.en.ad.lo, .int .i64 pe.en.port, .bool pe.came, .int .i64 pe.since, .int .i64 pe.pts, .int .i64 pe.at_, .int .i64 pe.ping, .int .i64 pe.work, .slice oa nb oc, .slice ka nk kc, .bool mark] 56 := BlockIs.newAt' _ [.int .i64 2, .int .i64 lock, .int .i64 lk, .int .i64 ls, .int .i64 lt, .int .i64 old, .int .i64 new, .int .i64 vn, .bool pe.en.ad.v6, .int .u64 pe.en.ad.hi, .int .u64 pe.en.ad.lo, .int .i64 pe.en.port, .bool pe.came, .int .i64 pe.since, .int .i64 pe.pts, .int .i64 pe.at_, .int .i64 pe.ping, .int .i64 pe.work, .slice oa nb oc, .slice ka nk kc, .bool mark] _ (by simp)
  have HBm := Lib.hid hBm; have HBo := Lib.hid hBo
  have s0 := hBm.cell (i := 0) rfl; have s1 := hBm.cell (i := 1) rfl; have s2 := hBm.cell (i := 2) rfl; have s3 := hBm.cell (i := 3) rfl; have s4 := hBm.cell (i := 4) rfl; have s5 := hBm.cell (i := 5) rfl
  clear hBm
  go_enter Tryz.func12, Tryz.ntmps12
  go_wp2_with (first
    | (refine list_load_blk rfl 56 _ rfl (w.heap.size + 1) [.int .i64 2, .int .i64 lock, .int .i64 lk, .int .i64 ls, .int .i64 lt, .int .i64 old, .int .i64 new, .int .i64 vn, .bool pe.en.ad.v6, .int .u64 pe.en.ad.hi, .int .u64 pe.en.ad.lo, .int .i64 pe.en.port, .bool pe.came, .int .i64 pe.since, .int .i64 pe.pts, .int .i64 pe.at_, .int .i64 pe.ping, .int .i64 pe.work, .slice oa nb oc, .slice ka nk kc, .bool mark] 56 hBo rfl Tryz.underlying56 (by kernel_rfl) ?_)
    | (go_at_call 38; (with_reducible refine (HR.out _).mono ?_); rintro e w1 ⟨rfl, b1⟩; have b1o := b1; simp only [World.size_alloc] at b1; have z1 := b1.size; have b2 : Below w.heap.size w w1 := (by exact bel); have hM1 := HBm.out.below b1o; have hO1 := HBo.out.below b1o; have p0 := hM1.cell (i := 0) rfl; have p1 := hM1.cell (i := 1) rfl; have p2 := hM1.cell (i := 2) rfl; have p3 := hM1.cell (i := 3) rfl; have p4 := hM1.cell (i := 4) rfl; have p5 := hM1.cell (i := 5) rfl; have o0 := hO1.cell (i := 0) rfl; have o1 := hO1.cell (i := 1) rfl)
    | (go_at_call 39; (with_reducible refine (HL.out _ b2).mono ?_); rintro e w3 ⟨rfl, b3⟩; have z3 := b3.size; have hO3 := (hO1.below b3).alloc' (.cells #[.int .i64 qb, .slice qa ql.length qc] 90); have hL3 : BlockIs (w3.alloc (.cells #[.int .i64 qb, .slice qa ql.length qc] 90)) w3.heap.size [.int .i64 qb, .slice qa ql.length qc] 90 := BlockIs.new w3 _ _; have t0 := hO3.cell (i := 0) rfl; have t1 := hO3.cell (i := 1) rfl; have q0 := hL3.cell (i := 0) rfl; have q1 := hL3.cell (i := 1) rfl))

  go_ret
  exact ⟨rfl, by first | exact (below2 b2 b3).alloc (below2 b2 b3).size _ | exact bel⟩

set_option maxRecDepth 100000 in
set_option maxHeartbeats 8000000 in
theorem memMay_1ny (m : Mm) (o : Oq) (who : Int) (w : World) (h : MmAt w m) (ho : OqAt w o) (hr : opRight o m.parts.2.length = true) (hk : o.kind = 1) (hb : ¬ (lkOf m o.lock).b = 0) (hs : (lkOf m o.lock).l = []) :
    Calls Tryz.prog 12 #[.agg #[.int .i64 m.inn, .int .i64 m.out, m.bans.1, m.book.1, m.parts.1, m.locks.1], .agg #[.int .i64 o.kind, .int .i64 o.lock, .int .i64 o.lk, .int .i64 o.ls, .int .i64 o.lt, .int .i64 o.old, .int .i64 o.new, .int .i64 o.vn, .bool o.pe.en.ad.v6, .int .u64 o.pe.en.ad.hi, .int .u64 o.pe.en.ad.lo, .int .i64 o.pe.en.port, .bool o.pe.came, .int .i64 o.pe.since, .int .i64 o.pe.pts, .int .i64 o.pe.at_, .int .i64 o.pe.ping, .int .i64 o.pe.work, o.bans.1, o.book.1, .bool o.mark], .int .i64 who] w fun e w' => e = .returned (.bool (mayP m.pl o)) ∧ Below w.heap.size w w' := by
  have HL := Lib.hid (fun (W : World) (hb : Below w.heap.size w W) => memLock_any m o.lock W (h.below hb))
  have hlr := lkOf_at h o.lock
  have HR := Lib.hid (fun (W : World) => opRight_any o m.parts.2.length W)
  have hpl : m.pl.parts.length = m.parts.2.length := by unfold Mm.pl; simp
  have hlp := lkOf_pl m o.lock
  generalize lkOf m o.lock = q at *
  obtain ⟨qb, qv, ql⟩ := q
  simp only at hlr hlp HL
  obtain ⟨_, qa, qc, eq, _⟩ := ins_open hlr
  subst eq
  have hres : mayP m.pl o = false := by unfold mayP; rw [hpl, hlp]; rw [hr, if_pos hk, decide_eq_false hb, decide_eq_true hs]; rfl
  rw [hres]
  obtain ⟨a1, a2, a3, a4, c1, c2, c3, c4, e1, e2, e3, e4⟩ := mm_slices h
  obtain ⟨_, oa, oc, eo, _⟩ := ba_open ho.1
  obtain ⟨_, ka, kc, ek, _⟩ := ey_open ho.2
  obtain ⟨x0, x1, ⟨y1, z1⟩, ⟨y2, z2⟩, ⟨y3, z3⟩, ⟨y4, z4⟩⟩ := m
  obtain ⟨kind, lock, lk, ls, lt, old, new, vn, pe, ⟨ob, obl⟩, ⟨okv, okl⟩, mark⟩ := o
  simp only at e1 e2 e3 e4 eo ek
  subst e1 e2 e3 e4 eo ek
  clear hres hpl hlp hlr h ho
  simp only at *
  generalize z1.length = n1 at *; generalize z2.length = n2 at *; generalize z3.length = n3 at *; generalize z4.length = n4 at *; generalize obl.length = nb at *; generalize okl.length = nk at *
  rw [hr] at HR
  clear hr
  subst hk
  have f1 : (qb == 0) = false := by simpa using hb
  have f2 : ((ql.length : Int) == 0) = true := by rw [hs]; rfl
  clear hb hs
  have hBm : BlockIs ((w.alloc (.cells #[.int .i64 x0, .int .i64 x1, .slice a1 n1 c1, .slice a2 n2 c2, .slice a3 n3 c3, .slice a4 n4 c4] 40)).alloc (.cells #[.int .i64 1, .int .i64 lock, .int .i64 lk, .int .i64 ls, .int .i64 lt, .int .i64 old, .int .i64 new, .int .i64 vn, .bool pe.en.ad.v6, .int .u64 pe.en.ad.hi, .int .u64 pe.en.ad.lo, .int .i64 pe.en.port, .bool pe.came, .int .i64 pe.since, .int .i64 pe.pts, .int .i64 pe.at_, .int .i64 pe.ping, .int .i64 pe.work, .slice oa nb oc, .slice ka nk kc, .bool mark] 56)) w.heap.size [.int .i64 x0, .int .i64 x1, .slice a1 n1 c1, .slice a2 n2 c2, .slice a3 n3 c3, .slice a4 n4 c4] 40 := (BlockIs.new w [.int .i64 x0, .int .i64 x1, .slice a1 n1 c1, .slice a2 n2 c2, .slice a3 n3 c3, .slice a4 n4 c4] _).alloc' _
  have hBo : BlockIs ((w.alloc (.cells #[.int .i64 x0, .int .i64 x1, .slice a1 n1 c1, .slice a2 n2 c2, .slice a3 n3 c3, .slice a4 n4 c4] 40)).alloc (.cells #[.int .i64 1, .int .i64 lock, .int .i64 lk, .int .i64 ls, .int .i64 lt, .int .i64 old, .int .i64 new, .int .i64 vn, .bool pe.en.ad.v6, .int .u64 pe.en.ad.hi, .int .u64 pe.en.ad.lo, .int .i64 pe.en.port, .bool pe.came, .int .i64 pe.since, .int .i64 pe.pts, .int .i64 pe.at_, .int .i64 pe.ping, .int .i64 pe.work, .slice oa nb oc, .slice ka nk kc, .bool mark] 56)) (w.heap.size + 1) [.int .i64 1, .int .i64 lock, .int .i64 lk, .int .i64 ls, .int .i64 lt, .int .i64 old, .int .i64 new, .int .i64 vn, .bool pe.en.ad.v6, .int .u64 pe.en.ad.hi, .int .u64 pe.en.ad.lo, .int .i64 pe.en.port, .bool pe.came, .int .i64 pe.since, .int .i64 pe.pts, .int .i64 pe.at_, .int .i64 pe.ping, .int .i64 pe.work, .slice oa nb oc, .slice ka nk kc, .bool mark] 56 := BlockIs.newAt' _ [.int .i64 1, .int .i64 lock, .int .i64 lk, .int .i64 ls, .int .i64 lt, .int .i64 old, .int .i64 new, .int .i64 vn, .bool pe.en.ad.v6, .int .u64 pe.en.ad.hi, .int .u64 pe.en.ad.lo, .int .i64 pe.en.port, .bool pe.came, .int .i64 pe.since, .int .i64 pe.pts, .int .i64 pe.at_, .int .i64 pe.ping, .int .i64 pe.work, .slice oa nb oc, .slice ka nk kc, .bool mark] _ (by simp)
  have HBm := Lib.hid hBm; have HBo := Lib.hid hBo
  have s0 := hBm.cell (i := 0) rfl; have s1 := hBm.cell (i := 1) rfl; have s2 := hBm.cell (i := 2) rfl; have s3 := hBm.cell (i := 3) rfl; have s4 := hBm.cell (i := 4) rfl; have s5 := hBm.cell (i := 5) rfl
  clear hBm
  go_enter Tryz.func12, Tryz.ntmps12
  go_wp2_with (first
    | (refine list_load_blk rfl 56 _ rfl (w.heap.size + 1) [.int .i64 1, .int .i64 lock, .int .i64 lk, .int .i64 ls, .int .i64 lt, .int .i64 old, .int .i64 new, .int .i64 vn, .bool pe.en.ad.v6, .int .u64 pe.en.ad.hi, .int .u64 pe.en.ad.lo, .int .i64 pe.en.port, .bool pe.came, .int .i64 pe.since, .int .i64 pe.pts, .int .i64 pe.at_, .int .i64 pe.ping, .int .i64 pe.work, .slice oa nb oc, .slice ka nk kc, .bool mark] 56 hBo rfl Tryz.underlying56 (by kernel_rfl) ?_)
    | (go_at_call 38; (with_reducible refine (HR.out _).mono ?_); rintro e w1 ⟨rfl, b1⟩; have b1o := b1; simp only [World.size_alloc] at b1; have z1 := b1.size; have b2 : Below w.heap.size w w1 := (by exact bel); have hM1 := HBm.out.below b1o; have hO1 := HBo.out.below b1o; have p0 := hM1.cell (i := 0) rfl; have p1 := hM1.cell (i := 1) rfl; have p2 := hM1.cell (i := 2) rfl; have p3 := hM1.cell (i := 3) rfl; have p4 := hM1.cell (i := 4) rfl; have p5 := hM1.cell (i := 5) rfl; have o0 := hO1.cell (i := 0) rfl; have o1 := hO1.cell (i := 1) rfl)
    | (go_at_call 39; (with_reducible refine (HL.out _ b2).mono ?_); rintro e w3 ⟨rfl, b3⟩; have z3 := b3.size; have hO3 := (hO1.below b3).alloc' (.cells #[.int .i64 qb, .slice qa ql.length qc] 90); have hL3 : BlockIs (w3.alloc (.cells #[.int .i64 qb, .slice qa ql.length qc] 90)) w3.heap.size [.int .i64 qb, .slice qa ql.length qc] 90 := BlockIs.new w3 _ _; have t0 := hO3.cell (i := 0) rfl; have t1 := hO3.cell (i := 1) rfl; have q0 := hL3.cell (i := 0) rfl; have q1 := hL3.cell (i := 1) rfl))

  go_ret
  exact ⟨rfl, by first | exact (below2 b2 b3).alloc (below2 b2 b3).size _ | exact bel⟩

set_option maxRecDepth 100000 in
set_option maxHeartbeats 8000000 in
theorem memMay_1nn (m : Mm) (o : Oq) (who : Int) (w : World) (h : MmAt w m) (ho : OqAt w o) (hr : opRight o m.parts.2.length = true) (hk : o.kind = 1) (hb : ¬ (lkOf m o.lock).b = 0) (hs : ¬ (lkOf m o.lock).l = []) :
    Calls Tryz.prog 12 #[.agg #[.int .i64 m.inn, .int .i64 m.out, m.bans.1, m.book.1, m.parts.1, m.locks.1], .agg #[.int .i64 o.kind, .int .i64 o.lock, .int .i64 o.lk, .int .i64 o.ls, .int .i64 o.lt, .int .i64 o.old, .int .i64 o.new, .int .i64 o.vn, .bool o.pe.en.ad.v6, .int .u64 o.pe.en.ad.hi, .int .u64 o.pe.en.ad.lo, .int .i64 o.pe.en.port, .bool o.pe.came, .int .i64 o.pe.since, .int .i64 o.pe.pts, .int .i64 o.pe.at_, .int .i64 o.pe.ping, .int .i64 o.pe.work, o.bans.1, o.book.1, .bool o.mark], .int .i64 who] w fun e w' => e = .returned (.bool (mayP m.pl o)) ∧ Below w.heap.size w w' := by
  have HL := Lib.hid (fun (W : World) (hb : Below w.heap.size w W) => memLock_any m o.lock W (h.below hb))
  have hlr := lkOf_at h o.lock
  have HR := Lib.hid (fun (W : World) => opRight_any o m.parts.2.length W)
  have hpl : m.pl.parts.length = m.parts.2.length := by unfold Mm.pl; simp
  have hlp := lkOf_pl m o.lock
  generalize lkOf m o.lock = q at *
  obtain ⟨qb, qv, ql⟩ := q
  simp only at hlr hlp HL
  obtain ⟨_, qa, qc, eq, _⟩ := ins_open hlr
  subst eq
  have hres : mayP m.pl o = false := by unfold mayP; rw [hpl, hlp]; rw [hr, if_pos hk, decide_eq_false hb, decide_eq_false hs]; rfl
  rw [hres]
  obtain ⟨a1, a2, a3, a4, c1, c2, c3, c4, e1, e2, e3, e4⟩ := mm_slices h
  obtain ⟨_, oa, oc, eo, _⟩ := ba_open ho.1
  obtain ⟨_, ka, kc, ek, _⟩ := ey_open ho.2
  obtain ⟨x0, x1, ⟨y1, z1⟩, ⟨y2, z2⟩, ⟨y3, z3⟩, ⟨y4, z4⟩⟩ := m
  obtain ⟨kind, lock, lk, ls, lt, old, new, vn, pe, ⟨ob, obl⟩, ⟨okv, okl⟩, mark⟩ := o
  simp only at e1 e2 e3 e4 eo ek
  subst e1 e2 e3 e4 eo ek
  clear hres hpl hlp hlr h ho
  simp only at *
  generalize z1.length = n1 at *; generalize z2.length = n2 at *; generalize z3.length = n3 at *; generalize z4.length = n4 at *; generalize obl.length = nb at *; generalize okl.length = nk at *
  rw [hr] at HR
  clear hr
  subst hk
  have f1 : (qb == 0) = false := by simpa using hb
  have f2 : ((ql.length : Int) == 0) = false := by exact beq_eq_false_iff_ne.2 fun e => hs (List.eq_nil_of_length_eq_zero (by omega))
  clear hb hs
  have hBm : BlockIs ((w.alloc (.cells #[.int .i64 x0, .int .i64 x1, .slice a1 n1 c1, .slice a2 n2 c2, .slice a3 n3 c3, .slice a4 n4 c4] 40)).alloc (.cells #[.int .i64 1, .int .i64 lock, .int .i64 lk, .int .i64 ls, .int .i64 lt, .int .i64 old, .int .i64 new, .int .i64 vn, .bool pe.en.ad.v6, .int .u64 pe.en.ad.hi, .int .u64 pe.en.ad.lo, .int .i64 pe.en.port, .bool pe.came, .int .i64 pe.since, .int .i64 pe.pts, .int .i64 pe.at_, .int .i64 pe.ping, .int .i64 pe.work, .slice oa nb oc, .slice ka nk kc, .bool mark] 56)) w.heap.size [.int .i64 x0, .int .i64 x1, .slice a1 n1 c1, .slice a2 n2 c2, .slice a3 n3 c3, .slice a4 n4 c4] 40 := (BlockIs.new w [.int .i64 x0, .int .i64 x1, .slice a1 n1 c1, .slice a2 n2 c2, .slice a3 n3 c3, .slice a4 n4 c4] _).alloc' _
  have hBo : BlockIs ((w.alloc (.cells #[.int .i64 x0, .int .i64 x1, .slice a1 n1 c1, .slice a2 n2 c2, .slice a3 n3 c3, .slice a4 n4 c4] 40)).alloc (.cells #[.int .i64 1, .int .i64 lock, .int .i64 lk, .int .i64 ls, .int .i64 lt, .int .i64 old, .int .i64 new, .int .i64 vn, .bool pe.en.ad.v6, .int .u64 pe.en.ad.hi, .int .u64 pe.en.ad.lo, .int .i64 pe.en.port, .bool pe.came, .int .i64 pe.since, .int .i64 pe.pts, .int .i64 pe.at_, .int .i64 pe.ping, .int .i64 pe.work, .slice oa nb oc, .slice ka nk kc, .bool mark] 56)) (w.heap.size + 1) [.int .i64 1, .int .i64 lock, .int .i64 lk, .int .i64 ls, .int .i64 lt, .int .i64 old, .int .i64 new, .int .i64 vn, .bool pe.en.ad.v6, .int .u64 pe.en.ad.hi, .int .u64 pe.en.ad.lo, .int .i64 pe.en.port, .bool pe.came, .int .i64 pe.since, .int .i64 pe.pts, .int .i64 pe.at_, .int .i64 pe.ping, .int .i64 pe.work, .slice oa nb oc, .slice ka nk kc, .bool mark] 56 := BlockIs.newAt' _ [.int .i64 1, .int .i64 lock, .int .i64 lk, .int .i64 ls, .int .i64 lt, .int .i64 old, .int .i64 new, .int .i64 vn, .bool pe.en.ad.v6, .int .u64 pe.en.ad.hi, .int .u64 pe.en.ad.lo, .int .i64 pe.en.port, .bool pe.came, .int .i64 pe.since, .int .i64 pe.pts, .int .i64 pe.at_, .int .i64 pe.ping, .int .i64 pe.work, .slice oa nb oc, .slice ka nk kc, .bool mark] _ (by simp)
  have HBm := Lib.hid hBm; have HBo := Lib.hid hBo
  have s0 := hBm.cell (i := 0) rfl; have s1 := hBm.cell (i := 1) rfl; have s2 := hBm.cell (i := 2) rfl; have s3 := hBm.cell (i := 3) rfl; have s4 := hBm.cell (i := 4) rfl; have s5 := hBm.cell (i := 5) rfl
  clear hBm
  go_enter Tryz.func12, Tryz.ntmps12
  go_wp2_with (first
    | (refine list_load_blk rfl 56 _ rfl (w.heap.size + 1) [.int .i64 1, .int .i64 lock, .int .i64 lk, .int .i64 ls, .int .i64 lt, .int .i64 old, .int .i64 new, .int .i64 vn, .bool pe.en.ad.v6, .int .u64 pe.en.ad.hi, .int .u64 pe.en.ad.lo, .int .i64 pe.en.port, .bool pe.came, .int .i64 pe.since, .int .i64 pe.pts, .int .i64 pe.at_, .int .i64 pe.ping, .int .i64 pe.work, .slice oa nb oc, .slice ka nk kc, .bool mark] 56 hBo rfl Tryz.underlying56 (by kernel_rfl) ?_)
    | (go_at_call 38; (with_reducible refine (HR.out _).mono ?_); rintro e w1 ⟨rfl, b1⟩; have b1o := b1; simp only [World.size_alloc] at b1; have z1 := b1.size; have b2 : Below w.heap.size w w1 := (by exact bel); have hM1 := HBm.out.below b1o; have hO1 := HBo.out.below b1o; have p0 := hM1.cell (i := 0) rfl; have p1 := hM1.cell (i := 1) rfl; have p2 := hM1.cell (i := 2) rfl; have p3 := hM1.cell (i := 3) rfl; have p4 := hM1.cell (i := 4) rfl; have p5 := hM1.cell (i := 5) rfl; have o0 := hO1.cell (i := 0) rfl; have o1 := hO1.cell (i := 1) rfl)
    | (go_at_call 39; (with_reducible refine (HL.out _ b2).mono ?_); rintro e w3 ⟨rfl, b3⟩; have z3 := b3.size; have hO3 := (hO1.below b3).alloc' (.cells #[.int .i64 qb, .slice qa ql.length qc] 90); have hL3 : BlockIs (w3.alloc (.cells #[.int .i64 qb, .slice qa ql.length qc] 90)) w3.heap.size [.int .i64 qb, .slice qa ql.length qc] 90 := BlockIs.new w3 _ _; have t0 := hO3.cell (i := 0) rfl; have t1 := hO3.cell (i := 1) rfl; have q0 := hL3.cell (i := 0) rfl; have q1 := hL3.cell (i := 1) rfl))

  go_ret
  exact ⟨rfl, by first | exact (below2 b2 b3).alloc (below2 b2 b3).size _ | exact bel⟩

set_option maxRecDepth 100000 in
set_option maxHeartbeats 8000000 in
theorem memMay_2n (m : Mm) (o : Oq) (who : Int) (w : World) (h : MmAt w m) (ho : OqAt w o) (hr : opRight o m.parts.2.length = true) (hk : o.kind = 2) (hb : ¬ (lkOf m o.lock).b = 0) :
    Calls Tryz.prog 12 #[.agg #[.int .i64 m.inn, .int .i64 m.out, m.bans.1, m.book.1, m.parts.1, m.locks.1], .agg #[.int .i64 o.kind, .int .i64 o.lock, .int .i64 o.lk, .int .i64 o.ls, .int .i64 o.lt, .int .i64 o.old, .int .i64 o.new, .int .i64 o.vn, .bool o.pe.en.ad.v6, .int .u64 o.pe.en.ad.hi, .int .u64 o.pe.en.ad.lo, .int .i64 o.pe.en.port, .bool o.pe.came, .int .i64 o.pe.since, .int .i64 o.pe.pts, .int .i64 o.pe.at_, .int .i64 o.pe.ping, .int .i64 o.pe.work, o.bans.1, o.book.1, .bool o.mark], .int .i64 who] w fun e w' => e = .returned (.bool (mayP m.pl o)) ∧ Below w.heap.size w w' := by
  have HL := Lib.hid (fun (W : World) (hb : Below w.heap.size w W) => memLock_any m o.lock W (h.below hb))
  have hlr := lkOf_at h o.lock
  have HR := Lib.hid (fun (W : World) => opRight_any o m.parts.2.length W)
  have hpl : m.pl.parts.length = m.parts.2.length := by unfold Mm.pl; simp
  have hlp := lkOf_pl m o.lock
  generalize lkOf m o.lock = q at *
  obtain ⟨qb, qv, ql⟩ := q
  simp only at hlr hlp HL
  obtain ⟨_, qa, qc, eq, _⟩ := ins_open hlr
  subst eq
  have hres : mayP m.pl o = false := by unfold mayP; rw [hpl, hlp]; rw [hr, if_neg (by omega), if_pos hk, decide_eq_false hb]; rfl
  rw [hres]
  obtain ⟨a1, a2, a3, a4, c1, c2, c3, c4, e1, e2, e3, e4⟩ := mm_slices h
  obtain ⟨_, oa, oc, eo, _⟩ := ba_open ho.1
  obtain ⟨_, ka, kc, ek, _⟩ := ey_open ho.2
  obtain ⟨x0, x1, ⟨y1, z1⟩, ⟨y2, z2⟩, ⟨y3, z3⟩, ⟨y4, z4⟩⟩ := m
  obtain ⟨kind, lock, lk, ls, lt, old, new, vn, pe, ⟨ob, obl⟩, ⟨okv, okl⟩, mark⟩ := o
  simp only at e1 e2 e3 e4 eo ek
  subst e1 e2 e3 e4 eo ek
  clear hres hpl hlp hlr h ho
  simp only at *
  generalize z1.length = n1 at *; generalize z2.length = n2 at *; generalize z3.length = n3 at *; generalize z4.length = n4 at *; generalize obl.length = nb at *; generalize okl.length = nk at *
  rw [hr] at HR
  clear hr
  subst hk
  have f1 : (qb == 0) = false := by simpa using hb
  clear hb
  have hBm : BlockIs ((w.alloc (.cells #[.int .i64 x0, .int .i64 x1, .slice a1 n1 c1, .slice a2 n2 c2, .slice a3 n3 c3, .slice a4 n4 c4] 40)).alloc (.cells #[.int .i64 2, .int .i64 lock, .int .i64 lk, .int .i64 ls, .int .i64 lt, .int .i64 old, .int .i64 new, .int .i64 vn, .bool pe.en.ad.v6, .int .u64 pe.en.ad.hi, .int .u64 pe.en.ad.lo, .int .i64 pe.en.port, .bool pe.came, .int .i64 pe.since, .int .i64 pe.pts, .int .i64 pe.at_, .int .i64 pe.ping, .int .i64 pe.work, .slice oa nb oc, .slice ka nk kc, .bool mark] 56)) w.heap.size [.int .i64 x0, .int .i64 x1, .slice a1 n1 c1, .slice a2 n2 c2, .slice a3 n3 c3, .slice a4 n4 c4] 40 := (BlockIs.new w [.int .i64 x0, .int .i64 x1, .slice a1 n1 c1, .slice a2 n2 c2, .slice a3 n3 c3, .slice a4 n4 c4] _).alloc' _
  have hBo : BlockIs ((w.alloc (.cells #[.int .i64 x0, .int .i64 x1, .slice a1 n1 c1, .slice a2 n2 c2, .slice a3 n3 c3, .slice a4 n4 c4] 40)).alloc (.cells #[.int .i64 2, .int .i64 lock, .int .i64 lk, .int .i64 ls, .int .i64 lt, .int .i64 old, .int .i64 new, .int .i64 vn, .bool pe.en.ad.v6, .int .u64 pe.en.ad.hi, .int .u64 pe.en.ad.lo, .int .i64 pe.en.port, .bool pe.came, .int .i64 pe.since, .int .i64 pe.pts, .int .i64 pe.at_, .int .i64 pe.ping, .int .i64 pe.work, .slice oa nb oc, .slice ka nk kc, .bool mark] 56)) (w.heap.size + 1) [.int .i64 2, .int .i64 lock, .int .i64 lk, .int .i64 ls, .int .i64 lt, .int .i64 old, .int .i64 new, .int .i64 vn, .bool pe.en.ad.v6, .int .u64 pe.en.ad.hi, .int .u64 pe.en.ad.lo, .int .i64 pe.en.port, .bool pe.came, .int .i64 pe.since, .int .i64 pe.pts, .int .i64 pe.at_, .int .i64 pe.ping, .int .i64 pe.work, .slice oa nb oc, .slice ka nk kc, .bool mark] 56 := BlockIs.newAt' _ [.int .i64 2, .int .i64 lock, .int .i64 lk, .int .i64 ls, .int .i64 lt, .int .i64 old, .int .i64 new, .int .i64 vn, .bool pe.en.ad.v6, .int .u64 pe.en.ad.hi, .int .u64 pe.en.ad.lo, .int .i64 pe.en.port, .bool pe.came, .int .i64 pe.since, .int .i64 pe.pts, .int .i64 pe.at_, .int .i64 pe.ping, .int .i64 pe.work, .slice oa nb oc, .slice ka nk kc, .bool mark] _ (by simp)
  have HBm := Lib.hid hBm; have HBo := Lib.hid hBo
  have s0 := hBm.cell (i := 0) rfl; have s1 := hBm.cell (i := 1) rfl; have s2 := hBm.cell (i := 2) rfl; have s3 := hBm.cell (i := 3) rfl; have s4 := hBm.cell (i := 4) rfl; have s5 := hBm.cell (i := 5) rfl
  clear hBm
  go_enter Tryz.func12, Tryz.ntmps12
  go_wp2_with (first
    | (refine list_load_blk rfl 56 _ rfl (w.heap.size + 1) [.int .i64 2, .int .i64 lock, .int .i64 lk, .int .i64 ls, .int .i64 lt, .int .i64 old, .int .i64 new, .int .i64 vn, .bool pe.en.ad.v6, .int .u64 pe.en.ad.hi, .int .u64 pe.en.ad.lo, .int .i64 pe.en.port, .bool pe.came, .int .i64 pe.since, .int .i64 pe.pts, .int .i64 pe.at_, .int .i64 pe.ping, .int .i64 pe.work, .slice oa nb oc, .slice ka nk kc, .bool mark] 56 hBo rfl Tryz.underlying56 (by kernel_rfl) ?_)
    | (go_at_call 38; (with_reducible refine (HR.out _).mono ?_); rintro e w1 ⟨rfl, b1⟩; have b1o := b1; simp only [World.size_alloc] at b1; have z1 := b1.size; have b2 : Below w.heap.size w w1 := (by exact bel); have hM1 := HBm.out.below b1o; have hO1 := HBo.out.below b1o; have p0 := hM1.cell (i := 0) rfl; have p1 := hM1.cell (i := 1) rfl; have p2 := hM1.cell (i := 2) rfl; have p3 := hM1.cell (i := 3) rfl; have p4 := hM1.cell (i := 4) rfl; have p5 := hM1.cell (i := 5) rfl; have o0 := hO1.cell (i := 0) rfl; have o1 := hO1.cell (i := 1) rfl)
    | (go_at_call 39; (with_reducible refine (HL.out _ b2).mono ?_); rintro e w3 ⟨rfl, b3⟩; have z3 := b3.size; have hO3 := (hO1.below b3).alloc' (.cells #[.int .i64 qb, .slice qa ql.length qc] 90); have hL3 : BlockIs (w3.alloc (.cells #[.int .i64 qb, .slice qa ql.length qc] 90)) w3.heap.size [.int .i64 qb, .slice qa ql.length qc] 90 := BlockIs.new w3 _ _; have t0 := hO3.cell (i := 0) rfl; have t1 := hO3.cell (i := 1) rfl; have q0 := hL3.cell (i := 0) rfl; have q1 := hL3.cell (i := 1) rfl))

  go_ret
  exact ⟨rfl, by first | exact (below2 b2 b3).alloc (below2 b2 b3).size _ | exact bel⟩

set_option maxRecDepth 100000 in
set_option maxHeartbeats 8000000 in
theorem memMay_3 (m : Mm) (o : Oq) (who : Int) (w : World) (h : MmAt w m) (ho : OqAt w o) (hr : opRight o m.parts.2.length = true) (hk : ¬ o.kind = 1) (hk2 : ¬ o.kind = 2) :
    Calls Tryz.prog 12 #[.agg #[.int .i64 m.inn, .int .i64 m.out, m.bans.1, m.book.1, m.parts.1, m.locks.1], .agg #[.int .i64 o.kind, .int .i64 o.lock, .int .i64 o.lk, .int .i64 o.ls, .int .i64 o.lt, .int .i64 o.old, .int .i64 o.new, .int .i64 o.vn, .bool o.pe.en.ad.v6, .int .u64 o.pe.en.ad.hi, .int .u64 o.pe.en.ad.lo, .int .i64 o.pe.en.port, .bool o.pe.came, .int .i64 o.pe.since, .int .i64 o.pe.pts, .int .i64 o.pe.at_, .int .i64 o.pe.ping, .int .i64 o.pe.work, o.bans.1, o.book.1, .bool o.mark], .int .i64 who] w fun e w' => e = .returned (.bool (mayP m.pl o)) ∧ Below w.heap.size w w' := by
  have HL := Lib.hid (fun (W : World) (hb : Below w.heap.size w W) => memLock_any m o.lock W (h.below hb))
  have hlr := lkOf_at h o.lock
  have HR := Lib.hid (fun (W : World) => opRight_any o m.parts.2.length W)
  have hpl : m.pl.parts.length = m.parts.2.length := by unfold Mm.pl; simp
  have hlp := lkOf_pl m o.lock
  generalize lkOf m o.lock = q at *
  obtain ⟨qb, qv, ql⟩ := q
  simp only at hlr hlp HL
  obtain ⟨_, qa, qc, eq, _⟩ := ins_open hlr
  subst eq
  have hres : mayP m.pl o = true := by unfold mayP; rw [hpl, hlp]; rw [hr, if_neg hk, if_neg hk2]; rfl
  rw [hres]
  obtain ⟨a1, a2, a3, a4, c1, c2, c3, c4, e1, e2, e3, e4⟩ := mm_slices h
  obtain ⟨_, oa, oc, eo, _⟩ := ba_open ho.1
  obtain ⟨_, ka, kc, ek, _⟩ := ey_open ho.2
  obtain ⟨x0, x1, ⟨y1, z1⟩, ⟨y2, z2⟩, ⟨y3, z3⟩, ⟨y4, z4⟩⟩ := m
  obtain ⟨kind, lock, lk, ls, lt, old, new, vn, pe, ⟨ob, obl⟩, ⟨okv, okl⟩, mark⟩ := o
  simp only at e1 e2 e3 e4 eo ek
  subst e1 e2 e3 e4 eo ek
  clear hres hpl hlp hlr h ho
  simp only at *
  generalize z1.length = n1 at *; generalize z2.length = n2 at *; generalize z3.length = n3 at *; generalize z4.length = n4 at *; generalize obl.length = nb at *; generalize okl.length = nk at *
  rw [hr] at HR
  clear hr
  have f1 : (kind == 1) = false := beq_eq_false_iff_ne.2 hk
  have f2 : (kind == 2) = false := beq_eq_false_iff_ne.2 hk2
  clear hk hk2
  have hBm : BlockIs ((w.alloc (.cells #[.int .i64 x0, .int .i64 x1, .slice a1 n1 c1, .slice a2 n2 c2, .slice a3 n3 c3, .slice a4 n4 c4] 40)).alloc (.cells #[.int .i64 kind, .int .i64 lock, .int .i64 lk, .int .i64 ls, .int .i64 lt, .int .i64 old, .int .i64 new, .int .i64 vn, .bool pe.en.ad.v6, .int .u64 pe.en.ad.hi, .int .u64 pe.en.ad.lo, .int .i64 pe.en.port, .bool pe.came, .int .i64 pe.since, .int .i64 pe.pts, .int .i64 pe.at_, .int .i64 pe.ping, .int .i64 pe.work, .slice oa nb oc, .slice ka nk kc, .bool mark] 56)) w.heap.size [.int .i64 x0, .int .i64 x1, .slice a1 n1 c1, .slice a2 n2 c2, .slice a3 n3 c3, .slice a4 n4 c4] 40 := (BlockIs.new w [.int .i64 x0, .int .i64 x1, .slice a1 n1 c1, .slice a2 n2 c2, .slice a3 n3 c3, .slice a4 n4 c4] _).alloc' _
  have hBo : BlockIs ((w.alloc (.cells #[.int .i64 x0, .int .i64 x1, .slice a1 n1 c1, .slice a2 n2 c2, .slice a3 n3 c3, .slice a4 n4 c4] 40)).alloc (.cells #[.int .i64 kind, .int .i64 lock, .int .i64 lk, .int .i64 ls, .int .i64 lt, .int .i64 old, .int .i64 new, .int .i64 vn, .bool pe.en.ad.v6, .int .u64 pe.en.ad.hi, .int .u64 pe.en.ad.lo, .int .i64 pe.en.port, .bool pe.came, .int .i64 pe.since, .int .i64 pe.pts, .int .i64 pe.at_, .int .i64 pe.ping, .int .i64 pe.work, .slice oa nb oc, .slice ka nk kc, .bool mark] 56)) (w.heap.size + 1) [.int .i64 kind, .int .i64 lock, .int .i64 lk, .int .i64 ls, .int .i64 lt, .int .i64 old, .int .i64 new, .int .i64 vn, .bool pe.en.ad.v6, .int .u64 pe.en.ad.hi, .int .u64 pe.en.ad.lo, .int .i64 pe.en.port, .bool pe.came, .int .i64 pe.since, .int .i64 pe.pts, .int .i64 pe.at_, .int .i64 pe.ping, .int .i64 pe.work, .slice oa nb oc, .slice ka nk kc, .bool mark] 56 := BlockIs.newAt' _ [.int .i64 kind, .int .i64 lock, .int .i64 lk, .int .i64 ls, .int .i64 lt, .int .i64 old, .int .i64 new, .int .i64 vn, .bool pe.en.ad.v6, .int .u64 pe.en.ad.hi, .int .u64 pe.en.ad.lo, .int .i64 pe.en.port, .bool pe.came, .int .i64 pe.since, .int .i64 pe.pts, .int .i64 pe.at_, .int .i64 pe.ping, .int .i64 pe.work, .slice oa nb oc, .slice ka nk kc, .bool mark] _ (by simp)
  have HBm := Lib.hid hBm; have HBo := Lib.hid hBo
  have s0 := hBm.cell (i := 0) rfl; have s1 := hBm.cell (i := 1) rfl; have s2 := hBm.cell (i := 2) rfl; have s3 := hBm.cell (i := 3) rfl; have s4 := hBm.cell (i := 4) rfl; have s5 := hBm.cell (i := 5) rfl
  clear hBm
  go_enter Tryz.func12, Tryz.ntmps12
  go_wp2_with (first
    | (refine list_load_blk rfl 56 _ rfl (w.heap.size + 1) [.int .i64 kind, .int .i64 lock, .int .i64 lk, .int .i64 ls, .int .i64 lt, .int .i64 old, .int .i64 new, .int .i64 vn, .bool pe.en.ad.v6, .int .u64 pe.en.ad.hi, .int .u64 pe.en.ad.lo, .int .i64 pe.en.port, .bool pe.came, .int .i64 pe.since, .int .i64 pe.pts, .int .i64 pe.at_, .int .i64 pe.ping, .int .i64 pe.work, .slice oa nb oc, .slice ka nk kc, .bool mark] 56 hBo rfl Tryz.underlying56 (by kernel_rfl) ?_)
    | (go_at_call 38; (with_reducible refine (HR.out _).mono ?_); rintro e w1 ⟨rfl, b1⟩; have b1o := b1; simp only [World.size_alloc] at b1; have z1 := b1.size; have b2 : Below w.heap.size w w1 := (by exact bel); have hM1 := HBm.out.below b1o; have hO1 := HBo.out.below b1o; have p0 := hM1.cell (i := 0) rfl; have p1 := hM1.cell (i := 1) rfl; have p2 := hM1.cell (i := 2) rfl; have p3 := hM1.cell (i := 3) rfl; have p4 := hM1.cell (i := 4) rfl; have p5 := hM1.cell (i := 5) rfl; have o0 := hO1.cell (i := 0) rfl; have o1 := hO1.cell (i := 1) rfl)
    | (go_at_call 39; (with_reducible refine (HL.out _ b2).mono ?_); rintro e w3 ⟨rfl, b3⟩; have z3 := b3.size; have hO3 := (hO1.below b3).alloc' (.cells #[.int .i64 qb, .slice qa ql.length qc] 90); have hL3 : BlockIs (w3.alloc (.cells #[.int .i64 qb, .slice qa ql.length qc] 90)) w3.heap.size [.int .i64 qb, .slice qa ql.length qc] 90 := BlockIs.new w3 _ _; have t0 := hO3.cell (i := 0) rfl; have t1 := hO3.cell (i := 1) rfl; have q0 := hL3.cell (i := 0) rfl; have q1 := hL3.cell (i := 1) rfl))

  go_ret
  exact ⟨rfl, by first | exact (below2 b2 b3).alloc (below2 b2 b3).size _ | exact bel⟩

theorem memMay_any (m : Mm) (o : Oq) (who : Int) (w : World) (h : MmAt w m) (ho : OqAt w o) :
    Calls Tryz.prog 12 #[.agg #[.int .i64 m.inn, .int .i64 m.out, m.bans.1, m.book.1, m.parts.1, m.locks.1], .agg #[.int .i64 o.kind, .int .i64 o.lock, .int .i64 o.lk, .int .i64 o.ls, .int .i64 o.lt, .int .i64 o.old, .int .i64 o.new, .int .i64 o.vn, .bool o.pe.en.ad.v6, .int .u64 o.pe.en.ad.hi, .int .u64 o.pe.en.ad.lo, .int .i64 o.pe.en.port, .bool o.pe.came, .int .i64 o.pe.since, .int .i64 o.pe.pts, .int .i64 o.pe.at_, .int .i64 o.pe.ping, .int .i64 o.pe.work, o.bans.1, o.book.1, .bool o.mark], .int .i64 who] w fun e w' => e = .returned (.bool (mayP m.pl o)) ∧ Below w.heap.size w w' := by
  cases hr : opRight o m.parts.2.length with
  | false => exact memMay_no m o who w h ho hr
  | true =>
    by_cases h1 : o.kind = 1
    · by_cases hb : (lkOf m o.lock).b = 0
      · by_cases hs : (lkOf m o.lock).l = []
        · exact memMay_1yy m o who w h ho hr h1 hb hs
        · exact memMay_1yn m o who w h ho hr h1 hb hs
      · by_cases hs : (lkOf m o.lock).l = []
        · exact memMay_1ny m o who w h ho hr h1 hb hs
        · exact memMay_1nn m o who w h ho hr h1 hb hs
    · by_cases h2 : o.kind = 2
      · by_cases hb : (lkOf m o.lock).b = 0
        · exact memMay_2y m o who w h ho hr h2 hb
        · exact memMay_2n m o who w h ho hr h2 hb
      · exact memMay_3 m o who w h ho hr h1 h2
end Go.Proofs.YtnplgagaoeckoaaGreat
namespace Go.Proofs.YtnplgagaoeckoaaGreat
open Go.RowKit
set_option linter.unusedSimpArgs false
set_option linter.unusedVariables false

def GivesMm (w0 : World → Prop) (B : Nat) (w : World) (r : Pm) (e : Ending) (w' : World) : Prop := ∃ m : Mm, e = .returned (.agg #[.int .i64 m.inn, .int .i64 m.out, m.bans.1, m.book.1, m.parts.1, m.locks.1]) ∧ Firm w0 B w' (fun W => MmAt W m) ∧ m.pl = r ∧ Below w.heap.size w w'

set_option maxRecDepth 100000 in
set_option maxHeartbeats 8000000 in
theorem memStore_0 (w0 : World → Prop) (hg : Grows w0) (B : Nat) (m : Mm) (k s t : Int) (v : Vm) (w : World) (hb0 : w0 w) (hB : B ≤ w.heap.size) (hm : ∀ W, w0 W → MmAt W m) (hv : VmAt w v) (hk : k ≠ 3 ∧ k ≠ 4 ∧ k ≠ 5 ∧ k ≠ 6) :
    Calls Tryz.prog 48 #[.agg #[.int .i64 m.inn, .int .i64 m.out, m.bans.1, m.book.1, m.parts.1, m.locks.1], .agg #[.int .i64 k, .int .i64 s, .int .i64 t], .agg #[.int .i64 v.n, .bool v.pe.en.ad.v6, .int .u64 v.pe.en.ad.hi, .int .u64 v.pe.en.ad.lo, .int .i64 v.pe.en.port, .bool v.pe.came, .int .i64 v.pe.since, .int .i64 v.pe.pts, .int .i64 v.pe.at_, .int .i64 v.pe.ping, .int .i64 v.pe.work, v.bans.1, v.book.1]] w (GivesMm w0 B w (storeP m.pl k s t v.pl)) := by
  have hres : storeP m.pl k s t v.pl = m.pl := by unfold storeP; rw [if_neg hk.1, if_neg hk.2.1, if_neg hk.2.2.1, if_neg hk.2.2.2]
  rw [hres]
  unfold GivesMm
  have h := hm w hb0
  have HM := Lib.hid hm
  skip
  obtain ⟨a1, a2, a3, a4, c1, c2, c3, c4, e1, e2, e3, e4⟩ := mm_slices h
  obtain ⟨_, oa, oc, eo, _⟩ := ba_open hv.1
  obtain ⟨_, ka, kc, ek, _⟩ := ey_open hv.2
  have hmm : m = ⟨m.inn, m.out, (.slice a1 m.bans.2.length c1, m.bans.2), (.slice a2 m.book.2.length c2, m.book.2), (.slice a3 m.parts.2.length c3, m.parts.2), (.slice a4 m.locks.2.length c4, m.locks.2)⟩ := by rw [← e1, ← e2, ← e3, ← e4]
  have HMM := Lib.hid hmm
  skip
  rw [e1, e2, e3, e4, eo, ek]
  clear hres e1 e2 e3 e4 eo ek hmm
  obtain ⟨x0, hx0⟩ : ∃ x, x = m.inn := ⟨_, rfl⟩
  obtain ⟨x1, hx1⟩ : ∃ x, x = m.out := ⟨_, rfl⟩
  obtain ⟨n1, hn1⟩ : ∃ n, n = m.bans.2.length := ⟨_, rfl⟩
  obtain ⟨n2, hn2⟩ : ∃ n, n = m.book.2.length := ⟨_, rfl⟩
  obtain ⟨n3, hn3⟩ : ∃ n, n = m.parts.2.length := ⟨_, rfl⟩
  obtain ⟨n4, hn4⟩ : ∃ n, n = m.locks.2.length := ⟨_, rfl⟩
  obtain ⟨nb, hnb⟩ : ∃ n, n = v.bans.2.length := ⟨_, rfl⟩
  obtain ⟨nk, hnk⟩ : ∃ n, n = v.book.2.length := ⟨_, rfl⟩
  rw [← hx0, ← hx1, ← hn1, ← hn2, ← hn3, ← hn4, ← hnb, ← hnk]
  rw [← hx0, ← hx1, ← hn1, ← hn2, ← hn3, ← hn4] at HMM
  skip
  have HNB := Lib.hid hnb; have HNK := Lib.hid hnk; have HN3 := Lib.hid hn3
  clear h hv hm hg hx0 hx1 hn1 hn2 hn3 hn4 hnb hnk
  have f3 : (k == 3) = false := beq_eq_false_iff_ne.2 hk.1; have f4 : (k == 4) = false := beq_eq_false_iff_ne.2 hk.2.1; have f5 : (k == 5) = false := beq_eq_false_iff_ne.2 hk.2.2.1; have f6 : (k == 6) = false := beq_eq_false_iff_ne.2 hk.2.2.2
  clear hk
  go_enter Tryz.func48, Tryz.ntmps48
  go_upto_region 1 with fail
  obtain ⟨W4, hW4⟩ : ∃ W4, W4 = (((w.alloc (.cells #[.int .i64 x0, .int .i64 x1, .slice a1 n1 c1, .slice a2 n2 c2, .slice a3 n3 c3, .slice a4 n4 c4] 40)).alloc (.cells #[.int .i64 k, .int .i64 s, .int .i64 t] 44)).alloc (.cells #[.int .i64 v.n, .bool v.pe.en.ad.v6, .int .u64 v.pe.en.ad.hi, .int .u64 v.pe.en.ad.lo, .int .i64 v.pe.en.port, .bool v.pe.came, .int .i64 v.pe.since, .int .i64 v.pe.pts, .int .i64 v.pe.at_, .int .i64 v.pe.ping, .int .i64 v.pe.work, .slice oa nb oc, .slice ka nk kc] 54)).alloc (.cells #[.int .i64 0, .int .i64 0, .slice none 0 0, .slice none 0 0, .slice none 0 0, .slice none 0 0] 40) := ⟨_, rfl⟩
  rw [← hW4]
  have B4 : Below w.heap.size w W4 := by subst hW4; exact bel
  have hBm : BlockIs W4 w.heap.size [.int .i64 x0, .int .i64 x1, .slice a1 n1 c1, .slice a2 n2 c2, .slice a3 n3 c3, .slice a4 n4 c4] 40 := by subst hW4; exact (((BlockIs.new w [.int .i64 x0, .int .i64 x1, .slice a1 n1 c1, .slice a2 n2 c2, .slice a3 n3 c3, .slice a4 n4 c4] _).alloc' _).alloc' _).alloc' _
  have hBl : BlockIs W4 (w.heap.size + 1) [.int .i64 k, .int .i64 s, .int .i64 t] 44 := by subst hW4; exact ((BlockIs.newAt' _ [.int .i64 k, .int .i64 s, .int .i64 t] _ (by simp)).alloc' _).alloc' _
  have hBv : BlockIs W4 (w.heap.size + 1 + 1) [.int .i64 v.n, .bool v.pe.en.ad.v6, .int .u64 v.pe.en.ad.hi, .int .u64 v.pe.en.ad.lo, .int .i64 v.pe.en.port, .bool v.pe.came, .int .i64 v.pe.since, .int .i64 v.pe.pts, .int .i64 v.pe.at_, .int .i64 v.pe.ping, .int .i64 v.pe.work, .slice oa nb oc, .slice ka nk kc] 54 := by subst hW4; exact (BlockIs.newAt' _ [.int .i64 v.n, .bool v.pe.en.ad.v6, .int .u64 v.pe.en.ad.hi, .int .u64 v.pe.en.ad.lo, .int .i64 v.pe.en.port, .bool v.pe.came, .int .i64 v.pe.since, .int .i64 v.pe.pts, .int .i64 v.pe.at_, .int .i64 v.pe.ping, .int .i64 v.pe.work, .slice oa nb oc, .slice ka nk kc] _ (by simp)).alloc' _
  have hBr : BlockIs W4 (w.heap.size + 1 + 1 + 1) [.int .i64 0, .int .i64 0, .slice none 0 0, .slice none 0 0, .slice none 0 0, .slice none 0 0] 40 := by subst hW4; exact BlockIs.newAt' _ [.int .i64 0, .int .i64 0, .slice none 0 0, .slice none 0 0, .slice none 0 0, .slice none 0 0] _ (by simp)
  have hs4 : W4.heap.size = w.heap.size + 1 + 1 + 1 + 1 := by subst hW4; simp
  clear hW4
  skip
  have m0 := hBm.cell (i := 0) rfl; have m1 := hBm.cell (i := 1) rfl; have m2 := hBm.cell (i := 2) rfl; have m3 := hBm.cell (i := 3) rfl; have m4 := hBm.cell (i := 4) rfl; have m5 := hBm.cell (i := 5) rfl; have mf := hBm.frozen; have ml := hBm.lt; have l0 := hBl.cell (i := 0) rfl; have l1 := hBl.cell (i := 1) rfl; have l2 := hBl.cell (i := 2) rfl; have v0 := hBv.cell (i := 0) rfl; have v1 := hBv.cell (i := 1) rfl; have v2 := hBv.cell (i := 2) rfl; have v3 := hBv.cell (i := 3) rfl; have v4 := hBv.cell (i := 4) rfl; have v5 := hBv.cell (i := 5) rfl; have v6 := hBv.cell (i := 6) rfl; have v7 := hBv.cell (i := 7) rfl; have v8 := hBv.cell (i := 8) rfl; have v9 := hBv.cell (i := 9) rfl; have v10 := hBv.cell (i := 10) rfl; have v11 := hBv.cell (i := 11) rfl; have v12 := hBv.cell (i := 12) rfl; have r0 := hBr.cell (i := 0) rfl; have r1 := hBr.cell (i := 1) rfl; have r2 := hBr.cell (i := 2) rfl; have r3 := hBr.cell (i := 3) rfl; have r4 := hBr.cell (i := 4) rfl; have r5 := hBr.cell (i := 5) rfl; have rf := hBr.frozen; have rl := hBr.lt
  go_wp2_with fail
  refine bodyPost_named fun W9 h9 => ?_
  have hR9 : BlockIs W9 (w.heap.size + 1 + 1 + 1) [.int .i64 x0, .int .i64 x1, .slice a1 n1 c1, .slice a2 n2 c2, .slice a3 n3 c3, .slice a4 n4 c4] 40 := by subst h9; ((refine RchW.get ?_); (repeat (first | with_reducible refine reach_set ?_ | with_reducible refine reach_other (by first | assumption | omega) ?_ | with_reducible refine reach_alloc ?_ | with_reducible refine reach_drew ?_)); exact reach_at (hBr) rfl)
  have b9 : Below w.heap.size w W9 := by subst h9; exact bel
  clear h9
  have e90 := hR9.cell (i := 0) rfl; have e91 := hR9.cell (i := 1) rfl; have e92 := hR9.cell (i := 2) rfl; have e93 := hR9.cell (i := 3) rfl; have e94 := hR9.cell (i := 4) rfl; have e95 := hR9.cell (i := 5) rfl
  exact bodyPost_ret (v := .agg #[.int .i64 x0, .int .i64 x1, .slice a1 n1 c1, .slice a2 n2 c2, .slice a3 n3 c3, .slice a4 n4 c4]) (by simp [results, Tryz.results48, go_sem, e90, e91, e92, e93, e94, e95]) rfl ⟨m, (by rw [HMM.out]), (fun W h0 hkp => by (have hm9 := HM.out W h0; exact hm9)), rfl, b9⟩

set_option maxRecDepth 100000 in
set_option maxHeartbeats 8000000 in
theorem memStore_3 (w0 : World → Prop) (hg : Grows w0) (B : Nat) (m : Mm) (s t : Int) (v : Vm) (w : World) (hb0 : w0 w) (hB : B ≤ w.heap.size) (hm : ∀ W, w0 W → MmAt W m) (hv : VmAt w v) (hl : v.bans.2.length ≤ 1000) :
    Calls Tryz.prog 48 #[.agg #[.int .i64 m.inn, .int .i64 m.out, m.bans.1, m.book.1, m.parts.1, m.locks.1], .agg #[.int .i64 3, .int .i64 s, .int .i64 t], .agg #[.int .i64 v.n, .bool v.pe.en.ad.v6, .int .u64 v.pe.en.ad.hi, .int .u64 v.pe.en.ad.lo, .int .i64 v.pe.en.port, .bool v.pe.came, .int .i64 v.pe.since, .int .i64 v.pe.pts, .int .i64 v.pe.at_, .int .i64 v.pe.ping, .int .i64 v.pe.work, v.bans.1, v.book.1]] w (GivesMm w0 B w (storeP m.pl 3 s t v.pl)) := by
  have hres : storeP m.pl 3 s t v.pl = { m.pl with bans := v.bans.2 } := by unfold storeP; rfl
  rw [hres]
  unfold GivesMm
  have h := hm w hb0
  have HM := Lib.hid hm
  skip
  obtain ⟨a1, a2, a3, a4, c1, c2, c3, c4, e1, e2, e3, e4⟩ := mm_slices h
  obtain ⟨_, oa, oc, eo, _⟩ := ba_open hv.1
  obtain ⟨_, ka, kc, ek, _⟩ := ey_open hv.2
  have hmm : m = ⟨m.inn, m.out, (.slice a1 m.bans.2.length c1, m.bans.2), (.slice a2 m.book.2.length c2, m.book.2), (.slice a3 m.parts.2.length c3, m.parts.2), (.slice a4 m.locks.2.length c4, m.locks.2)⟩ := by rw [← e1, ← e2, ← e3, ← e4]
  have HMM := Lib.hid hmm
  have HC := Lib.hid (fun (W : World) (hb : Below w.heap.size w W) => cloneBn v.bans.1 v.bans.2.length (v.bans.2.flatMap baV) W (ReadsL.below hv.1 hb) (baV_onesM _) (by omega))
  simp only [eo, ek] at HC
  rw [e1, e2, e3, e4, eo, ek]
  clear hres e1 e2 e3 e4 eo ek hmm
  obtain ⟨x0, hx0⟩ : ∃ x, x = m.inn := ⟨_, rfl⟩
  obtain ⟨x1, hx1⟩ : ∃ x, x = m.out := ⟨_, rfl⟩
  obtain ⟨n1, hn1⟩ : ∃ n, n = m.bans.2.length := ⟨_, rfl⟩
  obtain ⟨n2, hn2⟩ : ∃ n, n = m.book.2.length := ⟨_, rfl⟩
  obtain ⟨n3, hn3⟩ : ∃ n, n = m.parts.2.length := ⟨_, rfl⟩
  obtain ⟨n4, hn4⟩ : ∃ n, n = m.locks.2.length := ⟨_, rfl⟩
  obtain ⟨nb, hnb⟩ : ∃ n, n = v.bans.2.length := ⟨_, rfl⟩
  obtain ⟨nk, hnk⟩ : ∃ n, n = v.book.2.length := ⟨_, rfl⟩
  rw [← hx0, ← hx1, ← hn1, ← hn2, ← hn3, ← hn4, ← hnb, ← hnk]
  rw [← hx0, ← hx1, ← hn1, ← hn2, ← hn3, ← hn4] at HMM
  rw [← hnb] at HC
  have HNB := Lib.hid hnb; have HNK := Lib.hid hnk; have HN3 := Lib.hid hn3
  clear h hv hm hg hx0 hx1 hn1 hn2 hn3 hn4 hnb hnk
  skip
  go_enter Tryz.func48, Tryz.ntmps48
  go_upto_region 1 with fail
  obtain ⟨W4, hW4⟩ : ∃ W4, W4 = (((w.alloc (.cells #[.int .i64 x0, .int .i64 x1, .slice a1 n1 c1, .slice a2 n2 c2, .slice a3 n3 c3, .slice a4 n4 c4] 40)).alloc (.cells #[.int .i64 3, .int .i64 s, .int .i64 t] 44)).alloc (.cells #[.int .i64 v.n, .bool v.pe.en.ad.v6, .int .u64 v.pe.en.ad.hi, .int .u64 v.pe.en.ad.lo, .int .i64 v.pe.en.port, .bool v.pe.came, .int .i64 v.pe.since, .int .i64 v.pe.pts, .int .i64 v.pe.at_, .int .i64 v.pe.ping, .int .i64 v.pe.work, .slice oa nb oc, .slice ka nk kc] 54)).alloc (.cells #[.int .i64 0, .int .i64 0, .slice none 0 0, .slice none 0 0, .slice none 0 0, .slice none 0 0] 40) := ⟨_, rfl⟩
  rw [← hW4]
  have B4 : Below w.heap.size w W4 := by subst hW4; exact bel
  have hBm : BlockIs W4 w.heap.size [.int .i64 x0, .int .i64 x1, .slice a1 n1 c1, .slice a2 n2 c2, .slice a3 n3 c3, .slice a4 n4 c4] 40 := by subst hW4; exact (((BlockIs.new w [.int .i64 x0, .int .i64 x1, .slice a1 n1 c1, .slice a2 n2 c2, .slice a3 n3 c3, .slice a4 n4 c4] _).alloc' _).alloc' _).alloc' _
  have hBl : BlockIs W4 (w.heap.size + 1) [.int .i64 3, .int .i64 s, .int .i64 t] 44 := by subst hW4; exact ((BlockIs.newAt' _ [.int .i64 3, .int .i64 s, .int .i64 t] _ (by simp)).alloc' _).alloc' _
  have hBv : BlockIs W4 (w.heap.size + 1 + 1) [.int .i64 v.n, .bool v.pe.en.ad.v6, .int .u64 v.pe.en.ad.hi, .int .u64 v.pe.en.ad.lo, .int .i64 v.pe.en.port, .bool v.pe.came, .int .i64 v.pe.since, .int .i64 v.pe.pts, .int .i64 v.pe.at_, .int .i64 v.pe.ping, .int .i64 v.pe.work, .slice oa nb oc, .slice ka nk kc] 54 := by subst hW4; exact (BlockIs.newAt' _ [.int .i64 v.n, .bool v.pe.en.ad.v6, .int .u64 v.pe.en.ad.hi, .int .u64 v.pe.en.ad.lo, .int .i64 v.pe.en.port, .bool v.pe.came, .int .i64 v.pe.since, .int .i64 v.pe.pts, .int .i64 v.pe.at_, .int .i64 v.pe.ping, .int .i64 v.pe.work, .slice oa nb oc, .slice ka nk kc] _ (by simp)).alloc' _
  have hBr : BlockIs W4 (w.heap.size + 1 + 1 + 1) [.int .i64 0, .int .i64 0, .slice none 0 0, .slice none 0 0, .slice none 0 0, .slice none 0 0] 40 := by subst hW4; exact BlockIs.newAt' _ [.int .i64 0, .int .i64 0, .slice none 0 0, .slice none 0 0, .slice none 0 0, .slice none 0 0] _ (by simp)
  have hs4 : W4.heap.size = w.heap.size + 1 + 1 + 1 + 1 := by subst hW4; simp
  clear hW4
  skip
  have m0 := hBm.cell (i := 0) rfl; have m1 := hBm.cell (i := 1) rfl; have m2 := hBm.cell (i := 2) rfl; have m3 := hBm.cell (i := 3) rfl; have m4 := hBm.cell (i := 4) rfl; have m5 := hBm.cell (i := 5) rfl; have mf := hBm.frozen; have ml := hBm.lt; have l0 := hBl.cell (i := 0) rfl; have l1 := hBl.cell (i := 1) rfl; have l2 := hBl.cell (i := 2) rfl; have v0 := hBv.cell (i := 0) rfl; have v1 := hBv.cell (i := 1) rfl; have v2 := hBv.cell (i := 2) rfl; have v3 := hBv.cell (i := 3) rfl; have v4 := hBv.cell (i := 4) rfl; have v5 := hBv.cell (i := 5) rfl; have v6 := hBv.cell (i := 6) rfl; have v7 := hBv.cell (i := 7) rfl; have v8 := hBv.cell (i := 8) rfl; have v9 := hBv.cell (i := 9) rfl; have v10 := hBv.cell (i := 10) rfl; have v11 := hBv.cell (i := 11) rfl; have v12 := hBv.cell (i := 12) rfl; have r0 := hBr.cell (i := 0) rfl; have r1 := hBr.cell (i := 1) rfl; have r2 := hBr.cell (i := 2) rfl; have r3 := hBr.cell (i := 3) rfl; have r4 := hBr.cell (i := 4) rfl; have r5 := hBr.cell (i := 5) rfl; have rf := hBr.frozen; have rl := hBr.lt
  go_wp2_with (go_at_call 32; (with_reducible refine (HC.out _ (by first | exact B4 | exact bel)).mono ?_); rintro e w1 ⟨r1, rfl, o1, b1⟩; obtain ⟨a5, c5, e5⟩ := owns_slice o1; subst e5; have HO5 := Lib.hid o1; have z1 := b1.size; have hBm1 := hBm.below b1; have hBr1 := hBr.below b1; have B1 := below2 B4 b1; clear m0 m1 m2 m3 m4 m5 mf ml r0 r1 r2 r3 r4 r5 rf rl; have m0 := hBm1.cell (i := 0) rfl; have m1 := hBm1.cell (i := 1) rfl; have m2 := hBm1.cell (i := 2) rfl; have m3 := hBm1.cell (i := 3) rfl; have m4 := hBm1.cell (i := 4) rfl; have m5 := hBm1.cell (i := 5) rfl; have mf := hBm1.frozen; have ml := hBm1.lt; have r0 := hBr1.cell (i := 0) rfl; have r1 := hBr1.cell (i := 1) rfl; have r2 := hBr1.cell (i := 2) rfl; have r3 := hBr1.cell (i := 3) rfl; have r4 := hBr1.cell (i := 4) rfl; have r5 := hBr1.cell (i := 5) rfl; have rf := hBr1.frozen; have rl := hBr1.lt)
  refine bodyPost_named fun W9 h9 => ?_
  have hR9 : BlockIs W9 (w.heap.size + 1 + 1 + 1) [.int .i64 x0, .int .i64 x1, .slice a5 nb c5, .slice a2 n2 c2, .slice a3 n3 c3, .slice a4 n4 c4] 40 := by subst h9; ((refine RchW.get ?_); (repeat (first | with_reducible refine reach_set ?_ | with_reducible refine reach_other (by first | assumption | omega) ?_ | with_reducible refine reach_alloc ?_ | with_reducible refine reach_drew ?_)); exact reach_at (hBr1) rfl)
  have b9 : Below w.heap.size w W9 := by subst h9; exact bel
  have HV9 : Hid (W9.ownsRow W4.heap.size 84 5 (.slice a5 nb c5) nb (v.bans.2.flatMap baV)) := by
    subst h9
    unfold Hid
    refine owns_held HO5.out fun g arr hg hb => ?_
    have nB : w.heap.size ≠ g := by omega
    have nB2 : g ≠ w.heap.size := by omega
    have nB3 : g ≠ w.heap.size + 1 + 1 + 1 := by omega
    have nB4 : w.heap.size + 1 + 1 + 1 ≠ g := by omega
    ((refine RchW.get ?_); (repeat (first | with_reducible refine reach_set ?_ | with_reducible refine reach_other (by first | assumption | omega) ?_ | with_reducible refine reach_alloc ?_ | with_reducible refine reach_drew ?_)); exact reach_at (hb) rfl)
  clear h9
  have e90 := hR9.cell (i := 0) rfl; have e91 := hR9.cell (i := 1) rfl; have e92 := hR9.cell (i := 2) rfl; have e93 := hR9.cell (i := 3) rfl; have e94 := hR9.cell (i := 4) rfl; have e95 := hR9.cell (i := 5) rfl
  exact bodyPost_ret (v := .agg #[.int .i64 x0, .int .i64 x1, .slice a5 nb c5, .slice a2 n2 c2, .slice a3 n3 c3, .slice a4 n4 c4]) (by simp [results, Tryz.results48, go_sem, e90, e91, e92, e93, e94, e95]) rfl ⟨{ m with bans := (.slice a5 nb c5, v.bans.2) }, (by rw [HMM.out]), (fun W h0 hkp => by (have hm9 := HM.out W h0; exact ⟨by (unfold ReadsL; rw [← HNB.out]; exact owns_reads (owns_held HV9.out fun g arr hg hb => hkp g arr _ (by omega) hb)), hm9.2.1, hm9.2.2.1, hm9.2.2.2⟩)), rfl, b9⟩

set_option maxRecDepth 100000 in
set_option maxHeartbeats 8000000 in
theorem memStore_4 (w0 : World → Prop) (hg : Grows w0) (B : Nat) (m : Mm) (s t : Int) (v : Vm) (w : World) (hb0 : w0 w) (hB : B ≤ w.heap.size) (hm : ∀ W, w0 W → MmAt W m) (hv : VmAt w v) (hl : v.book.2.length ≤ 1000) :
    Calls Tryz.prog 48 #[.agg #[.int .i64 m.inn, .int .i64 m.out, m.bans.1, m.book.1, m.parts.1, m.locks.1], .agg #[.int .i64 4, .int .i64 s, .int .i64 t], .agg #[.int .i64 v.n, .bool v.pe.en.ad.v6, .int .u64 v.pe.en.ad.hi, .int .u64 v.pe.en.ad.lo, .int .i64 v.pe.en.port, .bool v.pe.came, .int .i64 v.pe.since, .int .i64 v.pe.pts, .int .i64 v.pe.at_, .int .i64 v.pe.ping, .int .i64 v.pe.work, v.bans.1, v.book.1]] w (GivesMm w0 B w (storeP m.pl 4 s t v.pl)) := by
  have hres : storeP m.pl 4 s t v.pl = { m.pl with book := v.book.2 } := by unfold storeP; rfl
  rw [hres]
  unfold GivesMm
  have h := hm w hb0
  have HM := Lib.hid hm
  skip
  obtain ⟨a1, a2, a3, a4, c1, c2, c3, c4, e1, e2, e3, e4⟩ := mm_slices h
  obtain ⟨_, oa, oc, eo, _⟩ := ba_open hv.1
  obtain ⟨_, ka, kc, ek, _⟩ := ey_open hv.2
  have hmm : m = ⟨m.inn, m.out, (.slice a1 m.bans.2.length c1, m.bans.2), (.slice a2 m.book.2.length c2, m.book.2), (.slice a3 m.parts.2.length c3, m.parts.2), (.slice a4 m.locks.2.length c4, m.locks.2)⟩ := by rw [← e1, ← e2, ← e3, ← e4]
  have HMM := Lib.hid hmm
  have HC := Lib.hid (fun (W : World) (hb : Below w.heap.size w W) => cloneEy v.book.1 v.book.2.length (v.book.2.flatMap eyV) W (ReadsL.below hv.2 hb) (eyV_ones _) (by omega))
  simp only [eo, ek] at HC
  rw [e1, e2, e3, e4, eo, ek]
  clear hres e1 e2 e3 e4 eo ek hmm
  obtain ⟨x0, hx0⟩ : ∃ x, x = m.inn := ⟨_, rfl⟩
  obtain ⟨x1, hx1⟩ : ∃ x, x = m.out := ⟨_, rfl⟩
  obtain ⟨n1, hn1⟩ : ∃ n, n = m.bans.2.length := ⟨_, rfl⟩
  obtain ⟨n2, hn2⟩ : ∃ n, n = m.book.2.length := ⟨_, rfl⟩
  obtain ⟨n3, hn3⟩ : ∃ n, n = m.parts.2.length := ⟨_, rfl⟩
  obtain ⟨n4, hn4⟩ : ∃ n, n = m.locks.2.length := ⟨_, rfl⟩
  obtain ⟨nb, hnb⟩ : ∃ n, n = v.bans.2.length := ⟨_, rfl⟩
  obtain ⟨nk, hnk⟩ : ∃ n, n = v.book.2.length := ⟨_, rfl⟩
  rw [← hx0, ← hx1, ← hn1, ← hn2, ← hn3, ← hn4, ← hnb, ← hnk]
  rw [← hx0, ← hx1, ← hn1, ← hn2, ← hn3, ← hn4] at HMM
  rw [← hnk] at HC
  have HNB := Lib.hid hnb; have HNK := Lib.hid hnk; have HN3 := Lib.hid hn3
  clear h hv hm hg hx0 hx1 hn1 hn2 hn3 hn4 hnb hnk
  skip
  go_enter Tryz.func48, Tryz.ntmps48
  go_upto_region 1 with fail
  obtain ⟨W4, hW4⟩ : ∃ W4, W4 = (((w.alloc (.cells #[.int .i64 x0, .int .i64 x1, .slice a1 n1 c1, .slice a2 n2 c2, .slice a3 n3 c3, .slice a4 n4 c4] 40)).alloc (.cells #[.int .i64 4, .int .i64 s, .int .i64 t] 44)).alloc (.cells #[.int .i64 v.n, .bool v.pe.en.ad.v6, .int .u64 v.pe.en.ad.hi, .int .u64 v.pe.en.ad.lo, .int .i64 v.pe.en.port, .bool v.pe.came, .int .i64 v.pe.since, .int .i64 v.pe.pts, .int .i64 v.pe.at_, .int .i64 v.pe.ping, .int .i64 v.pe.work, .slice oa nb oc, .slice ka nk kc] 54)).alloc (.cells #[.int .i64 0, .int .i64 0, .slice none 0 0, .slice none 0 0, .slice none 0 0, .slice none 0 0] 40) := ⟨_, rfl⟩
  rw [← hW4]
  have B4 : Below w.heap.size w W4 := by subst hW4; exact bel
  have hBm : BlockIs W4 w.heap.size [.int .i64 x0, .int .i64 x1, .slice a1 n1 c1, .slice a2 n2 c2, .slice a3 n3 c3, .slice a4 n4 c4] 40 := by subst hW4; exact (((BlockIs.new w [.int .i64 x0, .int .i64 x1, .slice a1 n1 c1, .slice a2 n2 c2, .slice a3 n3 c3, .slice a4 n4 c4] _).alloc' _).alloc' _).alloc' _
  have hBl : BlockIs W4 (w.heap.size + 1) [.int .i64 4, .int .i64 s, .int .i64 t] 44 := by subst hW4; exact ((BlockIs.newAt' _ [.int .i64 4, .int .i64 s, .int .i64 t] _ (by simp)).alloc' _).alloc' _
  have hBv : BlockIs W4 (w.heap.size + 1 + 1) [.int .i64 v.n, .bool v.pe.en.ad.v6, .int .u64 v.pe.en.ad.hi, .int .u64 v.pe.en.ad.lo, .int .i64 v.pe.en.port, .bool v.pe.came, .int .i64 v.pe.since, .int .i64 v.pe.pts, .int .i64 v.pe.at_, .int .i64 v.pe.ping, .int .i64 v.pe.work, .slice oa nb oc, .slice ka nk kc] 54 := by subst hW4; exact (BlockIs.newAt' _ [.int .i64 v.n, .bool v.pe.en.ad.v6, .int .u64 v.pe.en.ad.hi, .int .u64 v.pe.en.ad.lo, .int .i64 v.pe.en.port, .bool v.pe.came, .int .i64 v.pe.since, .int .i64 v.pe.pts, .int .i64 v.pe.at_, .int .i64 v.pe.ping, .int .i64 v.pe.work, .slice oa nb oc, .slice ka nk kc] _ (by simp)).alloc' _
  have hBr : BlockIs W4 (w.heap.size + 1 + 1 + 1) [.int .i64 0, .int .i64 0, .slice none 0 0, .slice none 0 0, .slice none 0 0, .slice none 0 0] 40 := by subst hW4; exact BlockIs.newAt' _ [.int .i64 0, .int .i64 0, .slice none 0 0, .slice none 0 0, .slice none 0 0, .slice none 0 0] _ (by simp)
  have hs4 : W4.heap.size = w.heap.size + 1 + 1 + 1 + 1 := by subst hW4; simp
  clear hW4
  skip
  have m0 := hBm.cell (i := 0) rfl; have m1 := hBm.cell (i := 1) rfl; have m2 := hBm.cell (i := 2) rfl; have m3 := hBm.cell (i := 3) rfl; have m4 := hBm.cell (i := 4) rfl; have m5 := hBm.cell (i := 5) rfl; have mf := hBm.frozen; have ml := hBm.lt; have l0 := hBl.cell (i := 0) rfl; have l1 := hBl.cell (i := 1) rfl; have l2 := hBl.cell (i := 2) rfl; have v0 := hBv.cell (i := 0) rfl; have v1 := hBv.cell (i := 1) rfl; have v2 := hBv.cell (i := 2) rfl; have v3 := hBv.cell (i := 3) rfl; have v4 := hBv.cell (i := 4) rfl; have v5 := hBv.cell (i := 5) rfl; have v6 := hBv.cell (i := 6) rfl; have v7 := hBv.cell (i := 7) rfl; have v8 := hBv.cell (i := 8) rfl; have v9 := hBv.cell (i := 9) rfl; have v10 := hBv.cell (i := 10) rfl; have v11 := hBv.cell (i := 11) rfl; have v12 := hBv.cell (i := 12) rfl; have r0 := hBr.cell (i := 0) rfl; have r1 := hBr.cell (i := 1) rfl; have r2 := hBr.cell (i := 2) rfl; have r3 := hBr.cell (i := 3) rfl; have r4 := hBr.cell (i := 4) rfl; have r5 := hBr.cell (i := 5) rfl; have rf := hBr.frozen; have rl := hBr.lt
  go_wp2_with (go_at_call 33; (with_reducible refine (HC.out _ (by first | exact B4 | exact bel)).mono ?_); rintro e w1 ⟨r1, rfl, o1, b1⟩; obtain ⟨a5, c5, e5⟩ := owns_slice o1; subst e5; have HO5 := Lib.hid o1; have z1 := b1.size; have hBm1 := hBm.below b1; have hBr1 := hBr.below b1; have B1 := below2 B4 b1; clear m0 m1 m2 m3 m4 m5 mf ml r0 r1 r2 r3 r4 r5 rf rl; have m0 := hBm1.cell (i := 0) rfl; have m1 := hBm1.cell (i := 1) rfl; have m2 := hBm1.cell (i := 2) rfl; have m3 := hBm1.cell (i := 3) rfl; have m4 := hBm1.cell (i := 4) rfl; have m5 := hBm1.cell (i := 5) rfl; have mf := hBm1.frozen; have ml := hBm1.lt; have r0 := hBr1.cell (i := 0) rfl; have r1 := hBr1.cell (i := 1) rfl; have r2 := hBr1.cell (i := 2) rfl; have r3 := hBr1.cell (i := 3) rfl; have r4 := hBr1.cell (i := 4) rfl; have r5 := hBr1.cell (i := 5) rfl; have rf := hBr1.frozen; have rl := hBr1.lt)
  refine bodyPost_named fun W9 h9 => ?_
  have hR9 : BlockIs W9 (w.heap.size + 1 + 1 + 1) [.int .i64 x0, .int .i64 x1, .slice a1 n1 c1, .slice a5 nk c5, .slice a3 n3 c3, .slice a4 n4 c4] 40 := by subst h9; ((refine RchW.get ?_); (repeat (first | with_reducible refine reach_set ?_ | with_reducible refine reach_other (by first | assumption | omega) ?_ | with_reducible refine reach_alloc ?_ | with_reducible refine reach_drew ?_)); exact reach_at (hBr1) rfl)
  have b9 : Below w.heap.size w W9 := by subst h9; exact bel
  have HV9 : Hid (W9.ownsRow W4.heap.size 87 7 (.slice a5 nk c5) nk (v.book.2.flatMap eyV)) := by
    subst h9
    unfold Hid
    refine owns_held HO5.out fun g arr hg hb => ?_
    have nB : w.heap.size ≠ g := by omega
    have nB2 : g ≠ w.heap.size := by omega
    have nB3 : g ≠ w.heap.size + 1 + 1 + 1 := by omega
    have nB4 : w.heap.size + 1 + 1 + 1 ≠ g := by omega
    ((refine RchW.get ?_); (repeat (first | with_reducible refine reach_set ?_ | with_reducible refine reach_other (by first | assumption | omega) ?_ | with_reducible refine reach_alloc ?_ | with_reducible refine reach_drew ?_)); exact reach_at (hb) rfl)
  clear h9
  have e90 := hR9.cell (i := 0) rfl; have e91 := hR9.cell (i := 1) rfl; have e92 := hR9.cell (i := 2) rfl; have e93 := hR9.cell (i := 3) rfl; have e94 := hR9.cell (i := 4) rfl; have e95 := hR9.cell (i := 5) rfl
  exact bodyPost_ret (v := .agg #[.int .i64 x0, .int .i64 x1, .slice a1 n1 c1, .slice a5 nk c5, .slice a3 n3 c3, .slice a4 n4 c4]) (by simp [results, Tryz.results48, go_sem, e90, e91, e92, e93, e94, e95]) rfl ⟨{ m with book := (.slice a5 nk c5, v.book.2) }, (by rw [HMM.out]), (fun W h0 hkp => by (have hm9 := HM.out W h0; exact ⟨hm9.1, by (unfold ReadsL; rw [← HNK.out]; exact owns_reads (owns_held HV9.out fun g arr hg hb => hkp g arr _ (by omega) hb)), hm9.2.2.1, hm9.2.2.2⟩)), rfl, b9⟩

end Go.Proofs.YtnplgagaoeckoaaGreat
namespace Go.Proofs.YtnplgagaoeckoaaGreat
open Go.RowKit
set_option linter.unusedSimpArgs false
set_option linter.unusedVariables false

set_option maxRecDepth 100000 in
set_option maxHeartbeats 8000000 in
theorem memStore_5 (w0 : World → Prop) (hg : Grows w0) (B : Nat) (m : Mm) (s t : Int) (v : Vm) (w : World) (hb0 : w0 w) (hB : B ≤ w.heap.size) (hm : ∀ W, w0 W → MmAt W m) (hv : VmAt w v) (hs : 0 ≤ s ∧ s < (m.parts.2.length : Int)) (hl : m.parts.2.length ≤ 1000) :
    Calls Tryz.prog 48 #[.agg #[.int .i64 m.inn, .int .i64 m.out, m.bans.1, m.book.1, m.parts.1, m.locks.1], .agg #[.int .i64 5, .int .i64 s, .int .i64 t], .agg #[.int .i64 v.n, .bool v.pe.en.ad.v6, .int .u64 v.pe.en.ad.hi, .int .u64 v.pe.en.ad.lo, .int .i64 v.pe.en.port, .bool v.pe.came, .int .i64 v.pe.since, .int .i64 v.pe.pts, .int .i64 v.pe.at_, .int .i64 v.pe.ping, .int .i64 v.pe.work, v.bans.1, v.book.1]] w (GivesMm w0 B w (storeP m.pl 5 s t v.pl)) := by
  have hres : storeP m.pl 5 s t v.pl = { m.pl with parts := setAt m.pl.parts s (v.n, (partP m.pl s).2) } := by unfold storeP; rfl
  rw [hres]
  unfold GivesMm
  have h := hm w hb0
  have HM := Lib.hid hm
  have HG := Lib.hid hg
  obtain ⟨j, rfl⟩ : ∃ j : Nat, s = (j : Int) := ⟨s.toNat, by omega⟩
  have hj : j < m.parts.2.length := by omega
  have hq0 := shOf_pl m (j : Int)
  obtain ⟨x, hx⟩ : ∃ x, m.parts.2[j]? = some x := ⟨_, List.getElem?_eq_getElem hj⟩
  have hsx : shOf m (j : Int) = x := by unfold shOf getAt; rw [if_pos hs.1, Int.toNat_natCast, List.getD_eq_getElem?_getD, hx]; rfl
  have hAt := shOf_at h (j : Int)
  rw [hsx] at hAt hq0
  obtain ⟨_, a5, c5, e5, _⟩ := pes_open hAt
  obtain ⟨_, p, c, e6, h3⟩ := shs_open h.2.2.1.1
  obtain ⟨b, o, rfl, h4, h5, h6⟩ := h3 (by omega)
  obtain ⟨k0, k1⟩ := h6 j x hx
  rw [e5] at k1
  rw [hq0]
  have HP := Lib.hid (fun (W : World) (K : Sh) (hW : w.heap.size + 1 + 1 + 1 + 1 + 1 ≤ W.heap.size) (hK : Firm w0 (w.heap.size + 1 + 1 + 1 + 1 + 1) W fun W => ReadsL peV 10 W K.v K.l) (hb : Below w.heap.size w W) => mem_part_in w0 hg (w.heap.size + 1 + 1 + 1 + 1 + 1) m j K W (hg _ _ hb0 hb) hW hm hK hj hl)
  obtain ⟨a1, a2, a3, a4, c1, c2, c3, c4, e1, e2, e3, e4⟩ := mm_slices h
  obtain ⟨_, oa, oc, eo, _⟩ := ba_open hv.1
  obtain ⟨_, ka, kc, ek, _⟩ := ey_open hv.2
  have hmm : m = ⟨m.inn, m.out, (.slice a1 m.bans.2.length c1, m.bans.2), (.slice a2 m.book.2.length c2, m.book.2), (.slice a3 m.parts.2.length c3, m.parts.2), (.slice a4 m.locks.2.length c4, m.locks.2)⟩ := by rw [← e1, ← e2, ← e3, ← e4]
  have HMM := Lib.hid hmm
  have ex := e3.symm.trans e6
  injection ex with ea en ec
  subst ea ec
  simp only [e1, e2, e3, e4] at HP
  have E1 := Lib.hid e1; have E2 := Lib.hid e2; have E4 := Lib.hid e4
  obtain ⟨xs, hxs⟩ : ∃ z, z = x.size := ⟨_, rfl⟩
  obtain ⟨xn, hxn⟩ : ∃ z, z = x.l.length := ⟨_, rfl⟩
  rw [← hxs] at k0
  rw [← hxn] at k1
  rw [e1, e2, e3, e4, eo, ek]
  clear hres e1 e2 e3 e4 eo ek hmm
  obtain ⟨x0, hx0⟩ : ∃ x, x = m.inn := ⟨_, rfl⟩
  obtain ⟨x1, hx1⟩ : ∃ x, x = m.out := ⟨_, rfl⟩
  obtain ⟨n1, hn1⟩ : ∃ n, n = m.bans.2.length := ⟨_, rfl⟩
  obtain ⟨n2, hn2⟩ : ∃ n, n = m.book.2.length := ⟨_, rfl⟩
  obtain ⟨n3, hn3⟩ : ∃ n, n = m.parts.2.length := ⟨_, rfl⟩
  obtain ⟨n4, hn4⟩ : ∃ n, n = m.locks.2.length := ⟨_, rfl⟩
  obtain ⟨nb, hnb⟩ : ∃ n, n = v.bans.2.length := ⟨_, rfl⟩
  obtain ⟨nk, hnk⟩ : ∃ n, n = v.book.2.length := ⟨_, rfl⟩
  rw [← hx0, ← hx1, ← hn1, ← hn2, ← hn3, ← hn4, ← hnb, ← hnk]
  rw [← hx0, ← hx1, ← hn1, ← hn2, ← hn3, ← hn4] at HMM
  rw [← hx0, ← hx1, ← hn1, ← hn2, ← hn3, ← hn4] at HP
  have q1 : (j : Int) < (n3 : Int) := by omega
  have q2 : (0 : Int) ≤ (j : Int) := by omega
  have HX0 := Lib.hid hx0; have HX1 := Lib.hid hx1; have HN1 := Lib.hid hn1; have HN2 := Lib.hid hn2; have HN4 := Lib.hid hn4; have HXS := Lib.hid hxs; have HXN := Lib.hid hxn; have HAT := Lib.hid hAt; have HATK := Lib.hid (fun W hW => show ReadsL peV 10 W x.v x.l by (have hq := shOf_at (hm W hW) (j : Int); rw [hsx] at hq; exact hq)); have HE5 := Lib.hid e5; have HJ := Lib.hid hj
  clear hxs hxn hq0 hx hsx hAt e5 e6 en h3 h6 hs hl hj
  have HNB := Lib.hid hnb; have HNK := Lib.hid hnk; have HN3 := Lib.hid hn3
  clear h hv hm hg hx0 hx1 hn1 hn2 hn3 hn4 hnb hnk
  skip
  go_enter Tryz.func48, Tryz.ntmps48
  go_upto_region 1 with fail
  obtain ⟨W4, hW4⟩ : ∃ W4, W4 = (((w.alloc (.cells #[.int .i64 x0, .int .i64 x1, .slice a1 n1 c1, .slice a2 n2 c2, .slice (some ⟨b, o, none⟩) n3 c3, .slice a4 n4 c4] 40)).alloc (.cells #[.int .i64 5, .int .i64 j, .int .i64 t] 44)).alloc (.cells #[.int .i64 v.n, .bool v.pe.en.ad.v6, .int .u64 v.pe.en.ad.hi, .int .u64 v.pe.en.ad.lo, .int .i64 v.pe.en.port, .bool v.pe.came, .int .i64 v.pe.since, .int .i64 v.pe.pts, .int .i64 v.pe.at_, .int .i64 v.pe.ping, .int .i64 v.pe.work, .slice oa nb oc, .slice ka nk kc] 54)).alloc (.cells #[.int .i64 0, .int .i64 0, .slice none 0 0, .slice none 0 0, .slice none 0 0, .slice none 0 0] 40) := ⟨_, rfl⟩
  rw [← hW4]
  have B4 : Below w.heap.size w W4 := by subst hW4; exact bel
  have hBm : BlockIs W4 w.heap.size [.int .i64 x0, .int .i64 x1, .slice a1 n1 c1, .slice a2 n2 c2, .slice (some ⟨b, o, none⟩) n3 c3, .slice a4 n4 c4] 40 := by subst hW4; exact (((BlockIs.new w [.int .i64 x0, .int .i64 x1, .slice a1 n1 c1, .slice a2 n2 c2, .slice (some ⟨b, o, none⟩) n3 c3, .slice a4 n4 c4] _).alloc' _).alloc' _).alloc' _
  have hBl : BlockIs W4 (w.heap.size + 1) [.int .i64 5, .int .i64 j, .int .i64 t] 44 := by subst hW4; exact ((BlockIs.newAt' _ [.int .i64 5, .int .i64 j, .int .i64 t] _ (by simp)).alloc' _).alloc' _
  have hBv : BlockIs W4 (w.heap.size + 1 + 1) [.int .i64 v.n, .bool v.pe.en.ad.v6, .int .u64 v.pe.en.ad.hi, .int .u64 v.pe.en.ad.lo, .int .i64 v.pe.en.port, .bool v.pe.came, .int .i64 v.pe.since, .int .i64 v.pe.pts, .int .i64 v.pe.at_, .int .i64 v.pe.ping, .int .i64 v.pe.work, .slice oa nb oc, .slice ka nk kc] 54 := by subst hW4; exact (BlockIs.newAt' _ [.int .i64 v.n, .bool v.pe.en.ad.v6, .int .u64 v.pe.en.ad.hi, .int .u64 v.pe.en.ad.lo, .int .i64 v.pe.en.port, .bool v.pe.came, .int .i64 v.pe.since, .int .i64 v.pe.pts, .int .i64 v.pe.at_, .int .i64 v.pe.ping, .int .i64 v.pe.work, .slice oa nb oc, .slice ka nk kc] _ (by simp)).alloc' _
  have hBr : BlockIs W4 (w.heap.size + 1 + 1 + 1) [.int .i64 0, .int .i64 0, .slice none 0 0, .slice none 0 0, .slice none 0 0, .slice none 0 0] 40 := by subst hW4; exact BlockIs.newAt' _ [.int .i64 0, .int .i64 0, .slice none 0 0, .slice none 0 0, .slice none 0 0, .slice none 0 0] _ (by simp)
  have hs4 : W4.heap.size = w.heap.size + 1 + 1 + 1 + 1 := by subst hW4; simp
  clear hW4
  have z0 := keep B4 h5 k0
  have z1 := keep B4 h5 k1
  have y2 := hBm.cell (i := 4) rfl
  have y3 := hBl.cell (i := 1) rfl
  have y0 := hBl.cell (i := 0) rfl
  have m0 := hBm.cell (i := 0) rfl; have m1 := hBm.cell (i := 1) rfl; have m2 := hBm.cell (i := 2) rfl; have m3 := hBm.cell (i := 3) rfl; have m4 := hBm.cell (i := 4) rfl; have m5 := hBm.cell (i := 5) rfl; have mf := hBm.frozen; have ml := hBm.lt; have l0 := hBl.cell (i := 0) rfl; have l1 := hBl.cell (i := 1) rfl; have l2 := hBl.cell (i := 2) rfl; have v0 := hBv.cell (i := 0) rfl; have v1 := hBv.cell (i := 1) rfl; have v2 := hBv.cell (i := 2) rfl; have v3 := hBv.cell (i := 3) rfl; have v4 := hBv.cell (i := 4) rfl; have v5 := hBv.cell (i := 5) rfl; have v6 := hBv.cell (i := 6) rfl; have v7 := hBv.cell (i := 7) rfl; have v8 := hBv.cell (i := 8) rfl; have v9 := hBv.cell (i := 9) rfl; have v10 := hBv.cell (i := 10) rfl; have v11 := hBv.cell (i := 11) rfl; have v12 := hBv.cell (i := 12) rfl; have r0 := hBr.cell (i := 0) rfl; have r1 := hBr.cell (i := 1) rfl; have r2 := hBr.cell (i := 2) rfl; have r3 := hBr.cell (i := 3) rfl; have r4 := hBr.cell (i := 4) rfl; have r5 := hBr.cell (i := 5) rfl; have rf := hBr.frozen; have rl := hBr.lt
  clear m0 m1 m2 m3 m5 mf ml l2 v0 v1 v2 v3 v4 v5 v6 v7 v8 v9 v10 v11 v12 r0 r1 r2 r3 r4 r5 rf rl
  go_upto_region 8 with fail
  obtain ⟨W5, hW5⟩ : ∃ W5, W5 = W4.alloc (.cells #[.int .i64 xs, .slice a5 xn c5] 112) := ⟨_, rfl⟩
  rw [← hW5]
  have B5 : Below w.heap.size w W5 := by subst hW5; exact B4.alloc B4.size _
  have hBs : BlockIs W5 W4.heap.size [.int .i64 xs, .slice a5 xn c5] 112 := by subst hW5; exact BlockIs.new W4 [.int .i64 xs, .slice a5 xn c5] _
  have hBm : BlockIs W5 w.heap.size [.int .i64 x0, .int .i64 x1, .slice a1 n1 c1, .slice a2 n2 c2, .slice (some ⟨b, o, none⟩) n3 c3, .slice a4 n4 c4] 40 := by subst hW5; exact hBm.alloc' _
  have hBl : BlockIs W5 (w.heap.size + 1) [.int .i64 5, .int .i64 j, .int .i64 t] 44 := by subst hW5; exact hBl.alloc' _
  have hBv : BlockIs W5 (w.heap.size + 1 + 1) [.int .i64 v.n, .bool v.pe.en.ad.v6, .int .u64 v.pe.en.ad.hi, .int .u64 v.pe.en.ad.lo, .int .i64 v.pe.en.port, .bool v.pe.came, .int .i64 v.pe.since, .int .i64 v.pe.pts, .int .i64 v.pe.at_, .int .i64 v.pe.ping, .int .i64 v.pe.work, .slice oa nb oc, .slice ka nk kc] 54 := by subst hW5; exact hBv.alloc' _
  have hBr : BlockIs W5 (w.heap.size + 1 + 1 + 1) [.int .i64 0, .int .i64 0, .slice none 0 0, .slice none 0 0, .slice none 0 0, .slice none 0 0] 40 := by subst hW5; exact hBr.alloc' _
  have hs5 : W5.heap.size = w.heap.size + 1 + 1 + 1 + 1 + 1 := by subst hW5; rw [World.size_alloc, hs4]
  clear hW5 z0 z1 y2 y3 y0
  rw [hs4] at hBs
  try rw [hs4]
  clear hs4
  have m0 := hBm.cell (i := 0) rfl; have m1 := hBm.cell (i := 1) rfl; have m2 := hBm.cell (i := 2) rfl; have m3 := hBm.cell (i := 3) rfl; have m4 := hBm.cell (i := 4) rfl; have m5 := hBm.cell (i := 5) rfl; have mf := hBm.frozen; have ml := hBm.lt; have l0 := hBl.cell (i := 0) rfl; have l1 := hBl.cell (i := 1) rfl; have l2 := hBl.cell (i := 2) rfl; have v0 := hBv.cell (i := 0) rfl; have v1 := hBv.cell (i := 1) rfl; have v2 := hBv.cell (i := 2) rfl; have v3 := hBv.cell (i := 3) rfl; have v4 := hBv.cell (i := 4) rfl; have v5 := hBv.cell (i := 5) rfl; have v6 := hBv.cell (i := 6) rfl; have v7 := hBv.cell (i := 7) rfl; have v8 := hBv.cell (i := 8) rfl; have v9 := hBv.cell (i := 9) rfl; have v10 := hBv.cell (i := 10) rfl; have v11 := hBv.cell (i := 11) rfl; have v12 := hBv.cell (i := 12) rfl; have r0 := hBr.cell (i := 0) rfl; have r1 := hBr.cell (i := 1) rfl; have r2 := hBr.cell (i := 2) rfl; have r3 := hBr.cell (i := 3) rfl; have r4 := hBr.cell (i := 4) rfl; have r5 := hBr.cell (i := 5) rfl; have rf := hBr.frozen; have rl := hBr.lt; have s0 := hBs.cell (i := 0) rfl; have s1 := hBs.cell (i := 1) rfl; have sf := hBs.frozen; have sl := hBs.lt
  go_wp2_with (go_at_call 75; (with_reducible refine (HP.out _ ⟨v.n, .slice a5 xn c5, x.l⟩ (by simp [World.setCell]; omega) (by rw [HXN.out, ← HE5.out]; exact Firm.old fun W hW => HATK.out W hW) (by exact bel)).mono ?_); rintro e w7 ⟨v7, rfl, hM7, b7⟩; have HM7 := Lib.hid hM7; have B7 := below2 (w := w) (by exact bel) b7; obtain ⟨_, a6, c6, e6, _⟩ := shs_open (hM7.now (HG.out _ _ hb0 B7)).2.2.1.1; simp only [List.length_set] at e6; rw [← HN3.out] at e6; have E6 := Lib.hid e6; subst e6; have z7 := b7.size; have hBr7 : BlockIs w7 (w.heap.size + 1 + 1 + 1) [.int .i64 0, .int .i64 0, .slice none 0 0, .slice none 0 0, .slice none 0 0, .slice none 0 0] 40 := BlockIs.below (by ((refine RchW.get ?_); (repeat (first | with_reducible refine reach_set ?_ | with_reducible refine reach_other (by first | assumption | omega) ?_ | with_reducible refine reach_alloc ?_ | with_reducible refine reach_drew ?_)); exact reach_at (hBr) rfl)) b7; clear r0 r1 r2 r3 r4 r5 rf rl; have r0 := hBr7.cell (i := 0) rfl; have r1 := hBr7.cell (i := 1) rfl; have r2 := hBr7.cell (i := 2) rfl; have r3 := hBr7.cell (i := 3) rfl; have r4 := hBr7.cell (i := 4) rfl; have r5 := hBr7.cell (i := 5) rfl; have rf := hBr7.frozen; have rl := hBr7.lt)
  refine bodyPost_named fun W9 h9 => ?_
  have hR9 : BlockIs W9 (w.heap.size + 1 + 1 + 1) [.int .i64 x0, .int .i64 x1, .slice a1 n1 c1, .slice a2 n2 c2, .slice a6 n3 c6, .slice a4 n4 c4] 40 := by subst h9; ((refine RchW.get ?_); (repeat (first | with_reducible refine reach_set ?_ | with_reducible refine reach_other (by first | assumption | omega) ?_ | with_reducible refine reach_alloc ?_ | with_reducible refine reach_drew ?_)); exact reach_at (hBr7) rfl)
  have b9 : Below w.heap.size w W9 := by subst h9; exact bel
  have FIN : Hid (Firm w0 B W9 fun W => MmAt W ⟨x0, x1, m.bans, m.book, (.slice a6 n3 c6, m.parts.2.set j ⟨v.n, .slice a5 xn c5, x.l⟩), m.locks⟩) := by
    subst h9
    unfold Hid
    refine (Firm.keep HM7.out fun g arr T h1 hb => ?_).from (by omega)
    have nB : w.heap.size ≠ g := by omega
    have nB2 : g ≠ w.heap.size := by omega
    have nB3 : g ≠ w.heap.size + 1 + 1 + 1 := by omega
    have nB4 : w.heap.size + 1 + 1 + 1 ≠ g := by omega
    ((refine RchW.get ?_); (repeat (first | with_reducible refine reach_set ?_ | with_reducible refine reach_other (by first | assumption | omega) ?_ | with_reducible refine reach_alloc ?_ | with_reducible refine reach_drew ?_)); exact reach_at (hb) rfl)
  clear h9
  have e90 := hR9.cell (i := 0) rfl; have e91 := hR9.cell (i := 1) rfl; have e92 := hR9.cell (i := 2) rfl; have e93 := hR9.cell (i := 3) rfl; have e94 := hR9.cell (i := 4) rfl; have e95 := hR9.cell (i := 5) rfl
  exact bodyPost_ret (v := .agg #[.int .i64 x0, .int .i64 x1, .slice a1 n1 c1, .slice a2 n2 c2, .slice a6 n3 c6, .slice a4 n4 c4]) (by simp [results, Tryz.results48, go_sem, e90, e91, e92, e93, e94, e95]) rfl ⟨⟨x0, x1, m.bans, m.book, (.slice a6 n3 c6, m.parts.2.set j ⟨v.n, .slice a5 xn c5, x.l⟩), m.locks⟩, (by simp only [E1.out, E2.out, E4.out, ← HN1.out, ← HN2.out, ← HN4.out]), (fun W h0 hkp => by (have hm9 := HM.out W h0; exact FIN.out W h0 hkp)), (by unfold Mm.pl setAt; simp only [if_pos q2, Int.toNat_natCast, List.map_set, HX0.out, HX1.out]), b9⟩

theorem setAt_self {α : Type} (l : List α) (k : Int) (d : α) (h : 0 ≤ k ∧ k < (l.length : Int)) : setAt l k (getAt l k d) = l := by
  unfold setAt getAt
  rw [if_pos h.1, if_pos h.1, List.getD_eq_getElem?_getD, List.getElem?_eq_getElem (by omega), Option.getD_some]
  exact List.set_getElem_self _
theorem storeP_over (m : Pm) (s t : Int) (v : Vp) (hs : 0 ≤ s ∧ s < (m.parts.length : Int)) (h : ((partP m s).2.length : Int) < t) : storeP m 6 s t v = m := by
  show { m with parts := setAt m.parts s ((partP m s).1, putP (partP m s).2 t v.pe) } = m
  have : putP (partP m s).2 t v.pe = (partP m s).2 := if_pos h
  rw [this]
  show { m with parts := setAt m.parts s (getAt m.parts s (0, [])) } = m
  rw [setAt_self _ _ _ hs]
set_option maxRecDepth 100000 in
set_option maxHeartbeats 8000000 in
theorem memStore_6over (w0 : World → Prop) (hg : Grows w0) (B : Nat) (m : Mm) (s t : Int) (v : Vm) (w : World) (hb0 : w0 w) (hB : B ≤ w.heap.size) (hm : ∀ W, w0 W → MmAt W m) (hv : VmAt w v) (hs : 0 ≤ s ∧ s < (m.parts.2.length : Int)) (hl : m.parts.2.length ≤ 1000) (ho : ((shOf m s).l.length : Int) < t) :
    Calls Tryz.prog 48 #[.agg #[.int .i64 m.inn, .int .i64 m.out, m.bans.1, m.book.1, m.parts.1, m.locks.1], .agg #[.int .i64 6, .int .i64 s, .int .i64 t], .agg #[.int .i64 v.n, .bool v.pe.en.ad.v6, .int .u64 v.pe.en.ad.hi, .int .u64 v.pe.en.ad.lo, .int .i64 v.pe.en.port, .bool v.pe.came, .int .i64 v.pe.since, .int .i64 v.pe.pts, .int .i64 v.pe.at_, .int .i64 v.pe.ping, .int .i64 v.pe.work, v.bans.1, v.book.1]] w (GivesMm w0 B w (storeP m.pl 6 s t v.pl)) := by
  have hres : storeP m.pl 6 s t v.pl = m.pl := by unfold storeP; exact storeP_over _ _ _ _ (by unfold Mm.pl; rw [List.length_map]; exact hs) (by rw [shOf_pl]; exact ho)
  rw [hres]
  unfold GivesMm
  have h := hm w hb0
  have HM := Lib.hid hm
  have HG := Lib.hid hg
  obtain ⟨j, rfl⟩ : ∃ j : Nat, s = (j : Int) := ⟨s.toNat, by omega⟩
  have hj : j < m.parts.2.length := by omega
  have hq0 := shOf_pl m (j : Int)
  obtain ⟨x, hx⟩ : ∃ x, m.parts.2[j]? = some x := ⟨_, List.getElem?_eq_getElem hj⟩
  have hsx : shOf m (j : Int) = x := by unfold shOf getAt; rw [if_pos hs.1, Int.toNat_natCast, List.getD_eq_getElem?_getD, hx]; rfl
  have hAt := shOf_at h (j : Int)
  rw [hsx] at hAt hq0 ho
  obtain ⟨_, a5, c5, e5, _⟩ := pes_open hAt
  obtain ⟨_, p, c, e6, h3⟩ := shs_open h.2.2.1.1
  obtain ⟨b, o, rfl, h4, h5, h6⟩ := h3 (by omega)
  obtain ⟨k0, k1⟩ := h6 j x hx
  rw [e5] at k1
  have HP := Lib.hid (fun (W : World) (K : Sh) (hW : w.heap.size + 1 + 1 + 1 + 1 + 1 ≤ W.heap.size) (hK : Firm w0 (w.heap.size + 1 + 1 + 1 + 1 + 1) W fun W => ReadsL peV 10 W K.v K.l) (hb : Below w.heap.size w W) => mem_part_in w0 hg (w.heap.size + 1 + 1 + 1 + 1 + 1) m j K W (hg _ _ hb0 hb) hW hm hK hj hl)
  obtain ⟨a1, a2, a3, a4, c1, c2, c3, c4, e1, e2, e3, e4⟩ := mm_slices h
  obtain ⟨_, oa, oc, eo, _⟩ := ba_open hv.1
  obtain ⟨_, ka, kc, ek, _⟩ := ey_open hv.2
  have hmm : m = ⟨m.inn, m.out, (.slice a1 m.bans.2.length c1, m.bans.2), (.slice a2 m.book.2.length c2, m.book.2), (.slice a3 m.parts.2.length c3, m.parts.2), (.slice a4 m.locks.2.length c4, m.locks.2)⟩ := by rw [← e1, ← e2, ← e3, ← e4]
  have HMM := Lib.hid hmm
  have ex := e3.symm.trans e6
  injection ex with ea en ec
  subst ea ec
  simp only [e1, e2, e3, e4] at HP
  have E1 := Lib.hid e1; have E2 := Lib.hid e2; have E4 := Lib.hid e4
  obtain ⟨xs, hxs⟩ : ∃ z, z = x.size := ⟨_, rfl⟩
  obtain ⟨xn, hxn⟩ : ∃ z, z = x.l.length := ⟨_, rfl⟩
  rw [← hxs] at k0
  rw [← hxn] at k1
  rw [e1, e2, e3, e4, eo, ek]
  clear hres e1 e2 e3 e4 eo ek hmm
  obtain ⟨x0, hx0⟩ : ∃ x, x = m.inn := ⟨_, rfl⟩
  obtain ⟨x1, hx1⟩ : ∃ x, x = m.out := ⟨_, rfl⟩
  obtain ⟨n1, hn1⟩ : ∃ n, n = m.bans.2.length := ⟨_, rfl⟩
  obtain ⟨n2, hn2⟩ : ∃ n, n = m.book.2.length := ⟨_, rfl⟩
  obtain ⟨n3, hn3⟩ : ∃ n, n = m.parts.2.length := ⟨_, rfl⟩
  obtain ⟨n4, hn4⟩ : ∃ n, n = m.locks.2.length := ⟨_, rfl⟩
  obtain ⟨nb, hnb⟩ : ∃ n, n = v.bans.2.length := ⟨_, rfl⟩
  obtain ⟨nk, hnk⟩ : ∃ n, n = v.book.2.length := ⟨_, rfl⟩
  rw [← hx0, ← hx1, ← hn1, ← hn2, ← hn3, ← hn4, ← hnb, ← hnk]
  rw [← hx0, ← hx1, ← hn1, ← hn2, ← hn3, ← hn4] at HMM
  rw [← hx0, ← hx1, ← hn1, ← hn2, ← hn3, ← hn4] at HP
  have q1 : (j : Int) < (n3 : Int) := by omega
  have q2 : (0 : Int) ≤ (j : Int) := by omega
  have HX0 := Lib.hid hx0; have HX1 := Lib.hid hx1; have HN1 := Lib.hid hn1; have HN2 := Lib.hid hn2; have HN4 := Lib.hid hn4; have HXS := Lib.hid hxs; have HXN := Lib.hid hxn; have HAT := Lib.hid hAt; have HATK := Lib.hid (fun W hW => show ReadsL peV 10 W x.v x.l by (have hq := shOf_at (hm W hW) (j : Int); rw [hsx] at hq; exact hq)); have HE5 := Lib.hid e5; have HJ := Lib.hid hj
  rw [← hxn] at ho
  clear hxs hxn hq0 hx hsx hAt e5 e6 en h3 h6 hs hl hj
  have HNB := Lib.hid hnb; have HNK := Lib.hid hnk; have HN3 := Lib.hid hn3
  clear h hv hm hg hx0 hx1 hn1 hn2 hn3 hn4 hnb hnk
  skip
  go_enter Tryz.func48, Tryz.ntmps48
  go_upto_region 1 with fail
  obtain ⟨W4, hW4⟩ : ∃ W4, W4 = (((w.alloc (.cells #[.int .i64 x0, .int .i64 x1, .slice a1 n1 c1, .slice a2 n2 c2, .slice (some ⟨b, o, none⟩) n3 c3, .slice a4 n4 c4] 40)).alloc (.cells #[.int .i64 6, .int .i64 j, .int .i64 t] 44)).alloc (.cells #[.int .i64 v.n, .bool v.pe.en.ad.v6, .int .u64 v.pe.en.ad.hi, .int .u64 v.pe.en.ad.lo, .int .i64 v.pe.en.port, .bool v.pe.came, .int .i64 v.pe.since, .int .i64 v.pe.pts, .int .i64 v.pe.at_, .int .i64 v.pe.ping, .int .i64 v.pe.work, .slice oa nb oc, .slice ka nk kc] 54)).alloc (.cells #[.int .i64 0, .int .i64 0, .slice none 0 0, .slice none 0 0, .slice none 0 0, .slice none 0 0] 40) := ⟨_, rfl⟩
  rw [← hW4]
  have B4 : Below w.heap.size w W4 := by subst hW4; exact bel
  have hBm : BlockIs W4 w.heap.size [.int .i64 x0, .int .i64 x1, .slice a1 n1 c1, .slice a2 n2 c2, .slice (some ⟨b, o, none⟩) n3 c3, .slice a4 n4 c4] 40 := by subst hW4; exact (((BlockIs.new w [.int .i64 x0, .int .i64 x1, .slice a1 n1 c1, .slice a2 n2 c2, .slice (some ⟨b, o, none⟩) n3 c3, .slice a4 n4 c4] _).alloc' _).alloc' _).alloc' _
  have hBl : BlockIs W4 (w.heap.size + 1) [.int .i64 6, .int .i64 j, .int .i64 t] 44 := by subst hW4; exact ((BlockIs.newAt' _ [.int .i64 6, .int .i64 j, .int .i64 t] _ (by simp)).alloc' _).alloc' _
  have hBv : BlockIs W4 (w.heap.size + 1 + 1) [.int .i64 v.n, .bool v.pe.en.ad.v6, .int .u64 v.pe.en.ad.hi, .int .u64 v.pe.en.ad.lo, .int .i64 v.pe.en.port, .bool v.pe.came, .int .i64 v.pe.since, .int .i64 v.pe.pts, .int .i64 v.pe.at_, .int .i64 v.pe.ping, .int .i64 v.pe.work, .slice oa nb oc, .slice ka nk kc] 54 := by subst hW4; exact (BlockIs.newAt' _ [.int .i64 v.n, .bool v.pe.en.ad.v6, .int .u64 v.pe.en.ad.hi, .int .u64 v.pe.en.ad.lo, .int .i64 v.pe.en.port, .bool v.pe.came, .int .i64 v.pe.since, .int .i64 v.pe.pts, .int .i64 v.pe.at_, .int .i64 v.pe.ping, .int .i64 v.pe.work, .slice oa nb oc, .slice ka nk kc] _ (by simp)).alloc' _
  have hBr : BlockIs W4 (w.heap.size + 1 + 1 + 1) [.int .i64 0, .int .i64 0, .slice none 0 0, .slice none 0 0, .slice none 0 0, .slice none 0 0] 40 := by subst hW4; exact BlockIs.newAt' _ [.int .i64 0, .int .i64 0, .slice none 0 0, .slice none 0 0, .slice none 0 0, .slice none 0 0] _ (by simp)
  have hs4 : W4.heap.size = w.heap.size + 1 + 1 + 1 + 1 := by subst hW4; simp
  clear hW4
  have z0 := keep B4 h5 k0
  have z1 := keep B4 h5 k1
  have y2 := hBm.cell (i := 4) rfl
  have y3 := hBl.cell (i := 1) rfl
  have y0 := hBl.cell (i := 0) rfl
  have m0 := hBm.cell (i := 0) rfl; have m1 := hBm.cell (i := 1) rfl; have m2 := hBm.cell (i := 2) rfl; have m3 := hBm.cell (i := 3) rfl; have m4 := hBm.cell (i := 4) rfl; have m5 := hBm.cell (i := 5) rfl; have mf := hBm.frozen; have ml := hBm.lt; have l0 := hBl.cell (i := 0) rfl; have l1 := hBl.cell (i := 1) rfl; have l2 := hBl.cell (i := 2) rfl; have v0 := hBv.cell (i := 0) rfl; have v1 := hBv.cell (i := 1) rfl; have v2 := hBv.cell (i := 2) rfl; have v3 := hBv.cell (i := 3) rfl; have v4 := hBv.cell (i := 4) rfl; have v5 := hBv.cell (i := 5) rfl; have v6 := hBv.cell (i := 6) rfl; have v7 := hBv.cell (i := 7) rfl; have v8 := hBv.cell (i := 8) rfl; have v9 := hBv.cell (i := 9) rfl; have v10 := hBv.cell (i := 10) rfl; have v11 := hBv.cell (i := 11) rfl; have v12 := hBv.cell (i := 12) rfl; have r0 := hBr.cell (i := 0) rfl; have r1 := hBr.cell (i := 1) rfl; have r2 := hBr.cell (i := 2) rfl; have r3 := hBr.cell (i := 3) rfl; have r4 := hBr.cell (i := 4) rfl; have r5 := hBr.cell (i := 5) rfl; have rf := hBr.frozen; have rl := hBr.lt
  have hq5 := Lib.hid ho
  clear m0 m1 m2 m3 m5 mf ml l2 v0 v1 v2 v3 v4 v5 v6 v7 v8 v9 v10 v11 v12 r0 r1 r2 r3 r4 r5 rf rl
  go_upto_region 12 with fail
  obtain ⟨W5, hW5⟩ : ∃ W5, W5 = W4.alloc (.cells #[.int .i64 xs, .slice a5 xn c5] 112) := ⟨_, rfl⟩
  rw [← hW5]
  have B5 : Below w.heap.size w W5 := by subst hW5; exact B4.alloc B4.size _
  have hBs : BlockIs W5 W4.heap.size [.int .i64 xs, .slice a5 xn c5] 112 := by subst hW5; exact BlockIs.new W4 [.int .i64 xs, .slice a5 xn c5] _
  have hBm : BlockIs W5 w.heap.size [.int .i64 x0, .int .i64 x1, .slice a1 n1 c1, .slice a2 n2 c2, .slice (some ⟨b, o, none⟩) n3 c3, .slice a4 n4 c4] 40 := by subst hW5; exact hBm.alloc' _
  have hBl : BlockIs W5 (w.heap.size + 1) [.int .i64 6, .int .i64 j, .int .i64 t] 44 := by subst hW5; exact hBl.alloc' _
  have hBv : BlockIs W5 (w.heap.size + 1 + 1) [.int .i64 v.n, .bool v.pe.en.ad.v6, .int .u64 v.pe.en.ad.hi, .int .u64 v.pe.en.ad.lo, .int .i64 v.pe.en.port, .bool v.pe.came, .int .i64 v.pe.since, .int .i64 v.pe.pts, .int .i64 v.pe.at_, .int .i64 v.pe.ping, .int .i64 v.pe.work, .slice oa nb oc, .slice ka nk kc] 54 := by subst hW5; exact hBv.alloc' _
  have hBr : BlockIs W5 (w.heap.size + 1 + 1 + 1) [.int .i64 0, .int .i64 0, .slice none 0 0, .slice none 0 0, .slice none 0 0, .slice none 0 0] 40 := by subst hW5; exact hBr.alloc' _
  have hs5 : W5.heap.size = w.heap.size + 1 + 1 + 1 + 1 + 1 := by subst hW5; rw [World.size_alloc, hs4]
  clear hW5 z0 z1 y2 y3 y0
  rw [hs4] at hBs
  try rw [hs4]
  clear hs4
  have m0 := hBm.cell (i := 0) rfl; have m1 := hBm.cell (i := 1) rfl; have m2 := hBm.cell (i := 2) rfl; have m3 := hBm.cell (i := 3) rfl; have m4 := hBm.cell (i := 4) rfl; have m5 := hBm.cell (i := 5) rfl; have mf := hBm.frozen; have ml := hBm.lt; have l0 := hBl.cell (i := 0) rfl; have l1 := hBl.cell (i := 1) rfl; have l2 := hBl.cell (i := 2) rfl; have v0 := hBv.cell (i := 0) rfl; have v1 := hBv.cell (i := 1) rfl; have v2 := hBv.cell (i := 2) rfl; have v3 := hBv.cell (i := 3) rfl; have v4 := hBv.cell (i := 4) rfl; have v5 := hBv.cell (i := 5) rfl; have v6 := hBv.cell (i := 6) rfl; have v7 := hBv.cell (i := 7) rfl; have v8 := hBv.cell (i := 8) rfl; have v9 := hBv.cell (i := 9) rfl; have v10 := hBv.cell (i := 10) rfl; have v11 := hBv.cell (i := 11) rfl; have v12 := hBv.cell (i := 12) rfl; have r0 := hBr.cell (i := 0) rfl; have r1 := hBr.cell (i := 1) rfl; have r2 := hBr.cell (i := 2) rfl; have r3 := hBr.cell (i := 3) rfl; have r4 := hBr.cell (i := 4) rfl; have r5 := hBr.cell (i := 5) rfl; have rf := hBr.frozen; have rl := hBr.lt; have s0 := hBs.cell (i := 0) rfl; have s1 := hBs.cell (i := 1) rfl; have sf := hBs.frozen; have sl := hBs.lt
  go_wp2_with fail
  refine bodyPost_named fun W9 h9 => ?_
  have hR9 : BlockIs W9 (w.heap.size + 1 + 1 + 1) [.int .i64 x0, .int .i64 x1, .slice a1 n1 c1, .slice a2 n2 c2, .slice (some ⟨b, o, none⟩) n3 c3, .slice a4 n4 c4] 40 := by subst h9; ((refine RchW.get ?_); (repeat (first | with_reducible refine reach_set ?_ | with_reducible refine reach_other (by first | assumption | omega) ?_ | with_reducible refine reach_alloc ?_ | with_reducible refine reach_drew ?_)); exact reach_at (hBr) rfl)
  have b9 : Below w.heap.size w W9 := by subst h9; exact bel
  clear h9
  have e90 := hR9.cell (i := 0) rfl; have e91 := hR9.cell (i := 1) rfl; have e92 := hR9.cell (i := 2) rfl; have e93 := hR9.cell (i := 3) rfl; have e94 := hR9.cell (i := 4) rfl; have e95 := hR9.cell (i := 5) rfl
  exact bodyPost_ret (v := .agg #[.int .i64 x0, .int .i64 x1, .slice a1 n1 c1, .slice a2 n2 c2, .slice (some ⟨b, o, none⟩) n3 c3, .slice a4 n4 c4]) (by simp [results, Tryz.results48, go_sem, e90, e91, e92, e93, e94, e95]) rfl ⟨m, (by rw [HMM.out]), (fun W h0 hkp => by (have hm9 := HM.out W h0; exact hm9)), rfl, b9⟩

theorem reads_oneB {W : World} {g : Nat} {p : Pe} {T : TypeId} (h : BlockIs W g (peV p) T) : ReadsL peV 10 W (.slice (some ⟨g, 0, none⟩) 1 1) [p] := by
  refine ⟨by simp [peV], by simp, Or.inr ⟨by simp, g, 0, 1, rfl, by simp, h.lt, fun j x hj => ?_⟩⟩
  rw [Nat.zero_add]
  exact h.cell (by simpa using hj)
theorem reads_dropIf {w : World} {l : List Pe} {b o c k : Nat} (h : ReadsL peV 10 w (.slice (some ⟨b, o, none⟩) l.length c) l) (hk : k ≤ l.length) (hc : l.length ≤ c) : ReadsL peV 10 w (.slice (if c = k then some ⟨b, o, none⟩ else some ⟨b, o + k * 10, none⟩) (l.length - k) (c - k)) (l.drop k) := by
  split
  · have e : l.length - k = 0 := by omega
    rw [e, List.drop_eq_nil_of_le (by omega)]
    exact ReadsL.nil _ _ _ _ _
  · exact reads_dropP h hk
theorem drop_min (l : List Pe) (T : Nat) : l.drop (min (T + 1) l.length) = l.drop (T + 1) := by
  rcases Nat.le_total (T + 1) l.length with h | h
  · rw [Nat.min_eq_left h]
  · rw [Nat.min_eq_right h, List.drop_length, List.drop_eq_nil_of_le h]
end Go.Proofs.YtnplgagaoeckoaaGreat
namespace Go.Proofs.YtnplgagaoeckoaaGreat
open Go.RowKit
set_option linter.unusedSimpArgs false
set_option linter.unusedVariables false

set_option maxRecDepth 100000 in
set_option maxHeartbeats 8000000 in
theorem memStore_6in (w0 : World → Prop) (hg : Grows w0) (B : Nat) (m : Mm) (s t : Int) (v : Vm) (w : World) (hb0 : w0 w) (hB : B ≤ w.heap.size) (hm : ∀ W, w0 W → MmAt W m) (hv : VmAt w v) (hs : 0 ≤ s ∧ s < (m.parts.2.length : Int)) (hl : m.parts.2.length ≤ 1000) (ht : 0 ≤ t) (ho : t ≤ ((shOf m s).l.length : Int)) (hp : 0 < (shOf m s).l.length) (hsm : (shOf m s).l.length ≤ 100000) (hck : ∀ a n c, (shOf m s).v = .slice a n c → ¬ c = min (t.toNat + 1) n) :
    Calls Tryz.prog 48 #[.agg #[.int .i64 m.inn, .int .i64 m.out, m.bans.1, m.book.1, m.parts.1, m.locks.1], .agg #[.int .i64 6, .int .i64 s, .int .i64 t], .agg #[.int .i64 v.n, .bool v.pe.en.ad.v6, .int .u64 v.pe.en.ad.hi, .int .u64 v.pe.en.ad.lo, .int .i64 v.pe.en.port, .bool v.pe.came, .int .i64 v.pe.since, .int .i64 v.pe.pts, .int .i64 v.pe.at_, .int .i64 v.pe.ping, .int .i64 v.pe.work, v.bans.1, v.book.1]] w (GivesMm w0 B w (storeP m.pl 6 s t v.pl)) := by
  have hres : storeP m.pl 6 s t v.pl = { m.pl with parts := setAt m.pl.parts s ((partP m.pl s).1, putP (partP m.pl s).2 t v.pe) } := by unfold storeP; rfl
  rw [hres]
  unfold GivesMm
  have h := hm w hb0
  have HM := Lib.hid hm
  have HG := Lib.hid hg
  obtain ⟨T, rfl⟩ : ∃ T : Nat, t = (T : Int) := ⟨t.toNat, by omega⟩
  obtain ⟨j, rfl⟩ : ∃ j : Nat, s = (j : Int) := ⟨s.toNat, by omega⟩
  have hj : j < m.parts.2.length := by omega
  have hq0 := shOf_pl m (j : Int)
  obtain ⟨x, hx⟩ : ∃ x, m.parts.2[j]? = some x := ⟨_, List.getElem?_eq_getElem hj⟩
  have hsx : shOf m (j : Int) = x := by unfold shOf getAt; rw [if_pos hs.1, Int.toNat_natCast, List.getD_eq_getElem?_getD, hx]; rfl
  have hAt := shOf_at h (j : Int)
  rw [hsx] at hAt hq0 ho hp hsm hck
  obtain ⟨_, a5, c5, e5, hz5⟩ := pes_open hAt
  obtain ⟨b5, o5, rfl, hz6, _, _⟩ := hz5 hp
  have hne := hck _ _ _ e5
  rw [Int.toNat_natCast] at hne
  clear hck
  obtain ⟨_, p, c, e6, h3⟩ := shs_open h.2.2.1.1
  obtain ⟨b, o, rfl, h4, h5, h6⟩ := h3 (by omega)
  obtain ⟨k0, k1⟩ := h6 j x hx
  rw [e5] at k1
  have hput : putP x.l (T : Int) v.pe = x.l.take T ++ v.pe :: x.l.drop (T + 1) := by unfold putP; rw [if_neg (by omega), Int.toNat_natCast]
  rw [hq0]
  simp only [hput]
  have HP := Lib.hid (fun (W : World) (K : Sh) (hW : w.heap.size + 1 + 1 + 1 + 1 + 1 ≤ W.heap.size) (hK : Firm w0 (w.heap.size + 1 + 1 + 1 + 1 + 1) W fun W => ReadsL peV 10 W K.v K.l) (hb : Below w.heap.size w W) => mem_part_in w0 hg (w.heap.size + 1 + 1 + 1 + 1 + 1) m j K W (hg _ _ hb0 hb) hW hm hK hj hl)
  obtain ⟨a1, a2, a3, a4, c1, c2, c3, c4, e1, e2, e3, e4⟩ := mm_slices h
  obtain ⟨_, oa, oc, eo, _⟩ := ba_open hv.1
  obtain ⟨_, ka, kc, ek, _⟩ := ey_open hv.2
  have hmm : m = ⟨m.inn, m.out, (.slice a1 m.bans.2.length c1, m.bans.2), (.slice a2 m.book.2.length c2, m.book.2), (.slice a3 m.parts.2.length c3, m.parts.2), (.slice a4 m.locks.2.length c4, m.locks.2)⟩ := by rw [← e1, ← e2, ← e3, ← e4]
  have HMM := Lib.hid hmm
  have ex := e3.symm.trans e6
  injection ex with ea en ec
  subst ea ec
  simp only [e1, e2, e3, e4] at HP
  have E1 := Lib.hid e1; have E2 := Lib.hid e2; have E4 := Lib.hid e4
  obtain ⟨xs, hxs⟩ : ∃ z, z = x.size := ⟨_, rfl⟩
  obtain ⟨xn, hxn⟩ : ∃ z, z = x.l.length := ⟨_, rfl⟩
  rw [← hxs] at k0
  rw [← hxn] at k1
  rw [e1, e2, e3, e4, eo, ek]
  clear hres e1 e2 e3 e4 eo ek hmm
  obtain ⟨x0, hx0⟩ : ∃ x, x = m.inn := ⟨_, rfl⟩
  obtain ⟨x1, hx1⟩ : ∃ x, x = m.out := ⟨_, rfl⟩
  obtain ⟨n1, hn1⟩ : ∃ n, n = m.bans.2.length := ⟨_, rfl⟩
  obtain ⟨n2, hn2⟩ : ∃ n, n = m.book.2.length := ⟨_, rfl⟩
  obtain ⟨n3, hn3⟩ : ∃ n, n = m.parts.2.length := ⟨_, rfl⟩
  obtain ⟨n4, hn4⟩ : ∃ n, n = m.locks.2.length := ⟨_, rfl⟩
  obtain ⟨nb, hnb⟩ : ∃ n, n = v.bans.2.length := ⟨_, rfl⟩
  obtain ⟨nk, hnk⟩ : ∃ n, n = v.book.2.length := ⟨_, rfl⟩
  rw [← hx0, ← hx1, ← hn1, ← hn2, ← hn3, ← hn4, ← hnb, ← hnk]
  rw [← hx0, ← hx1, ← hn1, ← hn2, ← hn3, ← hn4] at HMM
  rw [← hx0, ← hx1, ← hn1, ← hn2, ← hn3, ← hn4] at HP
  have q1 : (j : Int) < (n3 : Int) := by omega
  have q2 : (0 : Int) ≤ (j : Int) := by omega
  have HX0 := Lib.hid hx0; have HX1 := Lib.hid hx1; have HN1 := Lib.hid hn1; have HN2 := Lib.hid hn2; have HN4 := Lib.hid hn4; have HXS := Lib.hid hxs; have HXN := Lib.hid hxn; have HAT := Lib.hid hAt; have HATK := Lib.hid (fun W hW => show ReadsL peV 10 W x.v x.l by (have hq := shOf_at (hm W hW) (j : Int); rw [hsx] at hq; exact hq)); have HE5 := Lib.hid e5; have HJ := Lib.hid hj
  rw [← hxn] at ho hp hsm hz6 hne
  clear hz5 hput hxs hxn hq0 hx hsx hAt e5 e6 en h3 h6 hs hl hj
  have HNB := Lib.hid hnb; have HNK := Lib.hid hnk; have HN3 := Lib.hid hn3
  clear h hv hm hg hx0 hx1 hn1 hn2 hn3 hn4 hnb hnk
  skip
  go_enter Tryz.func48, Tryz.ntmps48
  go_upto_region 1 with fail
  obtain ⟨W4, hW4⟩ : ∃ W4, W4 = (((w.alloc (.cells #[.int .i64 x0, .int .i64 x1, .slice a1 n1 c1, .slice a2 n2 c2, .slice (some ⟨b, o, none⟩) n3 c3, .slice a4 n4 c4] 40)).alloc (.cells #[.int .i64 6, .int .i64 j, .int .i64 T] 44)).alloc (.cells #[.int .i64 v.n, .bool v.pe.en.ad.v6, .int .u64 v.pe.en.ad.hi, .int .u64 v.pe.en.ad.lo, .int .i64 v.pe.en.port, .bool v.pe.came, .int .i64 v.pe.since, .int .i64 v.pe.pts, .int .i64 v.pe.at_, .int .i64 v.pe.ping, .int .i64 v.pe.work, .slice oa nb oc, .slice ka nk kc] 54)).alloc (.cells #[.int .i64 0, .int .i64 0, .slice none 0 0, .slice none 0 0, .slice none 0 0, .slice none 0 0] 40) := ⟨_, rfl⟩
  rw [← hW4]
  have B4 : Below w.heap.size w W4 := by subst hW4; exact bel
  have hBm : BlockIs W4 w.heap.size [.int .i64 x0, .int .i64 x1, .slice a1 n1 c1, .slice a2 n2 c2, .slice (some ⟨b, o, none⟩) n3 c3, .slice a4 n4 c4] 40 := by subst hW4; exact (((BlockIs.new w [.int .i64 x0, .int .i64 x1, .slice a1 n1 c1, .slice a2 n2 c2, .slice (some ⟨b, o, none⟩) n3 c3, .slice a4 n4 c4] _).alloc' _).alloc' _).alloc' _
  have hBl : BlockIs W4 (w.heap.size + 1) [.int .i64 6, .int .i64 j, .int .i64 T] 44 := by subst hW4; exact ((BlockIs.newAt' _ [.int .i64 6, .int .i64 j, .int .i64 T] _ (by simp)).alloc' _).alloc' _
  have hBv : BlockIs W4 (w.heap.size + 1 + 1) [.int .i64 v.n, .bool v.pe.en.ad.v6, .int .u64 v.pe.en.ad.hi, .int .u64 v.pe.en.ad.lo, .int .i64 v.pe.en.port, .bool v.pe.came, .int .i64 v.pe.since, .int .i64 v.pe.pts, .int .i64 v.pe.at_, .int .i64 v.pe.ping, .int .i64 v.pe.work, .slice oa nb oc, .slice ka nk kc] 54 := by subst hW4; exact (BlockIs.newAt' _ [.int .i64 v.n, .bool v.pe.en.ad.v6, .int .u64 v.pe.en.ad.hi, .int .u64 v.pe.en.ad.lo, .int .i64 v.pe.en.port, .bool v.pe.came, .int .i64 v.pe.since, .int .i64 v.pe.pts, .int .i64 v.pe.at_, .int .i64 v.pe.ping, .int .i64 v.pe.work, .slice oa nb oc, .slice ka nk kc] _ (by simp)).alloc' _
  have hBr : BlockIs W4 (w.heap.size + 1 + 1 + 1) [.int .i64 0, .int .i64 0, .slice none 0 0, .slice none 0 0, .slice none 0 0, .slice none 0 0] 40 := by subst hW4; exact BlockIs.newAt' _ [.int .i64 0, .int .i64 0, .slice none 0 0, .slice none 0 0, .slice none 0 0, .slice none 0 0] _ (by simp)
  have hs4 : W4.heap.size = w.heap.size + 1 + 1 + 1 + 1 := by subst hW4; simp
  clear hW4
  have z0 := keep B4 h5 k0
  have z1 := keep B4 h5 k1
  have y2 := hBm.cell (i := 4) rfl
  have y3 := hBl.cell (i := 1) rfl
  have y0 := hBl.cell (i := 0) rfl
  have m0 := hBm.cell (i := 0) rfl; have m1 := hBm.cell (i := 1) rfl; have m2 := hBm.cell (i := 2) rfl; have m3 := hBm.cell (i := 3) rfl; have m4 := hBm.cell (i := 4) rfl; have m5 := hBm.cell (i := 5) rfl; have mf := hBm.frozen; have ml := hBm.lt; have l0 := hBl.cell (i := 0) rfl; have l1 := hBl.cell (i := 1) rfl; have l2 := hBl.cell (i := 2) rfl; have v0 := hBv.cell (i := 0) rfl; have v1 := hBv.cell (i := 1) rfl; have v2 := hBv.cell (i := 2) rfl; have v3 := hBv.cell (i := 3) rfl; have v4 := hBv.cell (i := 4) rfl; have v5 := hBv.cell (i := 5) rfl; have v6 := hBv.cell (i := 6) rfl; have v7 := hBv.cell (i := 7) rfl; have v8 := hBv.cell (i := 8) rfl; have v9 := hBv.cell (i := 9) rfl; have v10 := hBv.cell (i := 10) rfl; have v11 := hBv.cell (i := 11) rfl; have v12 := hBv.cell (i := 12) rfl; have r0 := hBr.cell (i := 0) rfl; have r1 := hBr.cell (i := 1) rfl; have r2 := hBr.cell (i := 2) rfl; have r3 := hBr.cell (i := 3) rfl; have r4 := hBr.cell (i := 4) rfl; have r5 := hBr.cell (i := 5) rfl; have rf := hBr.frozen; have rl := hBr.lt
  obtain ⟨K, hK⟩ : ∃ K : Nat, K = min (T + 1) xn := ⟨_, rfl⟩
  have p1 : ¬ (xn : Int) < (T : Int) := by omega
  have p2 : (0 : Int) ≤ (T : Int) := by omega
  have p3 : (T : Int) ≤ (xn : Int) := by omega
  have p4 : (T : Int) ≤ (c5 : Int) := by omega
  have p7 : min (IntKind.i64.wrap ((T : Int) + 1)) (xn : Int) = (K : Int) := by rw [show IntKind.i64.wrap ((T : Int) + 1) = (T : Int) + 1 by rw [IntKind.wrap_i64]; omega]; omega
  have p8 : (K : Int) ≤ (xn : Int) := by omega
  rw [← hK] at hne
  have HKK := Lib.hid hK
  have HCC := Lib.hid (fun (W : World) (bk gk : Nat) (hT : BlockIs W bk [.slice (some ⟨b5, o5, none⟩) T c5, .slice (some ⟨gk, 0, none⟩) 1 1, .slice (some ⟨b5, o5 + K * 10, none⟩) (xn - K) (c5 - K)] 29) (hP : BlockIs W gk (peV v.pe) 52) (hb : Below w.heap.size w W) => by
    have hr : ReadsL peV 10 W (.slice (some ⟨b5, o5, none⟩) x.l.length c5) x.l := by rw [← HE5.out]; exact ReadsL.below HAT.out hb
    have hxl := HXN.out
    have r1 := reads_takeP (k := T) hr (by omega)
    have r3 := reads_dropIf (k := K) hr (by omega) (by omega)
    rw [← HXN.out] at r3
    rw [hK, HXN.out, drop_min, ← HXN.out, ← hK, if_neg hne] at r3
    have r2 : ReadsL peV 10 W (.slice (some ⟨gk, 0, none⟩) 1 1) [v.pe] := reads_oneB hP
    exact concat3Pe _ _ _ (x.l.take T) [v.pe] (x.l.drop (T + 1)) bk W (hT.cell (i := 0) rfl) (hT.cell (i := 1) rfl) (hT.cell (i := 2) rfl) hT.lt r1 r2 r3 (by simp only [List.length_take, List.length_drop, List.length_singleton]; omega))
  clear hK
  clear m0 m1 m2 m3 m5 mf ml l2 v0 v1 v2 v3 v4 v5 v6 v7 v8 v9 v10 v11 v12 r0 r1 r2 r3 r4 r5 rf rl
  go_upto_region 12 with fail
  obtain ⟨W5, hW5⟩ : ∃ W5, W5 = W4.alloc (.cells #[.int .i64 xs, .slice (some ⟨b5, o5, none⟩) xn c5] 112) := ⟨_, rfl⟩
  rw [← hW5]
  have B5 : Below w.heap.size w W5 := by subst hW5; exact B4.alloc B4.size _
  have hBs : BlockIs W5 W4.heap.size [.int .i64 xs, .slice (some ⟨b5, o5, none⟩) xn c5] 112 := by subst hW5; exact BlockIs.new W4 [.int .i64 xs, .slice (some ⟨b5, o5, none⟩) xn c5] _
  have hBm : BlockIs W5 w.heap.size [.int .i64 x0, .int .i64 x1, .slice a1 n1 c1, .slice a2 n2 c2, .slice (some ⟨b, o, none⟩) n3 c3, .slice a4 n4 c4] 40 := by subst hW5; exact hBm.alloc' _
  have hBl : BlockIs W5 (w.heap.size + 1) [.int .i64 6, .int .i64 j, .int .i64 T] 44 := by subst hW5; exact hBl.alloc' _
  have hBv : BlockIs W5 (w.heap.size + 1 + 1) [.int .i64 v.n, .bool v.pe.en.ad.v6, .int .u64 v.pe.en.ad.hi, .int .u64 v.pe.en.ad.lo, .int .i64 v.pe.en.port, .bool v.pe.came, .int .i64 v.pe.since, .int .i64 v.pe.pts, .int .i64 v.pe.at_, .int .i64 v.pe.ping, .int .i64 v.pe.work, .slice oa nb oc, .slice ka nk kc] 54 := by subst hW5; exact hBv.alloc' _
  have hBr : BlockIs W5 (w.heap.size + 1 + 1 + 1) [.int .i64 0, .int .i64 0, .slice none 0 0, .slice none 0 0, .slice none 0 0, .slice none 0 0] 40 := by subst hW5; exact hBr.alloc' _
  have hs5 : W5.heap.size = w.heap.size + 1 + 1 + 1 + 1 + 1 := by subst hW5; rw [World.size_alloc, hs4]
  clear hW5 z0 z1 y2 y3 y0
  rw [hs4] at hBs
  try rw [hs4]
  clear hs4
  have m0 := hBm.cell (i := 0) rfl; have m1 := hBm.cell (i := 1) rfl; have m2 := hBm.cell (i := 2) rfl; have m3 := hBm.cell (i := 3) rfl; have m4 := hBm.cell (i := 4) rfl; have m5 := hBm.cell (i := 5) rfl; have mf := hBm.frozen; have ml := hBm.lt; have l0 := hBl.cell (i := 0) rfl; have l1 := hBl.cell (i := 1) rfl; have l2 := hBl.cell (i := 2) rfl; have v0 := hBv.cell (i := 0) rfl; have v1 := hBv.cell (i := 1) rfl; have v2 := hBv.cell (i := 2) rfl; have v3 := hBv.cell (i := 3) rfl; have v4 := hBv.cell (i := 4) rfl; have v5 := hBv.cell (i := 5) rfl; have v6 := hBv.cell (i := 6) rfl; have v7 := hBv.cell (i := 7) rfl; have v8 := hBv.cell (i := 8) rfl; have v9 := hBv.cell (i := 9) rfl; have v10 := hBv.cell (i := 10) rfl; have v11 := hBv.cell (i := 11) rfl; have v12 := hBv.cell (i := 12) rfl; have r0 := hBr.cell (i := 0) rfl; have r1 := hBr.cell (i := 1) rfl; have r2 := hBr.cell (i := 2) rfl; have r3 := hBr.cell (i := 3) rfl; have r4 := hBr.cell (i := 4) rfl; have r5 := hBr.cell (i := 5) rfl; have rf := hBr.frozen; have rl := hBr.lt; have s0 := hBs.cell (i := 0) rfl; have s1 := hBs.cell (i := 1) rfl; have sf := hBs.frozen; have sl := hBs.lt
  go_upto_region 14 with fail
  obtain ⟨W6, hW6⟩ : ∃ W6, W6 = ((W5.alloc (.cells #[.bool v.pe.en.ad.v6, .int .u64 v.pe.en.ad.hi, .int .u64 v.pe.en.ad.lo, .int .i64 v.pe.en.port, .bool v.pe.came, .int .i64 v.pe.since, .int .i64 v.pe.pts, .int .i64 v.pe.at_, .int .i64 v.pe.ping, .int .i64 v.pe.work] 52)).alloc (.cells #[.slice (some ⟨b5, o5, none⟩) T c5, .slice (some ⟨w.heap.size + 1 + 1 + 1 + 1 + 1, 0, none⟩) 1 1, .slice (some ⟨b5, o5 + K * 10, none⟩) (xn - K) (c5 - K)] 29)).drew := ⟨_, rfl⟩
  have k1 : BlockIs W6 (w.heap.size + 1 + 1 + 1 + 1 + 1 + 1) [.slice (some ⟨b5, o5, none⟩) T c5, .slice (some ⟨w.heap.size + 1 + 1 + 1 + 1 + 1, 0, none⟩) 1 1, .slice (some ⟨b5, o5 + K * 10, none⟩) (xn - K) (c5 - K)] 29 := by subst hW6; exact BlockIs.drew' (BlockIs.newAt' (W5.alloc (.cells #[.bool v.pe.en.ad.v6, .int .u64 v.pe.en.ad.hi, .int .u64 v.pe.en.ad.lo, .int .i64 v.pe.en.port, .bool v.pe.came, .int .i64 v.pe.since, .int .i64 v.pe.pts, .int .i64 v.pe.at_, .int .i64 v.pe.ping, .int .i64 v.pe.work] 52)) [.slice (some ⟨b5, o5, none⟩) T c5, .slice (some ⟨w.heap.size + 1 + 1 + 1 + 1 + 1, 0, none⟩) 1 1, .slice (some ⟨b5, o5 + K * 10, none⟩) (xn - K) (c5 - K)] _ (by rw [World.size_alloc, hs5]))
  have k2 : BlockIs W6 (w.heap.size + 1 + 1 + 1 + 1 + 1) (peV v.pe) 52 := by subst hW6; exact BlockIs.drew' (BlockIs.alloc' (BlockIs.newAt' W5 (peV v.pe) _ hs5.symm) _)
  have k3 : Below w.heap.size w W6 := by subst hW6; exact bel
  have hBm6 := (show BlockIs W6 w.heap.size [.int .i64 x0, .int .i64 x1, .slice a1 n1 c1, .slice a2 n2 c2, .slice (some ⟨b, o, none⟩) n3 c3, .slice a4 n4 c4] 40 by subst hW6; exact BlockIs.drew' (BlockIs.alloc' (BlockIs.alloc' hBm _) _))
  have hBl6 := (show BlockIs W6 (w.heap.size + 1) [.int .i64 6, .int .i64 j, .int .i64 T] 44 by subst hW6; exact BlockIs.drew' (BlockIs.alloc' (BlockIs.alloc' hBl _) _))
  have hBr6 := (show BlockIs W6 (w.heap.size + 1 + 1 + 1) [.int .i64 0, .int .i64 0, .slice none 0 0, .slice none 0 0, .slice none 0 0, .slice none 0 0] 40 by subst hW6; exact BlockIs.drew' (BlockIs.alloc' (BlockIs.alloc' hBr _) _))
  have hBs6 := (show BlockIs W6 (w.heap.size + 1 + 1 + 1 + 1) [.int .i64 xs, .slice (some ⟨b5, o5, none⟩) xn c5] 112 by subst hW6; exact BlockIs.drew' (BlockIs.alloc' (BlockIs.alloc' hBs _) _))
  have hBv6 := (show BlockIs W6 (w.heap.size + 1 + 1) [.int .i64 v.n, .bool v.pe.en.ad.v6, .int .u64 v.pe.en.ad.hi, .int .u64 v.pe.en.ad.lo, .int .i64 v.pe.en.port, .bool v.pe.came, .int .i64 v.pe.since, .int .i64 v.pe.pts, .int .i64 v.pe.at_, .int .i64 v.pe.ping, .int .i64 v.pe.work, .slice oa nb oc, .slice ka nk kc] 54 by subst hW6; exact BlockIs.drew' (BlockIs.alloc' (BlockIs.alloc' hBv _) _))
  have hs6 : w.heap.size + 1 + 1 + 1 + 1 + 1 ≤ W6.heap.size := by have := k2.lt; omega
  have HC6 := HCC.out W6 _ _ k1 k2 k3
  have HB6 := Lib.hid (And.intro hBm6 (And.intro hBl6 (And.intro hBr6 (And.intro hBs6 hBv6))))
  clear k1 k2 hBm6 hBl6 hBr6 hBs6 hBv6
  generalize hrn : (x.l.take T ++ [v.pe] ++ x.l.drop (T + 1)).length = rn at HC6
  generalize hrl : (x.l.take T ++ [v.pe] ++ x.l.drop (T + 1)) = rl6 at HC6 hrn
  have HRN := Lib.hid hrn; have HRL := Lib.hid hrl
  clear hrn hrl
  have HC6 := Lib.hid HC6
  refine wp_region_noPanic ?_
  have hS0 : (fun wq => wq.cell? ⟨w.heap.size + 1 + 1 + 1 + 1, 1, none⟩ = some (.slice (some ⟨b5, o5, none⟩) xn c5) ∧ wq.cell? ⟨w.heap.size + 1, 2, none⟩ = some (.int .i64 T) ∧ wq.cell? ⟨w.heap.size + 1 + 1, 1, none⟩ = some (.bool v.pe.en.ad.v6) ∧ wq.cell? ⟨w.heap.size + 1 + 1, 2, none⟩ = some (.int .u64 v.pe.en.ad.hi) ∧ wq.cell? ⟨w.heap.size + 1 + 1, 3, none⟩ = some (.int .u64 v.pe.en.ad.lo) ∧ wq.cell? ⟨w.heap.size + 1 + 1, 4, none⟩ = some (.int .i64 v.pe.en.port) ∧ wq.cell? ⟨w.heap.size + 1 + 1, 5, none⟩ = some (.bool v.pe.came) ∧ wq.cell? ⟨w.heap.size + 1 + 1, 6, none⟩ = some (.int .i64 v.pe.since) ∧ wq.cell? ⟨w.heap.size + 1 + 1, 7, none⟩ = some (.int .i64 v.pe.pts) ∧ wq.cell? ⟨w.heap.size + 1 + 1, 8, none⟩ = some (.int .i64 v.pe.at_) ∧ wq.cell? ⟨w.heap.size + 1 + 1, 9, none⟩ = some (.int .i64 v.pe.ping) ∧ wq.cell? ⟨w.heap.size + 1 + 1, 10, none⟩ = some (.int .i64 v.pe.work)) W5.drew := by
    dsimp only
    (first | go_keep | (simp (disch := omega) [*]; done) | (simp (disch := first | omega | (simp; omega)) [World.cell?_setCell_far, World.cell?_alloc_past, *]; done) | (simp (disch := first | omega | (simp; omega)) [World.cell?_setCell_far, World.cell?_alloc_past, *]; repeat (first | exact rfl | refine ⟨rfl, ?_⟩)))
  refine wp_region_headH (fun wq => wq.cell? ⟨w.heap.size + 1 + 1 + 1 + 1, 1, none⟩ = some (.slice (some ⟨b5, o5, none⟩) xn c5) ∧ wq.cell? ⟨w.heap.size + 1, 2, none⟩ = some (.int .i64 T) ∧ wq.cell? ⟨w.heap.size + 1 + 1, 1, none⟩ = some (.bool v.pe.en.ad.v6) ∧ wq.cell? ⟨w.heap.size + 1 + 1, 2, none⟩ = some (.int .u64 v.pe.en.ad.hi) ∧ wq.cell? ⟨w.heap.size + 1 + 1, 3, none⟩ = some (.int .u64 v.pe.en.ad.lo) ∧ wq.cell? ⟨w.heap.size + 1 + 1, 4, none⟩ = some (.int .i64 v.pe.en.port) ∧ wq.cell? ⟨w.heap.size + 1 + 1, 5, none⟩ = some (.bool v.pe.came) ∧ wq.cell? ⟨w.heap.size + 1 + 1, 6, none⟩ = some (.int .i64 v.pe.since) ∧ wq.cell? ⟨w.heap.size + 1 + 1, 7, none⟩ = some (.int .i64 v.pe.pts) ∧ wq.cell? ⟨w.heap.size + 1 + 1, 8, none⟩ = some (.int .i64 v.pe.at_) ∧ wq.cell? ⟨w.heap.size + 1 + 1, 9, none⟩ = some (.int .i64 v.pe.ping) ∧ wq.cell? ⟨w.heap.size + 1 + 1, 10, none⟩ = some (.int .i64 v.pe.work)) 21 (by kernel_rfl) (by kernel_rfl) ?_
  refine headH_take (i := 0) (v := ?qv0) (by kernel_rfl) rfl rfl (by kernel_rfl) (by kernel_rfl) (by kernel_rfl) (fun _ _ _ h => h) (Or.inl ⟨by rfl, ?qy0⟩) (by assumption) ?qr0
  case qy0 =>
    intro wq hSw
    try dsimp only at hSw
    go_simp
    try with_reducible rfl
  try simp only [Act.put, List.setIfInBounds_toArray, List.set_cons_zero, List.set_cons_succ]
  refine headH_take (i := 1) (v := ?qv1) (by kernel_rfl) rfl rfl (by kernel_rfl) (by kernel_rfl) (by kernel_rfl) (fun _ _ _ h => h) (Or.inl ⟨by rfl, ?qy1⟩) (by assumption) ?qr1
  case qy1 =>
    intro wq hSw
    try dsimp only at hSw
    go_simp
    try with_reducible rfl
  try simp only [Act.put, List.setIfInBounds_toArray, List.set_cons_zero, List.set_cons_succ]
  refine headH_take (i := 2) (v := ?qv2) (by kernel_rfl) rfl rfl (by kernel_rfl) (by kernel_rfl) (by kernel_rfl) (fun _ _ _ h => h) (Or.inl ⟨by rfl, ?qy2⟩) (by assumption) ?qr2
  case qy2 =>
    intro wq hSw
    try dsimp only at hSw
    go_simp
    try with_reducible rfl
  try simp only [Act.put, List.setIfInBounds_toArray, List.set_cons_zero, List.set_cons_succ]
  refine headH_take (i := 3) (v := ?qv3) (by kernel_rfl) rfl rfl (by kernel_rfl) (by kernel_rfl) (by kernel_rfl) (fun _ _ _ h => h) (Or.inl ⟨by rfl, ?qy3⟩) (by assumption) ?qr3
  case qy3 =>
    intro wq hSw
    try dsimp only at hSw
    go_simp
    try with_reducible rfl
  try simp only [Act.put, List.setIfInBounds_toArray, List.set_cons_zero, List.set_cons_succ]
  refine headH_take (i := 4) (v := ?qv4) (by kernel_rfl) rfl rfl (by kernel_rfl) (by kernel_rfl) (by kernel_rfl) (fun _ _ _ h => h) (Or.inl ⟨by rfl, ?qy4⟩) (by assumption) ?qr4
  case qy4 =>
    intro wq hSw
    try dsimp only at hSw
    go_simp
    try with_reducible rfl
  try simp only [Act.put, List.setIfInBounds_toArray, List.set_cons_zero, List.set_cons_succ]
  refine headH_take (i := 5) (v := ?qv5) (by kernel_rfl) rfl rfl (by kernel_rfl) (by kernel_rfl) (by kernel_rfl) (fun _ _ _ h => h) (Or.inl ⟨by rfl, ?qy5⟩) (by assumption) ?qr5
  case qy5 =>
    intro wq hSw
    try dsimp only at hSw
    go_simp
    try with_reducible rfl
  try simp only [Act.put, List.setIfInBounds_toArray, List.set_cons_zero, List.set_cons_succ]
  refine headH_take (i := 6) (v := ?qv6) (by kernel_rfl) rfl rfl (by kernel_rfl) (by kernel_rfl) (by kernel_rfl) (fun _ _ _ h => h) (Or.inl ⟨by rfl, ?qy6⟩) (by assumption) ?qr6
  case qy6 =>
    intro wq hSw
    try dsimp only at hSw
    go_simp
    try with_reducible rfl
  try simp only [Act.put, List.setIfInBounds_toArray, List.set_cons_zero, List.set_cons_succ]
  refine headH_take (i := 8) (v := ?qv8) (by kernel_rfl) rfl rfl (by kernel_rfl) (by kernel_rfl) (by kernel_rfl) (fun _ _ _ h => h) (Or.inl ⟨by rfl, ?qy8⟩) (by assumption) ?qr8
  case qy8 =>
    intro wq hSw
    try dsimp only at hSw
    go_simp
    try with_reducible rfl
  try simp only [Act.put, List.setIfInBounds_toArray, List.set_cons_zero, List.set_cons_succ]
  refine headH_take (i := 9) (v := ?qv9) (by kernel_rfl) rfl rfl (by kernel_rfl) (by kernel_rfl) (by kernel_rfl) (fun _ _ _ h => h) (Or.inl ⟨by rfl, ?qy9⟩) (by assumption) ?qr9
  case qy9 =>
    intro wq hSw
    try dsimp only at hSw
    go_simp
    try with_reducible rfl
  try simp only [Act.put, List.setIfInBounds_toArray, List.set_cons_zero, List.set_cons_succ]
  refine headH_take (i := 10) (v := ?qv10) (by kernel_rfl) rfl rfl (by kernel_rfl) (by kernel_rfl) (by kernel_rfl) (fun _ _ _ h => h) (Or.inl ⟨by rfl, ?qy10⟩) (by assumption) ?qr10
  case qy10 =>
    intro wq hSw
    try dsimp only at hSw
    go_simp
    try with_reducible rfl
  try simp only [Act.put, List.setIfInBounds_toArray, List.set_cons_zero, List.set_cons_succ]
  refine headH_take (i := 11) (v := ?qv11) (by kernel_rfl) rfl rfl (by kernel_rfl) (by kernel_rfl) (by kernel_rfl) (fun _ _ _ h => h) (Or.inl ⟨by rfl, ?qy11⟩) (by assumption) ?qr11
  case qy11 =>
    intro wq hSw
    try dsimp only at hSw
    go_simp
    try with_reducible rfl
  try simp only [Act.put, List.setIfInBounds_toArray, List.set_cons_zero, List.set_cons_succ]
  refine headH_take (i := 12) (v := ?qv12) (by kernel_rfl) rfl rfl (by kernel_rfl) (by kernel_rfl) (by kernel_rfl) (fun _ _ _ h => h) (Or.inl ⟨by rfl, ?qy12⟩) (by assumption) ?qr12
  case qy12 =>
    intro wq hSw
    try dsimp only at hSw
    go_simp
    try with_reducible rfl
  try simp only [Act.put, List.setIfInBounds_toArray, List.set_cons_zero, List.set_cons_succ]
  refine headH_take (i := 13) (v := ?qv13) (by kernel_rfl) rfl rfl (by kernel_rfl) (by kernel_rfl) (by kernel_rfl) (fun _ _ _ h => h) (Or.inl ⟨by rfl, ?qy13⟩) (by assumption) ?qr13
  case qy13 =>
    intro wq hSw
    try dsimp only at hSw
    go_simp
    try with_reducible rfl
  try simp only [Act.put, List.setIfInBounds_toArray, List.set_cons_zero, List.set_cons_succ]
  refine headH_take (i := 14) (v := ?qv14) (by kernel_rfl) rfl rfl (by kernel_rfl) (by kernel_rfl) (by kernel_rfl) (fun _ _ _ h => h) (Or.inl ⟨by rfl, ?qy14⟩) (by assumption) ?qr14
  case qy14 =>
    intro wq hSw
    try dsimp only at hSw
    go_simp
    try with_reducible rfl
  try simp only [Act.put, List.setIfInBounds_toArray, List.set_cons_zero, List.set_cons_succ]
  refine headH_take (i := 15) (v := ?qv15) (by kernel_rfl) rfl rfl (by kernel_rfl) (by kernel_rfl) (by kernel_rfl) (fun _ _ _ h => h) (Or.inl ⟨by rfl, ?qy15⟩) (by assumption) ?qr15
  case qy15 =>
    intro wq hSw
    try dsimp only at hSw
    go_simp
    try with_reducible rfl
  try simp only [Act.put, List.setIfInBounds_toArray, List.set_cons_zero, List.set_cons_succ]
  refine headH_take (i := 16) (v := ?qv16) (by kernel_rfl) rfl rfl (by kernel_rfl) (by kernel_rfl) (by kernel_rfl) (fun _ _ _ h => h) (Or.inl ⟨by rfl, ?qy16⟩) (by assumption) ?qr16
  case qy16 =>
    intro wq hSw
    try dsimp only at hSw
    go_simp
    try with_reducible rfl
  try simp only [Act.put, List.setIfInBounds_toArray, List.set_cons_zero, List.set_cons_succ]
  refine headH_take (i := 17) (v := ?qv17) (by kernel_rfl) rfl rfl (by kernel_rfl) (by kernel_rfl) (by kernel_rfl) (fun _ _ _ h => h) (Or.inl ⟨by rfl, ?qy17⟩) (by assumption) ?qr17
  case qy17 =>
    intro wq hSw
    try dsimp only at hSw
    go_simp
    try with_reducible rfl
  try simp only [Act.put, List.setIfInBounds_toArray, List.set_cons_zero, List.set_cons_succ]
  refine headH_one (i := 7) rfl rfl (by kernel_rfl) (fun K hK => ?_)
  go_simp
  refine hK.out _ _ ?_ (fun hS7 => ?_)
  · try dsimp only
    (first | go_keep | (simp (disch := omega) [*]; done) | (simp (disch := first | omega | (simp; omega)) [World.cell?_setCell_far, World.cell?_alloc_past, *]; done) | (simp (disch := first | omega | (simp; omega)) [World.cell?_setCell_far, World.cell?_alloc_past, *]; repeat (first | exact rfl | refine ⟨rfl, ?_⟩)))
  clear hK K
  try simp only [Act.put, List.setIfInBounds_toArray, List.set_cons_zero, List.set_cons_succ]
  refine headH_one (i := 18) rfl rfl (by kernel_rfl) (fun K hK => ?_)
  go_simp
  refine hK.out _ _ ?_ (fun hS18 => ?_)
  · try dsimp only
    (first | go_keep | (simp (disch := omega) [*]; done) | (simp (disch := first | omega | (simp; omega)) [World.cell?_setCell_far, World.cell?_alloc_past, *]; done) | (simp (disch := first | omega | (simp; omega)) [World.cell?_setCell_far, World.cell?_alloc_past, *]; repeat (first | exact rfl | refine ⟨rfl, ?_⟩)))
  clear hK K
  try simp only [Act.put, List.setIfInBounds_toArray, List.set_cons_zero, List.set_cons_succ]
  refine headH_one (i := 19) rfl rfl (by kernel_rfl) (fun K hK => ?_)
  go_simp
  (go_at_call 76; go_loud (rw [← hW6]; (with_reducible refine HC6.out.mono ?_); rintro e w6 ⟨r6, rfl, own6, b6⟩; have own6 := owns_base own6 hs6; obtain ⟨a8, c8, e8⟩ := owns_slice own6; subst e8; have HO6 := Lib.hid own6; clear own6; have B6 := below2 k3 b6; have z6 := b6.size; obtain ⟨hBm6, hBl6, hBr6, hBs6, hBv6⟩ := HB6.out; have hBv6 := hBv6.below b6; have hBm6 := hBm6.below b6; have hBl6 := hBl6.below b6; have hBr6 := hBr6.below b6; have hBs6 := hBs6.below b6; clear m0 m1 m2 m3 m4 m5 mf ml l0 l1 l2 v0 v1 v2 v3 v4 v5 v6 v7 v8 v9 v10 v11 v12 r0 r1 r2 r3 r4 r5 rf rl s0 s1 sf sl; have m0 := hBm6.cell (i := 0) rfl; have m1 := hBm6.cell (i := 1) rfl; have m2 := hBm6.cell (i := 2) rfl; have m3 := hBm6.cell (i := 3) rfl; have m4 := hBm6.cell (i := 4) rfl; have m5 := hBm6.cell (i := 5) rfl; have l0 := hBl6.cell (i := 0) rfl; have l1 := hBl6.cell (i := 1) rfl; have l2 := hBl6.cell (i := 2) rfl; have r0 := hBr6.cell (i := 0) rfl; have r1 := hBr6.cell (i := 1) rfl; have r2 := hBr6.cell (i := 2) rfl; have r3 := hBr6.cell (i := 3) rfl; have r4 := hBr6.cell (i := 4) rfl; have r5 := hBr6.cell (i := 5) rfl; have s0 := hBs6.cell (i := 0) rfl; have s1 := hBs6.cell (i := 1) rfl; have v1 := hBv6.cell (i := 1) rfl; have v2 := hBv6.cell (i := 2) rfl; have v3 := hBv6.cell (i := 3) rfl; have v4 := hBv6.cell (i := 4) rfl; have v5 := hBv6.cell (i := 5) rfl; have v6 := hBv6.cell (i := 6) rfl; have v7 := hBv6.cell (i := 7) rfl; have v8 := hBv6.cell (i := 8) rfl; have v9 := hBv6.cell (i := 9) rfl; have v10 := hBv6.cell (i := 10) rfl; have mf := hBm6.frozen; have ml := hBm6.lt; have rf := hBr6.frozen; have rl := hBr6.lt; have sf := hBs6.frozen; have sl := hBs6.lt))
  refine hK.out _ _ ?_ (fun hS19 => ?_)
  · try dsimp only
    (first | go_keep | (simp (disch := omega) [*]; done) | (simp (disch := first | omega | (simp; omega)) [World.cell?_setCell_far, World.cell?_alloc_past, *]; done) | (simp (disch := first | omega | (simp; omega)) [World.cell?_setCell_far, World.cell?_alloc_past, *]; repeat (first | exact rfl | refine ⟨rfl, ?_⟩)))
  clear hK K
  try simp only [Act.put, List.setIfInBounds_toArray, List.set_cons_zero, List.set_cons_succ]
  refine headH_take (i := 20) (v := ?qv20) (by kernel_rfl) rfl rfl (by kernel_rfl) (by kernel_rfl) (by kernel_rfl) (fun _ _ _ h => h) (Or.inl ⟨by rfl, ?qy20⟩) (by assumption) ?qr20
  case qy20 =>
    intro wq hSw
    try dsimp only at hSw
    go_simp
    try with_reducible rfl
  try simp only [Act.put, List.setIfInBounds_toArray, List.set_cons_zero, List.set_cons_succ]
  refine headH_done (by kernel_rfl) ?_
  simp only [List.drop_succ_cons, List.drop_zero]
  go_wp2_with fail
  refine NoPanic.normal ?_
  go_wp2_with (go_at_call 75; (with_reducible refine (HP.out _ ⟨xs, .slice a8 rn c8, rl6⟩ (by simp [World.setCell]; omega) (by refine ((Firm.own HO6.out (Nat.le_refl _)).map (fun W h => (by (unfold ReadsL; rw [HRN.out]; exact owns_reads h)))).keep (fun g arr T h1 hb => (by (have nB1 : g ≠ w.heap.size + 1 + 1 + 1 + 1 := (by omega); have nB2 : w.heap.size + 1 + 1 + 1 + 1 ≠ g := (by omega); ((refine RchW.get ?_); (repeat (first | with_reducible refine reach_set ?_ | with_reducible refine reach_other (by first | assumption | omega) ?_ | with_reducible refine reach_alloc ?_ | with_reducible refine reach_drew ?_)); exact reach_at (hb) rfl))))) (by exact bel)).mono ?_); rintro e w7 ⟨v7, rfl, hM7, b7⟩; have HM7 := Lib.hid hM7; have B7 := below2 (w := w) (by exact bel) b7; obtain ⟨_, a6, c6, e6, _⟩ := shs_open (hM7.now (HG.out _ _ hb0 B7)).2.2.1.1; simp only [List.length_set] at e6; rw [← HN3.out] at e6; have E6 := Lib.hid e6; subst e6; have z7 := b7.size; have hBr7 : BlockIs w7 (w.heap.size + 1 + 1 + 1) [.int .i64 0, .int .i64 0, .slice none 0 0, .slice none 0 0, .slice none 0 0, .slice none 0 0] 40 := BlockIs.below (by ((refine RchW.get ?_); (repeat (first | with_reducible refine reach_set ?_ | with_reducible refine reach_other (by first | assumption | omega) ?_ | with_reducible refine reach_alloc ?_ | with_reducible refine reach_drew ?_)); exact reach_at (hBr6) rfl)) b7; clear r0 r1 r2 r3 r4 r5 rf rl; have r0 := hBr7.cell (i := 0) rfl; have r1 := hBr7.cell (i := 1) rfl; have r2 := hBr7.cell (i := 2) rfl; have r3 := hBr7.cell (i := 3) rfl; have r4 := hBr7.cell (i := 4) rfl; have r5 := hBr7.cell (i := 5) rfl; have rf := hBr7.frozen; have rl := hBr7.lt)
  refine bodyPost_named fun W9 h9 => ?_
  have hR9 : BlockIs W9 (w.heap.size + 1 + 1 + 1) [.int .i64 x0, .int .i64 x1, .slice a1 n1 c1, .slice a2 n2 c2, .slice a6 n3 c6, .slice a4 n4 c4] 40 := by subst h9; ((refine RchW.get ?_); (repeat (first | with_reducible refine reach_set ?_ | with_reducible refine reach_other (by first | assumption | omega) ?_ | with_reducible refine reach_alloc ?_ | with_reducible refine reach_drew ?_)); exact reach_at (hBr7) rfl)
  have b9 : Below w.heap.size w W9 := by subst h9; exact bel
  have FIN : Hid (Firm w0 B W9 fun W => MmAt W ⟨x0, x1, m.bans, m.book, (.slice a6 n3 c6, m.parts.2.set j ⟨xs, .slice a8 rn c8, rl6⟩), m.locks⟩) := by
    subst h9
    unfold Hid
    refine (Firm.keep HM7.out fun g arr T h1 hb => ?_).from (by omega)
    have nB : w.heap.size ≠ g := by omega
    have nB2 : g ≠ w.heap.size := by omega
    have nB3 : g ≠ w.heap.size + 1 + 1 + 1 := by omega
    have nB4 : w.heap.size + 1 + 1 + 1 ≠ g := by omega
    ((refine RchW.get ?_); (repeat (first | with_reducible refine reach_set ?_ | with_reducible refine reach_other (by first | assumption | omega) ?_ | with_reducible refine reach_alloc ?_ | with_reducible refine reach_drew ?_)); exact reach_at (hb) rfl)
  clear h9
  have e90 := hR9.cell (i := 0) rfl; have e91 := hR9.cell (i := 1) rfl; have e92 := hR9.cell (i := 2) rfl; have e93 := hR9.cell (i := 3) rfl; have e94 := hR9.cell (i := 4) rfl; have e95 := hR9.cell (i := 5) rfl
  exact bodyPost_ret (v := .agg #[.int .i64 x0, .int .i64 x1, .slice a1 n1 c1, .slice a2 n2 c2, .slice a6 n3 c6, .slice a4 n4 c4]) (by simp [results, Tryz.results48, go_sem, e90, e91, e92, e93, e94, e95]) rfl ⟨⟨x0, x1, m.bans, m.book, (.slice a6 n3 c6, m.parts.2.set j ⟨xs, .slice a8 rn c8, rl6⟩), m.locks⟩, (by simp only [E1.out, E2.out, E4.out, ← HN1.out, ← HN2.out, ← HN4.out]), (fun W h0 hkp => by (have hm9 := HM.out W h0; exact FIN.out W h0 hkp)), (by unfold Mm.pl setAt; simp only [if_pos q2, Int.toNat_natCast, List.map_set, HX0.out, HX1.out, ← HRL.out, HXS.out, List.append_assoc, List.singleton_append]), b9⟩

end Go.Proofs.YtnplgagaoeckoaaGreat
namespace Go.Proofs.YtnplgagaoeckoaaGreat
open Go.RowKit
set_option linter.unusedSimpArgs false
set_option linter.unusedVariables false

set_option maxRecDepth 100000 in
set_option maxHeartbeats 8000000 in
theorem memStore_6full (w0 : World → Prop) (hg : Grows w0) (B : Nat) (m : Mm) (s t : Int) (v : Vm) (w : World) (hb0 : w0 w) (hB : B ≤ w.heap.size) (hm : ∀ W, w0 W → MmAt W m) (hv : VmAt w v) (hs : 0 ≤ s ∧ s < (m.parts.2.length : Int)) (hl : m.parts.2.length ≤ 1000) (ht : 0 ≤ t) (ho : t ≤ ((shOf m s).l.length : Int)) (hp : 0 < (shOf m s).l.length) (hsm : (shOf m s).l.length ≤ 100000) (hck : ∀ a n c, (shOf m s).v = .slice a n c → c = min (t.toNat + 1) n) :
    Calls Tryz.prog 48 #[.agg #[.int .i64 m.inn, .int .i64 m.out, m.bans.1, m.book.1, m.parts.1, m.locks.1], .agg #[.int .i64 6, .int .i64 s, .int .i64 t], .agg #[.int .i64 v.n, .bool v.pe.en.ad.v6, .int .u64 v.pe.en.ad.hi, .int .u64 v.pe.en.ad.lo, .int .i64 v.pe.en.port, .bool v.pe.came, .int .i64 v.pe.since, .int .i64 v.pe.pts, .int .i64 v.pe.at_, .int .i64 v.pe.ping, .int .i64 v.pe.work, v.bans.1, v.book.1]] w (GivesMm w0 B w (storeP m.pl 6 s t v.pl)) := by
  have hres : storeP m.pl 6 s t v.pl = { m.pl with parts := setAt m.pl.parts s ((partP m.pl s).1, putP (partP m.pl s).2 t v.pe) } := by unfold storeP; rfl
  rw [hres]
  unfold GivesMm
  have h := hm w hb0
  have HM := Lib.hid hm
  have HG := Lib.hid hg
  obtain ⟨T, rfl⟩ : ∃ T : Nat, t = (T : Int) := ⟨t.toNat, by omega⟩
  obtain ⟨j, rfl⟩ : ∃ j : Nat, s = (j : Int) := ⟨s.toNat, by omega⟩
  have hj : j < m.parts.2.length := by omega
  have hq0 := shOf_pl m (j : Int)
  obtain ⟨x, hx⟩ : ∃ x, m.parts.2[j]? = some x := ⟨_, List.getElem?_eq_getElem hj⟩
  have hsx : shOf m (j : Int) = x := by unfold shOf getAt; rw [if_pos hs.1, Int.toNat_natCast, List.getD_eq_getElem?_getD, hx]; rfl
  have hAt := shOf_at h (j : Int)
  rw [hsx] at hAt hq0 ho hp hsm hck
  obtain ⟨_, a5, c5, e5, hz5⟩ := pes_open hAt
  obtain ⟨b5, o5, rfl, hz6, _, _⟩ := hz5 hp
  have hne := hck _ _ _ e5
  rw [Int.toNat_natCast] at hne
  clear hck
  obtain ⟨_, p, c, e6, h3⟩ := shs_open h.2.2.1.1
  obtain ⟨b, o, rfl, h4, h5, h6⟩ := h3 (by omega)
  obtain ⟨k0, k1⟩ := h6 j x hx
  rw [e5] at k1
  have hput : putP x.l (T : Int) v.pe = x.l.take T ++ v.pe :: x.l.drop (T + 1) := by unfold putP; rw [if_neg (by omega), Int.toNat_natCast]
  rw [hq0]
  simp only [hput]
  have HP := Lib.hid (fun (W : World) (K : Sh) (hW : w.heap.size + 1 + 1 + 1 + 1 + 1 ≤ W.heap.size) (hK : Firm w0 (w.heap.size + 1 + 1 + 1 + 1 + 1) W fun W => ReadsL peV 10 W K.v K.l) (hb : Below w.heap.size w W) => mem_part_in w0 hg (w.heap.size + 1 + 1 + 1 + 1 + 1) m j K W (hg _ _ hb0 hb) hW hm hK hj hl)
  obtain ⟨a1, a2, a3, a4, c1, c2, c3, c4, e1, e2, e3, e4⟩ := mm_slices h
  obtain ⟨_, oa, oc, eo, _⟩ := ba_open hv.1
  obtain ⟨_, ka, kc, ek, _⟩ := ey_open hv.2
  have hmm : m = ⟨m.inn, m.out, (.slice a1 m.bans.2.length c1, m.bans.2), (.slice a2 m.book.2.length c2, m.book.2), (.slice a3 m.parts.2.length c3, m.parts.2), (.slice a4 m.locks.2.length c4, m.locks.2)⟩ := by rw [← e1, ← e2, ← e3, ← e4]
  have HMM := Lib.hid hmm
  have ex := e3.symm.trans e6
  injection ex with ea en ec
  subst ea ec
  simp only [e1, e2, e3, e4] at HP
  have E1 := Lib.hid e1; have E2 := Lib.hid e2; have E4 := Lib.hid e4
  obtain ⟨xs, hxs⟩ : ∃ z, z = x.size := ⟨_, rfl⟩
  obtain ⟨xn, hxn⟩ : ∃ z, z = x.l.length := ⟨_, rfl⟩
  rw [← hxs] at k0
  rw [← hxn] at k1
  rw [e1, e2, e3, e4, eo, ek]
  clear hres e1 e2 e3 e4 eo ek hmm
  obtain ⟨x0, hx0⟩ : ∃ x, x = m.inn := ⟨_, rfl⟩
  obtain ⟨x1, hx1⟩ : ∃ x, x = m.out := ⟨_, rfl⟩
  obtain ⟨n1, hn1⟩ : ∃ n, n = m.bans.2.length := ⟨_, rfl⟩
  obtain ⟨n2, hn2⟩ : ∃ n, n = m.book.2.length := ⟨_, rfl⟩
  obtain ⟨n3, hn3⟩ : ∃ n, n = m.parts.2.length := ⟨_, rfl⟩
  obtain ⟨n4, hn4⟩ : ∃ n, n = m.locks.2.length := ⟨_, rfl⟩
  obtain ⟨nb, hnb⟩ : ∃ n, n = v.bans.2.length := ⟨_, rfl⟩
  obtain ⟨nk, hnk⟩ : ∃ n, n = v.book.2.length := ⟨_, rfl⟩
  rw [← hx0, ← hx1, ← hn1, ← hn2, ← hn3, ← hn4, ← hnb, ← hnk]
  rw [← hx0, ← hx1, ← hn1, ← hn2, ← hn3, ← hn4] at HMM
  rw [← hx0, ← hx1, ← hn1, ← hn2, ← hn3, ← hn4] at HP
  have q1 : (j : Int) < (n3 : Int) := by omega
  have q2 : (0 : Int) ≤ (j : Int) := by omega
  have HX0 := Lib.hid hx0; have HX1 := Lib.hid hx1; have HN1 := Lib.hid hn1; have HN2 := Lib.hid hn2; have HN4 := Lib.hid hn4; have HXS := Lib.hid hxs; have HXN := Lib.hid hxn; have HAT := Lib.hid hAt; have HATK := Lib.hid (fun W hW => show ReadsL peV 10 W x.v x.l by (have hq := shOf_at (hm W hW) (j : Int); rw [hsx] at hq; exact hq)); have HE5 := Lib.hid e5; have HJ := Lib.hid hj
  rw [← hxn] at ho hp hsm hz6 hne
  clear hz5 hput hxs hxn hq0 hx hsx hAt e5 e6 en h3 h6 hs hl hj
  have HNB := Lib.hid hnb; have HNK := Lib.hid hnk; have HN3 := Lib.hid hn3
  clear h hv hm hg hx0 hx1 hn1 hn2 hn3 hn4 hnb hnk
  skip
  go_enter Tryz.func48, Tryz.ntmps48
  go_upto_region 1 with fail
  obtain ⟨W4, hW4⟩ : ∃ W4, W4 = (((w.alloc (.cells #[.int .i64 x0, .int .i64 x1, .slice a1 n1 c1, .slice a2 n2 c2, .slice (some ⟨b, o, none⟩) n3 c3, .slice a4 n4 c4] 40)).alloc (.cells #[.int .i64 6, .int .i64 j, .int .i64 T] 44)).alloc (.cells #[.int .i64 v.n, .bool v.pe.en.ad.v6, .int .u64 v.pe.en.ad.hi, .int .u64 v.pe.en.ad.lo, .int .i64 v.pe.en.port, .bool v.pe.came, .int .i64 v.pe.since, .int .i64 v.pe.pts, .int .i64 v.pe.at_, .int .i64 v.pe.ping, .int .i64 v.pe.work, .slice oa nb oc, .slice ka nk kc] 54)).alloc (.cells #[.int .i64 0, .int .i64 0, .slice none 0 0, .slice none 0 0, .slice none 0 0, .slice none 0 0] 40) := ⟨_, rfl⟩
  rw [← hW4]
  have B4 : Below w.heap.size w W4 := by subst hW4; exact bel
  have hBm : BlockIs W4 w.heap.size [.int .i64 x0, .int .i64 x1, .slice a1 n1 c1, .slice a2 n2 c2, .slice (some ⟨b, o, none⟩) n3 c3, .slice a4 n4 c4] 40 := by subst hW4; exact (((BlockIs.new w [.int .i64 x0, .int .i64 x1, .slice a1 n1 c1, .slice a2 n2 c2, .slice (some ⟨b, o, none⟩) n3 c3, .slice a4 n4 c4] _).alloc' _).alloc' _).alloc' _
  have hBl : BlockIs W4 (w.heap.size + 1) [.int .i64 6, .int .i64 j, .int .i64 T] 44 := by subst hW4; exact ((BlockIs.newAt' _ [.int .i64 6, .int .i64 j, .int .i64 T] _ (by simp)).alloc' _).alloc' _
  have hBv : BlockIs W4 (w.heap.size + 1 + 1) [.int .i64 v.n, .bool v.pe.en.ad.v6, .int .u64 v.pe.en.ad.hi, .int .u64 v.pe.en.ad.lo, .int .i64 v.pe.en.port, .bool v.pe.came, .int .i64 v.pe.since, .int .i64 v.pe.pts, .int .i64 v.pe.at_, .int .i64 v.pe.ping, .int .i64 v.pe.work, .slice oa nb oc, .slice ka nk kc] 54 := by subst hW4; exact (BlockIs.newAt' _ [.int .i64 v.n, .bool v.pe.en.ad.v6, .int .u64 v.pe.en.ad.hi, .int .u64 v.pe.en.ad.lo, .int .i64 v.pe.en.port, .bool v.pe.came, .int .i64 v.pe.since, .int .i64 v.pe.pts, .int .i64 v.pe.at_, .int .i64 v.pe.ping, .int .i64 v.pe.work, .slice oa nb oc, .slice ka nk kc] _ (by simp)).alloc' _
  have hBr : BlockIs W4 (w.heap.size + 1 + 1 + 1) [.int .i64 0, .int .i64 0, .slice none 0 0, .slice none 0 0, .slice none 0 0, .slice none 0 0] 40 := by subst hW4; exact BlockIs.newAt' _ [.int .i64 0, .int .i64 0, .slice none 0 0, .slice none 0 0, .slice none 0 0, .slice none 0 0] _ (by simp)
  have hs4 : W4.heap.size = w.heap.size + 1 + 1 + 1 + 1 := by subst hW4; simp
  clear hW4
  have z0 := keep B4 h5 k0
  have z1 := keep B4 h5 k1
  have y2 := hBm.cell (i := 4) rfl
  have y3 := hBl.cell (i := 1) rfl
  have y0 := hBl.cell (i := 0) rfl
  have m0 := hBm.cell (i := 0) rfl; have m1 := hBm.cell (i := 1) rfl; have m2 := hBm.cell (i := 2) rfl; have m3 := hBm.cell (i := 3) rfl; have m4 := hBm.cell (i := 4) rfl; have m5 := hBm.cell (i := 5) rfl; have mf := hBm.frozen; have ml := hBm.lt; have l0 := hBl.cell (i := 0) rfl; have l1 := hBl.cell (i := 1) rfl; have l2 := hBl.cell (i := 2) rfl; have v0 := hBv.cell (i := 0) rfl; have v1 := hBv.cell (i := 1) rfl; have v2 := hBv.cell (i := 2) rfl; have v3 := hBv.cell (i := 3) rfl; have v4 := hBv.cell (i := 4) rfl; have v5 := hBv.cell (i := 5) rfl; have v6 := hBv.cell (i := 6) rfl; have v7 := hBv.cell (i := 7) rfl; have v8 := hBv.cell (i := 8) rfl; have v9 := hBv.cell (i := 9) rfl; have v10 := hBv.cell (i := 10) rfl; have v11 := hBv.cell (i := 11) rfl; have v12 := hBv.cell (i := 12) rfl; have r0 := hBr.cell (i := 0) rfl; have r1 := hBr.cell (i := 1) rfl; have r2 := hBr.cell (i := 2) rfl; have r3 := hBr.cell (i := 3) rfl; have r4 := hBr.cell (i := 4) rfl; have r5 := hBr.cell (i := 5) rfl; have rf := hBr.frozen; have rl := hBr.lt
  obtain ⟨K, hK⟩ : ∃ K : Nat, K = min (T + 1) xn := ⟨_, rfl⟩
  have p1 : ¬ (xn : Int) < (T : Int) := by omega
  have p2 : (0 : Int) ≤ (T : Int) := by omega
  have p3 : (T : Int) ≤ (xn : Int) := by omega
  have p4 : (T : Int) ≤ (c5 : Int) := by omega
  have p7 : min (IntKind.i64.wrap ((T : Int) + 1)) (xn : Int) = (K : Int) := by rw [show IntKind.i64.wrap ((T : Int) + 1) = (T : Int) + 1 by rw [IntKind.wrap_i64]; omega]; omega
  have p8 : (K : Int) ≤ (xn : Int) := by omega
  rw [← hK] at hne
  subst hne
  have HKK := Lib.hid hK
  have HCC := Lib.hid (fun (W : World) (bk gk : Nat) (hT : BlockIs W bk [.slice (some ⟨b5, o5, none⟩) T c5, .slice (some ⟨gk, 0, none⟩) 1 1, .slice (some ⟨b5, o5, none⟩) 0 0] 29) (hP : BlockIs W gk (peV v.pe) 52) (hb : Below w.heap.size w W) => by
    have hr : ReadsL peV 10 W (.slice (some ⟨b5, o5, none⟩) x.l.length c5) x.l := by rw [← HE5.out]; exact ReadsL.below HAT.out hb
    have hxl := HXN.out
    have r1 := reads_takeP (k := T) hr (by omega)
    have r3 := reads_dropIf (k := c5) hr (by omega) (by omega)
    rw [← HXN.out] at r3
    have hd : x.l.drop c5 = x.l.drop (T + 1) := by rw [HKK.out, HXN.out, drop_min]
    rw [if_pos rfl, Nat.sub_self, hd, show xn - c5 = 0 by omega] at r3
    have r2 : ReadsL peV 10 W (.slice (some ⟨gk, 0, none⟩) 1 1) [v.pe] := reads_oneB hP
    exact concat3Pe _ _ _ (x.l.take T) [v.pe] (x.l.drop (T + 1)) bk W (hT.cell (i := 0) rfl) (hT.cell (i := 1) rfl) (hT.cell (i := 2) rfl) hT.lt r1 r2 r3 (by simp only [List.length_take, List.length_drop, List.length_singleton]; omega))
  clear hK
  clear m0 m1 m2 m3 m5 mf ml l2 v0 v1 v2 v3 v4 v5 v6 v7 v8 v9 v10 v11 v12 r0 r1 r2 r3 r4 r5 rf rl
  go_upto_region 12 with fail
  obtain ⟨W5, hW5⟩ : ∃ W5, W5 = W4.alloc (.cells #[.int .i64 xs, .slice (some ⟨b5, o5, none⟩) xn c5] 112) := ⟨_, rfl⟩
  rw [← hW5]
  have B5 : Below w.heap.size w W5 := by subst hW5; exact B4.alloc B4.size _
  have hBs : BlockIs W5 W4.heap.size [.int .i64 xs, .slice (some ⟨b5, o5, none⟩) xn c5] 112 := by subst hW5; exact BlockIs.new W4 [.int .i64 xs, .slice (some ⟨b5, o5, none⟩) xn c5] _
  have hBm : BlockIs W5 w.heap.size [.int .i64 x0, .int .i64 x1, .slice a1 n1 c1, .slice a2 n2 c2, .slice (some ⟨b, o, none⟩) n3 c3, .slice a4 n4 c4] 40 := by subst hW5; exact hBm.alloc' _
  have hBl : BlockIs W5 (w.heap.size + 1) [.int .i64 6, .int .i64 j, .int .i64 T] 44 := by subst hW5; exact hBl.alloc' _
  have hBv : BlockIs W5 (w.heap.size + 1 + 1) [.int .i64 v.n, .bool v.pe.en.ad.v6, .int .u64 v.pe.en.ad.hi, .int .u64 v.pe.en.ad.lo, .int .i64 v.pe.en.port, .bool v.pe.came, .int .i64 v.pe.since, .int .i64 v.pe.pts, .int .i64 v.pe.at_, .int .i64 v.pe.ping, .int .i64 v.pe.work, .slice oa nb oc, .slice ka nk kc] 54 := by subst hW5; exact hBv.alloc' _
  have hBr : BlockIs W5 (w.heap.size + 1 + 1 + 1) [.int .i64 0, .int .i64 0, .slice none 0 0, .slice none 0 0, .slice none 0 0, .slice none 0 0] 40 := by subst hW5; exact hBr.alloc' _
  have hs5 : W5.heap.size = w.heap.size + 1 + 1 + 1 + 1 + 1 := by subst hW5; rw [World.size_alloc, hs4]
  clear hW5 z0 z1 y2 y3 y0
  rw [hs4] at hBs
  try rw [hs4]
  clear hs4
  have m0 := hBm.cell (i := 0) rfl; have m1 := hBm.cell (i := 1) rfl; have m2 := hBm.cell (i := 2) rfl; have m3 := hBm.cell (i := 3) rfl; have m4 := hBm.cell (i := 4) rfl; have m5 := hBm.cell (i := 5) rfl; have mf := hBm.frozen; have ml := hBm.lt; have l0 := hBl.cell (i := 0) rfl; have l1 := hBl.cell (i := 1) rfl; have l2 := hBl.cell (i := 2) rfl; have v0 := hBv.cell (i := 0) rfl; have v1 := hBv.cell (i := 1) rfl; have v2 := hBv.cell (i := 2) rfl; have v3 := hBv.cell (i := 3) rfl; have v4 := hBv.cell (i := 4) rfl; have v5 := hBv.cell (i := 5) rfl; have v6 := hBv.cell (i := 6) rfl; have v7 := hBv.cell (i := 7) rfl; have v8 := hBv.cell (i := 8) rfl; have v9 := hBv.cell (i := 9) rfl; have v10 := hBv.cell (i := 10) rfl; have v11 := hBv.cell (i := 11) rfl; have v12 := hBv.cell (i := 12) rfl; have r0 := hBr.cell (i := 0) rfl; have r1 := hBr.cell (i := 1) rfl; have r2 := hBr.cell (i := 2) rfl; have r3 := hBr.cell (i := 3) rfl; have r4 := hBr.cell (i := 4) rfl; have r5 := hBr.cell (i := 5) rfl; have rf := hBr.frozen; have rl := hBr.lt; have s0 := hBs.cell (i := 0) rfl; have s1 := hBs.cell (i := 1) rfl; have sf := hBs.frozen; have sl := hBs.lt
  go_upto_region 14 with fail
  obtain ⟨W6, hW6⟩ : ∃ W6, W6 = ((W5.alloc (.cells #[.bool v.pe.en.ad.v6, .int .u64 v.pe.en.ad.hi, .int .u64 v.pe.en.ad.lo, .int .i64 v.pe.en.port, .bool v.pe.came, .int .i64 v.pe.since, .int .i64 v.pe.pts, .int .i64 v.pe.at_, .int .i64 v.pe.ping, .int .i64 v.pe.work] 52)).alloc (.cells #[.slice (some ⟨b5, o5, none⟩) T c5, .slice (some ⟨w.heap.size + 1 + 1 + 1 + 1 + 1, 0, none⟩) 1 1, .slice (some ⟨b5, o5, none⟩) 0 0] 29)).drew := ⟨_, rfl⟩
  have k1 : BlockIs W6 (w.heap.size + 1 + 1 + 1 + 1 + 1 + 1) [.slice (some ⟨b5, o5, none⟩) T c5, .slice (some ⟨w.heap.size + 1 + 1 + 1 + 1 + 1, 0, none⟩) 1 1, .slice (some ⟨b5, o5, none⟩) 0 0] 29 := by subst hW6; exact BlockIs.drew' (BlockIs.newAt' (W5.alloc (.cells #[.bool v.pe.en.ad.v6, .int .u64 v.pe.en.ad.hi, .int .u64 v.pe.en.ad.lo, .int .i64 v.pe.en.port, .bool v.pe.came, .int .i64 v.pe.since, .int .i64 v.pe.pts, .int .i64 v.pe.at_, .int .i64 v.pe.ping, .int .i64 v.pe.work] 52)) [.slice (some ⟨b5, o5, none⟩) T c5, .slice (some ⟨w.heap.size + 1 + 1 + 1 + 1 + 1, 0, none⟩) 1 1, .slice (some ⟨b5, o5, none⟩) 0 0] _ (by rw [World.size_alloc, hs5]))
  have k2 : BlockIs W6 (w.heap.size + 1 + 1 + 1 + 1 + 1) (peV v.pe) 52 := by subst hW6; exact BlockIs.drew' (BlockIs.alloc' (BlockIs.newAt' W5 (peV v.pe) _ hs5.symm) _)
  have k3 : Below w.heap.size w W6 := by subst hW6; exact bel
  have hBm6 := (show BlockIs W6 w.heap.size [.int .i64 x0, .int .i64 x1, .slice a1 n1 c1, .slice a2 n2 c2, .slice (some ⟨b, o, none⟩) n3 c3, .slice a4 n4 c4] 40 by subst hW6; exact BlockIs.drew' (BlockIs.alloc' (BlockIs.alloc' hBm _) _))
  have hBl6 := (show BlockIs W6 (w.heap.size + 1) [.int .i64 6, .int .i64 j, .int .i64 T] 44 by subst hW6; exact BlockIs.drew' (BlockIs.alloc' (BlockIs.alloc' hBl _) _))
  have hBr6 := (show BlockIs W6 (w.heap.size + 1 + 1 + 1) [.int .i64 0, .int .i64 0, .slice none 0 0, .slice none 0 0, .slice none 0 0, .slice none 0 0] 40 by subst hW6; exact BlockIs.drew' (BlockIs.alloc' (BlockIs.alloc' hBr _) _))
  have hBs6 := (show BlockIs W6 (w.heap.size + 1 + 1 + 1 + 1) [.int .i64 xs, .slice (some ⟨b5, o5, none⟩) xn c5] 112 by subst hW6; exact BlockIs.drew' (BlockIs.alloc' (BlockIs.alloc' hBs _) _))
  have hBv6 := (show BlockIs W6 (w.heap.size + 1 + 1) [.int .i64 v.n, .bool v.pe.en.ad.v6, .int .u64 v.pe.en.ad.hi, .int .u64 v.pe.en.ad.lo, .int .i64 v.pe.en.port, .bool v.pe.came, .int .i64 v.pe.since, .int .i64 v.pe.pts, .int .i64 v.pe.at_, .int .i64 v.pe.ping, .int .i64 v.pe.work, .slice oa nb oc, .slice ka nk kc] 54 by subst hW6; exact BlockIs.drew' (BlockIs.alloc' (BlockIs.alloc' hBv _) _))
  have hs6 : w.heap.size + 1 + 1 + 1 + 1 + 1 ≤ W6.heap.size := by have := k2.lt; omega
  have HC6 := HCC.out W6 _ _ k1 k2 k3
  have HB6 := Lib.hid (And.intro hBm6 (And.intro hBl6 (And.intro hBr6 (And.intro hBs6 hBv6))))
  clear k1 k2 hBm6 hBl6 hBr6 hBs6 hBv6
  generalize hrn : (x.l.take T ++ [v.pe] ++ x.l.drop (T + 1)).length = rn at HC6
  generalize hrl : (x.l.take T ++ [v.pe] ++ x.l.drop (T + 1)) = rl6 at HC6 hrn
  have HRN := Lib.hid hrn; have HRL := Lib.hid hrl
  clear hrn hrl
  have HC6 := Lib.hid HC6
  refine wp_region_noPanic ?_
  have hS0 : (fun wq => wq.cell? ⟨w.heap.size + 1 + 1 + 1 + 1, 1, none⟩ = some (.slice (some ⟨b5, o5, none⟩) xn c5) ∧ wq.cell? ⟨w.heap.size + 1, 2, none⟩ = some (.int .i64 T) ∧ wq.cell? ⟨w.heap.size + 1 + 1, 1, none⟩ = some (.bool v.pe.en.ad.v6) ∧ wq.cell? ⟨w.heap.size + 1 + 1, 2, none⟩ = some (.int .u64 v.pe.en.ad.hi) ∧ wq.cell? ⟨w.heap.size + 1 + 1, 3, none⟩ = some (.int .u64 v.pe.en.ad.lo) ∧ wq.cell? ⟨w.heap.size + 1 + 1, 4, none⟩ = some (.int .i64 v.pe.en.port) ∧ wq.cell? ⟨w.heap.size + 1 + 1, 5, none⟩ = some (.bool v.pe.came) ∧ wq.cell? ⟨w.heap.size + 1 + 1, 6, none⟩ = some (.int .i64 v.pe.since) ∧ wq.cell? ⟨w.heap.size + 1 + 1, 7, none⟩ = some (.int .i64 v.pe.pts) ∧ wq.cell? ⟨w.heap.size + 1 + 1, 8, none⟩ = some (.int .i64 v.pe.at_) ∧ wq.cell? ⟨w.heap.size + 1 + 1, 9, none⟩ = some (.int .i64 v.pe.ping) ∧ wq.cell? ⟨w.heap.size + 1 + 1, 10, none⟩ = some (.int .i64 v.pe.work)) W5.drew := by
    dsimp only
    (first | go_keep | (simp (disch := omega) [*]; done) | (simp (disch := first | omega | (simp; omega)) [World.cell?_setCell_far, World.cell?_alloc_past, *]; done) | (simp (disch := first | omega | (simp; omega)) [World.cell?_setCell_far, World.cell?_alloc_past, *]; repeat (first | exact rfl | refine ⟨rfl, ?_⟩)))
  refine wp_region_headH (fun wq => wq.cell? ⟨w.heap.size + 1 + 1 + 1 + 1, 1, none⟩ = some (.slice (some ⟨b5, o5, none⟩) xn c5) ∧ wq.cell? ⟨w.heap.size + 1, 2, none⟩ = some (.int .i64 T) ∧ wq.cell? ⟨w.heap.size + 1 + 1, 1, none⟩ = some (.bool v.pe.en.ad.v6) ∧ wq.cell? ⟨w.heap.size + 1 + 1, 2, none⟩ = some (.int .u64 v.pe.en.ad.hi) ∧ wq.cell? ⟨w.heap.size + 1 + 1, 3, none⟩ = some (.int .u64 v.pe.en.ad.lo) ∧ wq.cell? ⟨w.heap.size + 1 + 1, 4, none⟩ = some (.int .i64 v.pe.en.port) ∧ wq.cell? ⟨w.heap.size + 1 + 1, 5, none⟩ = some (.bool v.pe.came) ∧ wq.cell? ⟨w.heap.size + 1 + 1, 6, none⟩ = some (.int .i64 v.pe.since) ∧ wq.cell? ⟨w.heap.size + 1 + 1, 7, none⟩ = some (.int .i64 v.pe.pts) ∧ wq.cell? ⟨w.heap.size + 1 + 1, 8, none⟩ = some (.int .i64 v.pe.at_) ∧ wq.cell? ⟨w.heap.size + 1 + 1, 9, none⟩ = some (.int .i64 v.pe.ping) ∧ wq.cell? ⟨w.heap.size + 1 + 1, 10, none⟩ = some (.int .i64 v.pe.work)) 21 (by kernel_rfl) (by kernel_rfl) ?_
  refine headH_take (i := 0) (v := ?qv0) (by kernel_rfl) rfl rfl (by kernel_rfl) (by kernel_rfl) (by kernel_rfl) (fun _ _ _ h => h) (Or.inl ⟨by rfl, ?qy0⟩) (by assumption) ?qr0
  case qy0 =>
    intro wq hSw
    try dsimp only at hSw
    go_simp
    try with_reducible rfl
  try simp only [Act.put, List.setIfInBounds_toArray, List.set_cons_zero, List.set_cons_succ]
  refine headH_take (i := 1) (v := ?qv1) (by kernel_rfl) rfl rfl (by kernel_rfl) (by kernel_rfl) (by kernel_rfl) (fun _ _ _ h => h) (Or.inl ⟨by rfl, ?qy1⟩) (by assumption) ?qr1
  case qy1 =>
    intro wq hSw
    try dsimp only at hSw
    go_simp
    try with_reducible rfl
  try simp only [Act.put, List.setIfInBounds_toArray, List.set_cons_zero, List.set_cons_succ]
  refine headH_take (i := 2) (v := ?qv2) (by kernel_rfl) rfl rfl (by kernel_rfl) (by kernel_rfl) (by kernel_rfl) (fun _ _ _ h => h) (Or.inl ⟨by rfl, ?qy2⟩) (by assumption) ?qr2
  case qy2 =>
    intro wq hSw
    try dsimp only at hSw
    go_simp
    try with_reducible rfl
  try simp only [Act.put, List.setIfInBounds_toArray, List.set_cons_zero, List.set_cons_succ]
  refine headH_take (i := 3) (v := ?qv3) (by kernel_rfl) rfl rfl (by kernel_rfl) (by kernel_rfl) (by kernel_rfl) (fun _ _ _ h => h) (Or.inl ⟨by rfl, ?qy3⟩) (by assumption) ?qr3
  case qy3 =>
    intro wq hSw
    try dsimp only at hSw
    go_simp
    try with_reducible rfl
  try simp only [Act.put, List.setIfInBounds_toArray, List.set_cons_zero, List.set_cons_succ]
  refine headH_take (i := 4) (v := ?qv4) (by kernel_rfl) rfl rfl (by kernel_rfl) (by kernel_rfl) (by kernel_rfl) (fun _ _ _ h => h) (Or.inl ⟨by rfl, ?qy4⟩) (by assumption) ?qr4
  case qy4 =>
    intro wq hSw
    try dsimp only at hSw
    go_simp
    try with_reducible rfl
  try simp only [Act.put, List.setIfInBounds_toArray, List.set_cons_zero, List.set_cons_succ]
  refine headH_take (i := 5) (v := ?qv5) (by kernel_rfl) rfl rfl (by kernel_rfl) (by kernel_rfl) (by kernel_rfl) (fun _ _ _ h => h) (Or.inl ⟨by rfl, ?qy5⟩) (by assumption) ?qr5
  case qy5 =>
    intro wq hSw
    try dsimp only at hSw
    go_simp
    try with_reducible rfl
  try simp only [Act.put, List.setIfInBounds_toArray, List.set_cons_zero, List.set_cons_succ]
  refine headH_take (i := 6) (v := ?qv6) (by kernel_rfl) rfl rfl (by kernel_rfl) (by kernel_rfl) (by kernel_rfl) (fun _ _ _ h => h) (Or.inl ⟨by rfl, ?qy6⟩) (by assumption) ?qr6
  case qy6 =>
    intro wq hSw
    try dsimp only at hSw
    go_simp
    try with_reducible rfl
  try simp only [Act.put, List.setIfInBounds_toArray, List.set_cons_zero, List.set_cons_succ]
  refine headH_take (i := 8) (v := ?qv8) (by kernel_rfl) rfl rfl (by kernel_rfl) (by kernel_rfl) (by kernel_rfl) (fun _ _ _ h => h) (Or.inl ⟨by rfl, ?qy8⟩) (by assumption) ?qr8
  case qy8 =>
    intro wq hSw
    try dsimp only at hSw
    go_simp
    try with_reducible rfl
  try simp only [Act.put, List.setIfInBounds_toArray, List.set_cons_zero, List.set_cons_succ]
  refine headH_take (i := 9) (v := ?qv9) (by kernel_rfl) rfl rfl (by kernel_rfl) (by kernel_rfl) (by kernel_rfl) (fun _ _ _ h => h) (Or.inl ⟨by rfl, ?qy9⟩) (by assumption) ?qr9
  case qy9 =>
    intro wq hSw
    try dsimp only at hSw
    go_simp
    try with_reducible rfl
  try simp only [Act.put, List.setIfInBounds_toArray, List.set_cons_zero, List.set_cons_succ]
  refine headH_take (i := 10) (v := ?qv10) (by kernel_rfl) rfl rfl (by kernel_rfl) (by kernel_rfl) (by kernel_rfl) (fun _ _ _ h => h) (Or.inl ⟨by rfl, ?qy10⟩) (by assumption) ?qr10
  case qy10 =>
    intro wq hSw
    try dsimp only at hSw
    go_simp
    try with_reducible rfl
  try simp only [Act.put, List.setIfInBounds_toArray, List.set_cons_zero, List.set_cons_succ]
  refine headH_take (i := 11) (v := ?qv11) (by kernel_rfl) rfl rfl (by kernel_rfl) (by kernel_rfl) (by kernel_rfl) (fun _ _ _ h => h) (Or.inl ⟨by rfl, ?qy11⟩) (by assumption) ?qr11
  case qy11 =>
    intro wq hSw
    try dsimp only at hSw
    go_simp
    try with_reducible rfl
  try simp only [Act.put, List.setIfInBounds_toArray, List.set_cons_zero, List.set_cons_succ]
  refine headH_take (i := 12) (v := ?qv12) (by kernel_rfl) rfl rfl (by kernel_rfl) (by kernel_rfl) (by kernel_rfl) (fun _ _ _ h => h) (Or.inl ⟨by rfl, ?qy12⟩) (by assumption) ?qr12
  case qy12 =>
    intro wq hSw
    try dsimp only at hSw
    go_simp
    try with_reducible rfl
  try simp only [Act.put, List.setIfInBounds_toArray, List.set_cons_zero, List.set_cons_succ]
  refine headH_take (i := 13) (v := ?qv13) (by kernel_rfl) rfl rfl (by kernel_rfl) (by kernel_rfl) (by kernel_rfl) (fun _ _ _ h => h) (Or.inl ⟨by rfl, ?qy13⟩) (by assumption) ?qr13
  case qy13 =>
    intro wq hSw
    try dsimp only at hSw
    go_simp
    try with_reducible rfl
  try simp only [Act.put, List.setIfInBounds_toArray, List.set_cons_zero, List.set_cons_succ]
  refine headH_take (i := 14) (v := ?qv14) (by kernel_rfl) rfl rfl (by kernel_rfl) (by kernel_rfl) (by kernel_rfl) (fun _ _ _ h => h) (Or.inl ⟨by rfl, ?qy14⟩) (by assumption) ?qr14
  case qy14 =>
    intro wq hSw
    try dsimp only at hSw
    go_simp
    try with_reducible rfl
  try simp only [Act.put, List.setIfInBounds_toArray, List.set_cons_zero, List.set_cons_succ]
  refine headH_take (i := 15) (v := ?qv15) (by kernel_rfl) rfl rfl (by kernel_rfl) (by kernel_rfl) (by kernel_rfl) (fun _ _ _ h => h) (Or.inl ⟨by rfl, ?qy15⟩) (by assumption) ?qr15
  case qy15 =>
    intro wq hSw
    try dsimp only at hSw
    go_simp
    try with_reducible rfl
  try simp only [Act.put, List.setIfInBounds_toArray, List.set_cons_zero, List.set_cons_succ]
  refine headH_take (i := 16) (v := ?qv16) (by kernel_rfl) rfl rfl (by kernel_rfl) (by kernel_rfl) (by kernel_rfl) (fun _ _ _ h => h) (Or.inl ⟨by rfl, ?qy16⟩) (by assumption) ?qr16
  case qy16 =>
    intro wq hSw
    try dsimp only at hSw
    go_simp
    try with_reducible rfl
  try simp only [Act.put, List.setIfInBounds_toArray, List.set_cons_zero, List.set_cons_succ]
  refine headH_take (i := 17) (v := ?qv17) (by kernel_rfl) rfl rfl (by kernel_rfl) (by kernel_rfl) (by kernel_rfl) (fun _ _ _ h => h) (Or.inl ⟨by rfl, ?qy17⟩) (by assumption) ?qr17
  case qy17 =>
    intro wq hSw
    try dsimp only at hSw
    go_simp
    try with_reducible rfl
  try simp only [Act.put, List.setIfInBounds_toArray, List.set_cons_zero, List.set_cons_succ]
  refine headH_one (i := 7) rfl rfl (by kernel_rfl) (fun K hK => ?_)
  go_simp
  refine hK.out _ _ ?_ (fun hS7 => ?_)
  · try dsimp only
    (first | go_keep | (simp (disch := omega) [*]; done) | (simp (disch := first | omega | (simp; omega)) [World.cell?_setCell_far, World.cell?_alloc_past, *]; done) | (simp (disch := first | omega | (simp; omega)) [World.cell?_setCell_far, World.cell?_alloc_past, *]; repeat (first | exact rfl | refine ⟨rfl, ?_⟩)))
  clear hK K
  try simp only [Act.put, List.setIfInBounds_toArray, List.set_cons_zero, List.set_cons_succ]
  refine headH_one (i := 18) rfl rfl (by kernel_rfl) (fun K hK => ?_)
  go_simp
  refine hK.out _ _ ?_ (fun hS18 => ?_)
  · try dsimp only
    (first | go_keep | (simp (disch := omega) [*]; done) | (simp (disch := first | omega | (simp; omega)) [World.cell?_setCell_far, World.cell?_alloc_past, *]; done) | (simp (disch := first | omega | (simp; omega)) [World.cell?_setCell_far, World.cell?_alloc_past, *]; repeat (first | exact rfl | refine ⟨rfl, ?_⟩)))
  clear hK K
  try simp only [Act.put, List.setIfInBounds_toArray, List.set_cons_zero, List.set_cons_succ]
  refine headH_one (i := 19) rfl rfl (by kernel_rfl) (fun K hK => ?_)
  go_simp
  (go_at_call 76; go_loud (rw [← hW6]; (with_reducible refine HC6.out.mono ?_); rintro e w6 ⟨r6, rfl, own6, b6⟩; have own6 := owns_base own6 hs6; obtain ⟨a8, c8, e8⟩ := owns_slice own6; subst e8; have HO6 := Lib.hid own6; clear own6; have B6 := below2 k3 b6; have z6 := b6.size; obtain ⟨hBm6, hBl6, hBr6, hBs6, hBv6⟩ := HB6.out; have hBv6 := hBv6.below b6; have hBm6 := hBm6.below b6; have hBl6 := hBl6.below b6; have hBr6 := hBr6.below b6; have hBs6 := hBs6.below b6; clear m0 m1 m2 m3 m4 m5 mf ml l0 l1 l2 v0 v1 v2 v3 v4 v5 v6 v7 v8 v9 v10 v11 v12 r0 r1 r2 r3 r4 r5 rf rl s0 s1 sf sl; have m0 := hBm6.cell (i := 0) rfl; have m1 := hBm6.cell (i := 1) rfl; have m2 := hBm6.cell (i := 2) rfl; have m3 := hBm6.cell (i := 3) rfl; have m4 := hBm6.cell (i := 4) rfl; have m5 := hBm6.cell (i := 5) rfl; have l0 := hBl6.cell (i := 0) rfl; have l1 := hBl6.cell (i := 1) rfl; have l2 := hBl6.cell (i := 2) rfl; have r0 := hBr6.cell (i := 0) rfl; have r1 := hBr6.cell (i := 1) rfl; have r2 := hBr6.cell (i := 2) rfl; have r3 := hBr6.cell (i := 3) rfl; have r4 := hBr6.cell (i := 4) rfl; have r5 := hBr6.cell (i := 5) rfl; have s0 := hBs6.cell (i := 0) rfl; have s1 := hBs6.cell (i := 1) rfl; have v1 := hBv6.cell (i := 1) rfl; have v2 := hBv6.cell (i := 2) rfl; have v3 := hBv6.cell (i := 3) rfl; have v4 := hBv6.cell (i := 4) rfl; have v5 := hBv6.cell (i := 5) rfl; have v6 := hBv6.cell (i := 6) rfl; have v7 := hBv6.cell (i := 7) rfl; have v8 := hBv6.cell (i := 8) rfl; have v9 := hBv6.cell (i := 9) rfl; have v10 := hBv6.cell (i := 10) rfl; have mf := hBm6.frozen; have ml := hBm6.lt; have rf := hBr6.frozen; have rl := hBr6.lt; have sf := hBs6.frozen; have sl := hBs6.lt))
  refine hK.out _ _ ?_ (fun hS19 => ?_)
  · try dsimp only
    (first | go_keep | (simp (disch := omega) [*]; done) | (simp (disch := first | omega | (simp; omega)) [World.cell?_setCell_far, World.cell?_alloc_past, *]; done) | (simp (disch := first | omega | (simp; omega)) [World.cell?_setCell_far, World.cell?_alloc_past, *]; repeat (first | exact rfl | refine ⟨rfl, ?_⟩)))
  clear hK K
  try simp only [Act.put, List.setIfInBounds_toArray, List.set_cons_zero, List.set_cons_succ]
  refine headH_take (i := 20) (v := ?qv20) (by kernel_rfl) rfl rfl (by kernel_rfl) (by kernel_rfl) (by kernel_rfl) (fun _ _ _ h => h) (Or.inl ⟨by rfl, ?qy20⟩) (by assumption) ?qr20
  case qy20 =>
    intro wq hSw
    try dsimp only at hSw
    go_simp
    try with_reducible rfl
  try simp only [Act.put, List.setIfInBounds_toArray, List.set_cons_zero, List.set_cons_succ]
  refine headH_done (by kernel_rfl) ?_
  simp only [List.drop_succ_cons, List.drop_zero]
  go_wp2_with fail
  refine NoPanic.normal ?_
  go_wp2_with (go_at_call 75; (with_reducible refine (HP.out _ ⟨xs, .slice a8 rn c8, rl6⟩ (by simp [World.setCell]; omega) (by refine ((Firm.own HO6.out (Nat.le_refl _)).map (fun W h => (by (unfold ReadsL; rw [HRN.out]; exact owns_reads h)))).keep (fun g arr T h1 hb => (by (have nB1 : g ≠ w.heap.size + 1 + 1 + 1 + 1 := (by omega); have nB2 : w.heap.size + 1 + 1 + 1 + 1 ≠ g := (by omega); ((refine RchW.get ?_); (repeat (first | with_reducible refine reach_set ?_ | with_reducible refine reach_other (by first | assumption | omega) ?_ | with_reducible refine reach_alloc ?_ | with_reducible refine reach_drew ?_)); exact reach_at (hb) rfl))))) (by exact bel)).mono ?_); rintro e w7 ⟨v7, rfl, hM7, b7⟩; have HM7 := Lib.hid hM7; have B7 := below2 (w := w) (by exact bel) b7; obtain ⟨_, a6, c6, e6, _⟩ := shs_open (hM7.now (HG.out _ _ hb0 B7)).2.2.1.1; simp only [List.length_set] at e6; rw [← HN3.out] at e6; have E6 := Lib.hid e6; subst e6; have z7 := b7.size; have hBr7 : BlockIs w7 (w.heap.size + 1 + 1 + 1) [.int .i64 0, .int .i64 0, .slice none 0 0, .slice none 0 0, .slice none 0 0, .slice none 0 0] 40 := BlockIs.below (by ((refine RchW.get ?_); (repeat (first | with_reducible refine reach_set ?_ | with_reducible refine reach_other (by first | assumption | omega) ?_ | with_reducible refine reach_alloc ?_ | with_reducible refine reach_drew ?_)); exact reach_at (hBr6) rfl)) b7; clear r0 r1 r2 r3 r4 r5 rf rl; have r0 := hBr7.cell (i := 0) rfl; have r1 := hBr7.cell (i := 1) rfl; have r2 := hBr7.cell (i := 2) rfl; have r3 := hBr7.cell (i := 3) rfl; have r4 := hBr7.cell (i := 4) rfl; have r5 := hBr7.cell (i := 5) rfl; have rf := hBr7.frozen; have rl := hBr7.lt)
  refine bodyPost_named fun W9 h9 => ?_
  have hR9 : BlockIs W9 (w.heap.size + 1 + 1 + 1) [.int .i64 x0, .int .i64 x1, .slice a1 n1 c1, .slice a2 n2 c2, .slice a6 n3 c6, .slice a4 n4 c4] 40 := by subst h9; ((refine RchW.get ?_); (repeat (first | with_reducible refine reach_set ?_ | with_reducible refine reach_other (by first | assumption | omega) ?_ | with_reducible refine reach_alloc ?_ | with_reducible refine reach_drew ?_)); exact reach_at (hBr7) rfl)
  have b9 : Below w.heap.size w W9 := by subst h9; exact bel
  have FIN : Hid (Firm w0 B W9 fun W => MmAt W ⟨x0, x1, m.bans, m.book, (.slice a6 n3 c6, m.parts.2.set j ⟨xs, .slice a8 rn c8, rl6⟩), m.locks⟩) := by
    subst h9
    unfold Hid
    refine (Firm.keep HM7.out fun g arr T h1 hb => ?_).from (by omega)
    have nB : w.heap.size ≠ g := by omega
    have nB2 : g ≠ w.heap.size := by omega
    have nB3 : g ≠ w.heap.size + 1 + 1 + 1 := by omega
    have nB4 : w.heap.size + 1 + 1 + 1 ≠ g := by omega
    ((refine RchW.get ?_); (repeat (first | with_reducible refine reach_set ?_ | with_reducible refine reach_other (by first | assumption | omega) ?_ | with_reducible refine reach_alloc ?_ | with_reducible refine reach_drew ?_)); exact reach_at (hb) rfl)
  clear h9
  have e90 := hR9.cell (i := 0) rfl; have e91 := hR9.cell (i := 1) rfl; have e92 := hR9.cell (i := 2) rfl; have e93 := hR9.cell (i := 3) rfl; have e94 := hR9.cell (i := 4) rfl; have e95 := hR9.cell (i := 5) rfl
  exact bodyPost_ret (v := .agg #[.int .i64 x0, .int .i64 x1, .slice a1 n1 c1, .slice a2 n2 c2, .slice a6 n3 c6, .slice a4 n4 c4]) (by simp [results, Tryz.results48, go_sem, e90, e91, e92, e93, e94, e95]) rfl ⟨⟨x0, x1, m.bans, m.book, (.slice a6 n3 c6, m.parts.2.set j ⟨xs, .slice a8 rn c8, rl6⟩), m.locks⟩, (by simp only [E1.out, E2.out, E4.out, ← HN1.out, ← HN2.out, ← HN4.out]), (fun W h0 hkp => by (have hm9 := HM.out W h0; exact FIN.out W h0 hkp)), (by unfold Mm.pl setAt; simp only [if_pos q2, Int.toNat_natCast, List.map_set, HX0.out, HX1.out, ← HRL.out, HXS.out, List.append_assoc, List.singleton_append]), b9⟩

end Go.Proofs.YtnplgagaoeckoaaGreat
