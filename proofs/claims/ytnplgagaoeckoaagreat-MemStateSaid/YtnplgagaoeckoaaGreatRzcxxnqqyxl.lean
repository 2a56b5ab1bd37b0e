/- Texts put together: MemJC, MemJD, MemJE, MemK, MemL0, MemL1, MemL2, MemL3y, MemL3n, MemL6. No condition. -/
import Derived.Test.YtnplgagaoeckoaaGreatRmxyubvfael
import Derived.Test.YtnplgagaoeckoaaGreatRzqhmawytif
namespace Go.Proofs.YtnplgagaoeckoaaGreat
open Go.RowKit
set_option linter.unusedSimpArgs false
set_option linter.unusedVariables false

set_option maxRecDepth 100000 in
set_option maxHeartbeats 8000000 in
theorem memStore_6z0 (w0 : World → Prop) (hg : Grows w0) (B : Nat) (m : Mm) (s t : Int) (v : Vm) (w : World) (hb0 : w0 w) (hB : B ≤ w.heap.size) (hm : ∀ W, w0 W → MmAt W m) (hv : VmAt w v) (hs : 0 ≤ s ∧ s < (m.parts.2.length : Int)) (hl : m.parts.2.length ≤ 1000) (ht : 0 ≤ t) (ho : t ≤ ((shOf m s).l.length : Int)) (hp : (shOf m s).l.length = 0) (hck : ∀ a n c, (shOf m s).v = .slice a n c → a = none) :
    Calls Tryz.prog 48 #[.agg #[.int .i64 m.inn, .int .i64 m.out, m.bans.1, m.book.1, m.parts.1, m.locks.1], .agg #[.int .i64 6, .int .i64 s, .int .i64 t], .agg #[.int .i64 v.n, .bool v.pe.en.ad.v6, .int .u64 v.pe.en.ad.hi, .int .u64 v.pe.en.ad.lo, .int .i64 v.pe.en.port, .bool v.pe.came, .int .i64 v.pe.since, .int .i64 v.pe.pts, .int .i64 v.pe.at_, .int .i64 v.pe.ping, .int .i64 v.pe.work, v.bans.1, v.book.1]] w (GivesMm w0 B w (storeP m.pl 6 s t v.pl)) := by
  have hres : storeP m.pl 6 s t v.pl = { m.pl with parts := setAt m.pl.parts s ((partP m.pl s).1, putP (partP m.pl s).2 t v.pe) } := by unfold storeP; rfl
  rw [hres]
  unfold GivesMm
  have h := hm w hb0
  have HM := Lib.hid hm
  have HG := Lib.hid hg
  obtain rfl : t = 0 := by omega
  obtain ⟨j, rfl⟩ : ∃ j : Nat, s = (j : Int) := ⟨s.toNat, by omega⟩
  have hj : j < m.parts.2.length := by omega
  have hq0 := shOf_pl m (j : Int)
  obtain ⟨x, hx⟩ : ∃ x, m.parts.2[j]? = some x := ⟨_, List.getElem?_eq_getElem hj⟩
  have hsx : shOf m (j : Int) = x := by unfold shOf getAt; rw [if_pos hs.1, Int.toNat_natCast, List.getD_eq_getElem?_getD, hx]; rfl
  have hAt := shOf_at h (j : Int)
  rw [hsx] at hAt hq0 hp hck
  obtain ⟨_, a5, c5, e5, _⟩ := pes_open hAt
  have hl0 : x.l = [] := List.eq_nil_of_length_eq_zero hp
  have HL0 := Lib.hid hl0
  rw [hp] at e5
  obtain rfl := hck _ _ _ e5
  clear hck
  obtain ⟨_, p, c, e6, h3⟩ := shs_open h.2.2.1.1
  obtain ⟨b, o, rfl, h4, h5, h6⟩ := h3 (by omega)
  obtain ⟨k0, k1⟩ := h6 j x hx
  rw [e5] at k1
  have hput : putP x.l 0 v.pe = x.l.take 0 ++ v.pe :: x.l.drop (0 + 1) := by unfold putP; rw [if_neg (by omega)]; rfl
  rw [hq0]
  simp only [hput]
  have HP := Lib.hid (fun (W : World) (K : Sh) (hW : w.heap.size + 1 + 1 + 1 + 1 + 1 ≤ W.heap.size) (hK : Firm w0 (w.heap.size + 1 + 1 + 1 + 1 + 1) W fun W => ReadsL peV 10 W K.v K.l) (hb : Below w.heap.size w W) => mem_part_in w0 hg (w.heap.size + 1 + 1 + 1 + 1 + 1) m j K W (hg _ _ hb0 hb) hW hm hK hj hl)
  obtain ⟨a1, a2, a3, a4, c1, c2, c3, c4, e1, e2, e3, e4⟩ := mm_slices h
  obtain ⟨_, oa, oc, eo, _⟩ := ba_open hv.1
  obtain ⟨_, ka, kc, ek, _⟩ := ey_open hv.2
  have hmm : m = ⟨m.inn, m.out, (.slice a1 m.bans.2.length c1, m.bans.2), (.slice a2 m.book.2.length c2, m.book.2), (.slice a3 m.parts.2.length c3, m.parts.2), (.slice a4 m.locks.2.length c4, m.locks.2)⟩ := by rw [← e1, ← e2, ← e3, ← e4]
  have HMM := Lib.hid hmm
  have ex := e3.symm.trans e6
  injection ex with ea en ec
  subst ea ec
  simp only [e1, e2, e3, e4] at HP
  have E1 := Lib.hid e1; have E2 := Lib.hid e2; have E4 := Lib.hid e4
  obtain ⟨xs, hxs⟩ : ∃ z, z = x.size := ⟨_, rfl⟩
  rw [← hxs] at k0
  rw [e1, e2, e3, e4, eo, ek]
  clear hres e1 e2 e3 e4 eo ek hmm
  obtain ⟨x0, hx0⟩ : ∃ x, x = m.inn := ⟨_, rfl⟩
  obtain ⟨x1, hx1⟩ : ∃ x, x = m.out := ⟨_, rfl⟩
  obtain ⟨n1, hn1⟩ : ∃ n, n = m.bans.2.length := ⟨_, rfl⟩
  obtain ⟨n2, hn2⟩ : ∃ n, n = m.book.2.length := ⟨_, rfl⟩
  obtain ⟨n3, hn3⟩ : ∃ n, n = m.parts.2.length := ⟨_, rfl⟩
  obtain ⟨n4, hn4⟩ : ∃ n, n = m.locks.2.length := ⟨_, rfl⟩
  obtain ⟨nb, hnb⟩ : ∃ n, n = v.bans.2.length := ⟨_, rfl⟩
  obtain ⟨nk, hnk⟩ : ∃ n, n = v.book.2.length := ⟨_, rfl⟩
  rw [← hx0, ← hx1, ← hn1, ← hn2, ← hn3, ← hn4, ← hnb, ← hnk]
  rw [← hx0, ← hx1, ← hn1, ← hn2, ← hn3, ← hn4] at HMM
  rw [← hx0, ← hx1, ← hn1, ← hn2, ← hn3, ← hn4] at HP
  have q1 : (j : Int) < (n3 : Int) := by omega
  have q2 : (0 : Int) ≤ (j : Int) := by omega
  have HX0 := Lib.hid hx0; have HX1 := Lib.hid hx1; have HN1 := Lib.hid hn1; have HN2 := Lib.hid hn2; have HN4 := Lib.hid hn4; have HXS := Lib.hid hxs; have HAT := Lib.hid hAt; have HATK := Lib.hid (fun W hW => show ReadsL peV 10 W x.v x.l by (have hq := shOf_at (hm W hW) (j : Int); rw [hsx] at hq; exact hq)); have HE5 := Lib.hid e5; have HJ := Lib.hid hj
  clear hput hl0 hp ho ht hxs hq0 hx hsx hAt e5 e6 en h3 h6 hs hl hj
  have HNB := Lib.hid hnb; have HNK := Lib.hid hnk; have HN3 := Lib.hid hn3
  clear h hv hm hg hx0 hx1 hn1 hn2 hn3 hn4 hnb hnk
  skip
  go_enter Tryz.func48, Tryz.ntmps48
  go_upto_region 1 with fail
  obtain ⟨W4, hW4⟩ : ∃ W4, W4 = (((w.alloc (.cells #[.int .i64 x0, .int .i64 x1, .slice a1 n1 c1, .slice a2 n2 c2, .slice (some ⟨b, o, none⟩) n3 c3, .slice a4 n4 c4] 40)).alloc (.cells #[.int .i64 6, .int .i64 j, .int .i64 0] 44)).alloc (.cells #[.int .i64 v.n, .bool v.pe.en.ad.v6, .int .u64 v.pe.en.ad.hi, .int .u64 v.pe.en.ad.lo, .int .i64 v.pe.en.port, .bool v.pe.came, .int .i64 v.pe.since, .int .i64 v.pe.pts, .int .i64 v.pe.at_, .int .i64 v.pe.ping, .int .i64 v.pe.work, .slice oa nb oc, .slice ka nk kc] 54)).alloc (.cells #[.int .i64 0, .int .i64 0, .slice none 0 0, .slice none 0 0, .slice none 0 0, .slice none 0 0] 40) := ⟨_, rfl⟩
  rw [← hW4]
  have B4 : Below w.heap.size w W4 := by subst hW4; exact bel
  have hBm : BlockIs W4 w.heap.size [.int .i64 x0, .int .i64 x1, .slice a1 n1 c1, .slice a2 n2 c2, .slice (some ⟨b, o, none⟩) n3 c3, .slice a4 n4 c4] 40 := by subst hW4; exact (((BlockIs.new w [.int .i64 x0, .int .i64 x1, .slice a1 n1 c1, .slice a2 n2 c2, .slice (some ⟨b, o, none⟩) n3 c3, .slice a4 n4 c4] _).alloc' _).alloc' _).alloc' _
  have hBl : BlockIs W4 (w.heap.size + 1) [.int .i64 6, .int .i64 j, .int .i64 0] 44 := by subst hW4; exact ((BlockIs.newAt' _ [.int .i64 6, .int .i64 j, .int .i64 0] _ (by simp)).alloc' _).alloc' _
  have hBv : BlockIs W4 (w.heap.size + 1 + 1) [.int .i64 v.n, .bool v.pe.en.ad.v6, .int .u64 v.pe.en.ad.hi, .int .u64 v.pe.en.ad.lo, .int .i64 v.pe.en.port, .bool v.pe.came, .int .i64 v.pe.since, .int .i64 v.pe.pts, .int .i64 v.pe.at_, .int .i64 v.pe.ping, .int .i64 v.pe.work, .slice oa nb oc, .slice ka nk kc] 54 := by subst hW4; exact (BlockIs.newAt' _ [.int .i64 v.n, .bool v.pe.en.ad.v6, .int .u64 v.pe.en.ad.hi, .int .u64 v.pe.en.ad.lo, .int .i64 v.pe.en.port, .bool v.pe.came, .int .i64 v.pe.since, .int .i64 v.pe.pts, .int .i64 v.pe.at_, .int .i64 v.pe.ping, .int .i64 v.pe.work, .slice oa nb oc, .slice ka nk kc] _ (by simp)).alloc' _
  have hBr : BlockIs W4 (w.heap.size + 1 + 1 + 1) [.int .i64 0, .int .i64 0, .slice none 0 0, .slice none 0 0, .slice none 0 0, .slice none 0 0] 40 := by subst hW4; exact BlockIs.newAt' _ [.int .i64 0, .int .i64 0, .slice none 0 0, .slice none 0 0, .slice none 0 0, .slice none 0 0] _ (by simp)
  have hs4 : W4.heap.size = w.heap.size + 1 + 1 + 1 + 1 := by subst hW4; simp
  clear hW4
  have z0 := keep B4 h5 k0
  have z1 := keep B4 h5 k1
  have y2 := hBm.cell (i := 4) rfl
  have y3 := hBl.cell (i := 1) rfl
  have y0 := hBl.cell (i := 0) rfl
  have m0 := hBm.cell (i := 0) rfl; have m1 := hBm.cell (i := 1) rfl; have m2 := hBm.cell (i := 2) rfl; have m3 := hBm.cell (i := 3) rfl; have m4 := hBm.cell (i := 4) rfl; have m5 := hBm.cell (i := 5) rfl; have mf := hBm.frozen; have ml := hBm.lt; have l0 := hBl.cell (i := 0) rfl; have l1 := hBl.cell (i := 1) rfl; have l2 := hBl.cell (i := 2) rfl; have v0 := hBv.cell (i := 0) rfl; have v1 := hBv.cell (i := 1) rfl; have v2 := hBv.cell (i := 2) rfl; have v3 := hBv.cell (i := 3) rfl; have v4 := hBv.cell (i := 4) rfl; have v5 := hBv.cell (i := 5) rfl; have v6 := hBv.cell (i := 6) rfl; have v7 := hBv.cell (i := 7) rfl; have v8 := hBv.cell (i := 8) rfl; have v9 := hBv.cell (i := 9) rfl; have v10 := hBv.cell (i := 10) rfl; have v11 := hBv.cell (i := 11) rfl; have v12 := hBv.cell (i := 12) rfl; have r0 := hBr.cell (i := 0) rfl; have r1 := hBr.cell (i := 1) rfl; have r2 := hBr.cell (i := 2) rfl; have r3 := hBr.cell (i := 3) rfl; have r4 := hBr.cell (i := 4) rfl; have r5 := hBr.cell (i := 5) rfl; have rf := hBr.frozen; have rl := hBr.lt
  have p4 : (0 : Int) ≤ (c5 : Int) := by omega
  have p7 : min (IntKind.i64.wrap 1) 0 = 0 := by decide
  have HCC := Lib.hid (fun (W : World) (bk gk : Nat) (hT : BlockIs W bk [.slice none 0 c5, .slice (some ⟨gk, 0, none⟩) 1 1, .slice none 0 c5] 29) (hP : BlockIs W gk (peV v.pe) 52) (hb : Below w.heap.size w W) => by
    have r1 : ReadsL peV 10 W (.slice none 0 c5) (x.l.take 0) := by rw [HL0.out]; exact ReadsL.nil _ _ _ _ _
    have r3 : ReadsL peV 10 W (.slice none 0 c5) (x.l.drop (0 + 1)) := by rw [HL0.out]; exact ReadsL.nil _ _ _ _ _
    have r2 : ReadsL peV 10 W (.slice (some ⟨gk, 0, none⟩) 1 1) [v.pe] := reads_oneB hP
    exact concat3Pe _ _ _ (x.l.take 0) [v.pe] (x.l.drop (0 + 1)) bk W (hT.cell (i := 0) rfl) (hT.cell (i := 1) rfl) (hT.cell (i := 2) rfl) hT.lt r1 r2 r3 (by rw [HL0.out]; simp))
  clear m0 m1 m2 m3 m5 mf ml l2 v0 v1 v2 v3 v4 v5 v6 v7 v8 v9 v10 v11 v12 r0 r1 r2 r3 r4 r5 rf rl
  go_upto_region 12 with fail
  obtain ⟨W5, hW5⟩ : ∃ W5, W5 = W4.alloc (.cells #[.int .i64 xs, .slice none 0 c5] 112) := ⟨_, rfl⟩
  rw [← hW5]
  have B5 : Below w.heap.size w W5 := by subst hW5; exact B4.alloc B4.size _
  have hBs : BlockIs W5 W4.heap.size [.int .i64 xs, .slice none 0 c5] 112 := by subst hW5; exact BlockIs.new W4 [.int .i64 xs, .slice none 0 c5] _
  have hBm : BlockIs W5 w.heap.size [.int .i64 x0, .int .i64 x1, .slice a1 n1 c1, .slice a2 n2 c2, .slice (some ⟨b, o, none⟩) n3 c3, .slice a4 n4 c4] 40 := by subst hW5; exact hBm.alloc' _
  have hBl : BlockIs W5 (w.heap.size + 1) [.int .i64 6, .int .i64 j, .int .i64 0] 44 := by subst hW5; exact hBl.alloc' _
  have hBv : BlockIs W5 (w.heap.size + 1 + 1) [.int .i64 v.n, .bool v.pe.en.ad.v6, .int .u64 v.pe.en.ad.hi, .int .u64 v.pe.en.ad.lo, .int .i64 v.pe.en.port, .bool v.pe.came, .int .i64 v.pe.since, .int .i64 v.pe.pts, .int .i64 v.pe.at_, .int .i64 v.pe.ping, .int .i64 v.pe.work, .slice oa nb oc, .slice ka nk kc] 54 := by subst hW5; exact hBv.alloc' _
  have hBr : BlockIs W5 (w.heap.size + 1 + 1 + 1) [.int .i64 0, .int .i64 0, .slice none 0 0, .slice none 0 0, .slice none 0 0, .slice none 0 0] 40 := by subst hW5; exact hBr.alloc' _
  have hs5 : W5.heap.size = w.heap.size + 1 + 1 + 1 + 1 + 1 := by subst hW5; rw [World.size_alloc, hs4]
  clear hW5 z0 z1 y2 y3 y0
  rw [hs4] at hBs
  try rw [hs4]
  clear hs4
  have m0 := hBm.cell (i := 0) rfl; have m1 := hBm.cell (i := 1) rfl; have m2 := hBm.cell (i := 2) rfl; have m3 := hBm.cell (i := 3) rfl; have m4 := hBm.cell (i := 4) rfl; have m5 := hBm.cell (i := 5) rfl; have mf := hBm.frozen; have ml := hBm.lt; have l0 := hBl.cell (i := 0) rfl; have l1 := hBl.cell (i := 1) rfl; have l2 := hBl.cell (i := 2) rfl; have v0 := hBv.cell (i := 0) rfl; have v1 := hBv.cell (i := 1) rfl; have v2 := hBv.cell (i := 2) rfl; have v3 := hBv.cell (i := 3) rfl; have v4 := hBv.cell (i := 4) rfl; have v5 := hBv.cell (i := 5) rfl; have v6 := hBv.cell (i := 6) rfl; have v7 := hBv.cell (i := 7) rfl; have v8 := hBv.cell (i := 8) rfl; have v9 := hBv.cell (i := 9) rfl; have v10 := hBv.cell (i := 10) rfl; have v11 := hBv.cell (i := 11) rfl; have v12 := hBv.cell (i := 12) rfl; have r0 := hBr.cell (i := 0) rfl; have r1 := hBr.cell (i := 1) rfl; have r2 := hBr.cell (i := 2) rfl; have r3 := hBr.cell (i := 3) rfl; have r4 := hBr.cell (i := 4) rfl; have r5 := hBr.cell (i := 5) rfl; have rf := hBr.frozen; have rl := hBr.lt; have s0 := hBs.cell (i := 0) rfl; have s1 := hBs.cell (i := 1) rfl; have sf := hBs.frozen; have sl := hBs.lt
  go_upto_region 14 with fail
  obtain ⟨W6, hW6⟩ : ∃ W6, W6 = ((W5.alloc (.cells #[.bool v.pe.en.ad.v6, .int .u64 v.pe.en.ad.hi, .int .u64 v.pe.en.ad.lo, .int .i64 v.pe.en.port, .bool v.pe.came, .int .i64 v.pe.since, .int .i64 v.pe.pts, .int .i64 v.pe.at_, .int .i64 v.pe.ping, .int .i64 v.pe.work] 52)).alloc (.cells #[.slice none 0 c5, .slice (some ⟨w.heap.size + 1 + 1 + 1 + 1 + 1, 0, none⟩) 1 1, .slice none 0 c5] 29)).drew := ⟨_, rfl⟩
  have k1 : BlockIs W6 (w.heap.size + 1 + 1 + 1 + 1 + 1 + 1) [.slice none 0 c5, .slice (some ⟨w.heap.size + 1 + 1 + 1 + 1 + 1, 0, none⟩) 1 1, .slice none 0 c5] 29 := by subst hW6; exact BlockIs.drew' (BlockIs.newAt' (W5.alloc (.cells #[.bool v.pe.en.ad.v6, .int .u64 v.pe.en.ad.hi, .int .u64 v.pe.en.ad.lo, .int .i64 v.pe.en.port, .bool v.pe.came, .int .i64 v.pe.since, .int .i64 v.pe.pts, .int .i64 v.pe.at_, .int .i64 v.pe.ping, .int .i64 v.pe.work] 52)) [.slice none 0 c5, .slice (some ⟨w.heap.size + 1 + 1 + 1 + 1 + 1, 0, none⟩) 1 1, .slice none 0 c5] _ (by rw [World.size_alloc, hs5]))
  have k2 : BlockIs W6 (w.heap.size + 1 + 1 + 1 + 1 + 1) (peV v.pe) 52 := by subst hW6; exact BlockIs.drew' (BlockIs.alloc' (BlockIs.newAt' W5 (peV v.pe) _ hs5.symm) _)
  have k3 : Below w.heap.size w W6 := by subst hW6; exact bel
  have hBm6 := (show BlockIs W6 w.heap.size [.int .i64 x0, .int .i64 x1, .slice a1 n1 c1, .slice a2 n2 c2, .slice (some ⟨b, o, none⟩) n3 c3, .slice a4 n4 c4] 40 by subst hW6; exact BlockIs.drew' (BlockIs.alloc' (BlockIs.alloc' hBm _) _))
  have hBl6 := (show BlockIs W6 (w.heap.size + 1) [.int .i64 6, .int .i64 j, .int .i64 0] 44 by subst hW6; exact BlockIs.drew' (BlockIs.alloc' (BlockIs.alloc' hBl _) _))
  have hBr6 := (show BlockIs W6 (w.heap.size + 1 + 1 + 1) [.int .i64 0, .int .i64 0, .slice none 0 0, .slice none 0 0, .slice none 0 0, .slice none 0 0] 40 by subst hW6; exact BlockIs.drew' (BlockIs.alloc' (BlockIs.alloc' hBr _) _))
  have hBs6 := (show BlockIs W6 (w.heap.size + 1 + 1 + 1 + 1) [.int .i64 xs, .slice none 0 c5] 112 by subst hW6; exact BlockIs.drew' (BlockIs.alloc' (BlockIs.alloc' hBs _) _))
  have hBv6 := (show BlockIs W6 (w.heap.size + 1 + 1) [.int .i64 v.n, .bool v.pe.en.ad.v6, .int .u64 v.pe.en.ad.hi, .int .u64 v.pe.en.ad.lo, .int .i64 v.pe.en.port, .bool v.pe.came, .int .i64 v.pe.since, .int .i64 v.pe.pts, .int .i64 v.pe.at_, .int .i64 v.pe.ping, .int .i64 v.pe.work, .slice oa nb oc, .slice ka nk kc] 54 by subst hW6; exact BlockIs.drew' (BlockIs.alloc' (BlockIs.alloc' hBv _) _))
  have hs6 : w.heap.size + 1 + 1 + 1 + 1 + 1 ≤ W6.heap.size := by have := k2.lt; omega
  have HC6 := HCC.out W6 _ _ k1 k2 k3
  have HB6 := Lib.hid (And.intro hBm6 (And.intro hBl6 (And.intro hBr6 (And.intro hBs6 hBv6))))
  clear k1 k2 hBm6 hBl6 hBr6 hBs6 hBv6
  generalize hrn : (x.l.take 0 ++ [v.pe] ++ x.l.drop (0 + 1)).length = rn at HC6
  generalize hrl : (x.l.take 0 ++ [v.pe] ++ x.l.drop (0 + 1)) = rl6 at HC6 hrn
  have HRN := Lib.hid hrn; have HRL := Lib.hid hrl
  clear hrn hrl
  have HC6 := Lib.hid HC6
  refine wp_region_noPanic ?_
  have hS0 : (fun wq => wq.cell? ⟨w.heap.size + 1 + 1 + 1 + 1, 1, none⟩ = some (.slice none 0 c5) ∧ wq.cell? ⟨w.heap.size + 1, 2, none⟩ = some (.int .i64 0) ∧ wq.cell? ⟨w.heap.size + 1 + 1, 1, none⟩ = some (.bool v.pe.en.ad.v6) ∧ wq.cell? ⟨w.heap.size + 1 + 1, 2, none⟩ = some (.int .u64 v.pe.en.ad.hi) ∧ wq.cell? ⟨w.heap.size + 1 + 1, 3, none⟩ = some (.int .u64 v.pe.en.ad.lo) ∧ wq.cell? ⟨w.heap.size + 1 + 1, 4, none⟩ = some (.int .i64 v.pe.en.port) ∧ wq.cell? ⟨w.heap.size + 1 + 1, 5, none⟩ = some (.bool v.pe.came) ∧ wq.cell? ⟨w.heap.size + 1 + 1, 6, none⟩ = some (.int .i64 v.pe.since) ∧ wq.cell? ⟨w.heap.size + 1 + 1, 7, none⟩ = some (.int .i64 v.pe.pts) ∧ wq.cell? ⟨w.heap.size + 1 + 1, 8, none⟩ = some (.int .i64 v.pe.at_) ∧ wq.cell? ⟨w.heap.size + 1 + 1, 9, none⟩ = some (.int .i64 v.pe.ping) ∧ wq.cell? ⟨w.heap.size + 1 + 1, 10, none⟩ = some (.int .i64 v.pe.work)) W5.drew := by
    dsimp only
    (first | go_keep | (simp (disch := omega) [*]; done) | (simp (disch := first | omega | (simp; omega)) [World.cell?_setCell_far, World.cell?_alloc_past, *]; done) | (simp (disch := first | omega | (simp; omega)) [World.cell?_setCell_far, World.cell?_alloc_past, *]; repeat (first | exact rfl | refine ⟨rfl, ?_⟩)))
  refine wp_region_headH (fun wq => wq.cell? ⟨w.heap.size + 1 + 1 + 1 + 1, 1, none⟩ = some (.slice none 0 c5) ∧ wq.cell? ⟨w.heap.size + 1, 2, none⟩ = some (.int .i64 0) ∧ wq.cell? ⟨w.heap.size + 1 + 1, 1, none⟩ = some (.bool v.pe.en.ad.v6) ∧ wq.cell? ⟨w.heap.size + 1 + 1, 2, none⟩ = some (.int .u64 v.pe.en.ad.hi) ∧ wq.cell? ⟨w.heap.size + 1 + 1, 3, none⟩ = some (.int .u64 v.pe.en.ad.lo) ∧ wq.cell? ⟨w.heap.size + 1 + 1, 4, none⟩ = some (.int .i64 v.pe.en.port) ∧ wq.cell? ⟨w.heap.size + 1 + 1, 5, none⟩ = some (.bool v.pe.came) ∧ wq.cell? ⟨w.heap.size + 1 + 1, 6, none⟩ = some (.int .i64 v.pe.since) ∧ wq.cell? ⟨w.heap.size + 1 + 1, 7, none⟩ = some (.int .i64 v.pe.pts) ∧ wq.cell? ⟨w.heap.size + 1 + 1, 8, none⟩ = some (.int .i64 v.pe.at_) ∧ wq.cell? ⟨w.heap.size + 1 + 1, 9, none⟩ = some (.int .i64 v.pe.ping) ∧ wq.cell? ⟨w.heap.size + 1 + 1, 10, none⟩ = some (.int .i64 v.pe.work)) 21 (by kernel_rfl) (by kernel_rfl) ?_
  refine headH_take (i := 0) (v := ?qv0) (by kernel_rfl) rfl rfl (by kernel_rfl) (by kernel_rfl) (by kernel_rfl) (fun _ _ _ h => h) (Or.inl ⟨by rfl, ?qy0⟩) (by assumption) ?qr0
  case qy0 =>
    intro wq hSw
    try dsimp only at hSw
    go_simp
    try with_reducible rfl
  try simp only [Act.put, List.setIfInBounds_toArray, List.set_cons_zero, List.set_cons_succ]
  refine headH_take (i := 1) (v := ?qv1) (by kernel_rfl) rfl rfl (by kernel_rfl) (by kernel_rfl) (by kernel_rfl) (fun _ _ _ h => h) (Or.inl ⟨by rfl, ?qy1⟩) (by assumption) ?qr1
  case qy1 =>
    intro wq hSw
    try dsimp only at hSw
    go_simp
    try with_reducible rfl
  try simp only [Act.put, List.setIfInBounds_toArray, List.set_cons_zero, List.set_cons_succ]
  refine headH_take (i := 2) (v := ?qv2) (by kernel_rfl) rfl rfl (by kernel_rfl) (by kernel_rfl) (by kernel_rfl) (fun _ _ _ h => h) (Or.inl ⟨by rfl, ?qy2⟩) (by assumption) ?qr2
  case qy2 =>
    intro wq hSw
    try dsimp only at hSw
    go_simp
    try with_reducible rfl
  try simp only [Act.put, List.setIfInBounds_toArray, List.set_cons_zero, List.set_cons_succ]
  refine headH_take (i := 3) (v := ?qv3) (by kernel_rfl) rfl rfl (by kernel_rfl) (by kernel_rfl) (by kernel_rfl) (fun _ _ _ h => h) (Or.inl ⟨by rfl, ?qy3⟩) (by assumption) ?qr3
  case qy3 =>
    intro wq hSw
    try dsimp only at hSw
    go_simp
    try with_reducible rfl
  try simp only [Act.put, List.setIfInBounds_toArray, List.set_cons_zero, List.set_cons_succ]
  refine headH_take (i := 4) (v := ?qv4) (by kernel_rfl) rfl rfl (by kernel_rfl) (by kernel_rfl) (by kernel_rfl) (fun _ _ _ h => h) (Or.inl ⟨by rfl, ?qy4⟩) (by assumption) ?qr4
  case qy4 =>
    intro wq hSw
    try dsimp only at hSw
    go_simp
    try with_reducible rfl
  try simp only [Act.put, List.setIfInBounds_toArray, List.set_cons_zero, List.set_cons_succ]
  refine headH_take (i := 5) (v := ?qv5) (by kernel_rfl) rfl rfl (by kernel_rfl) (by kernel_rfl) (by kernel_rfl) (fun _ _ _ h => h) (Or.inl ⟨by rfl, ?qy5⟩) (by assumption) ?qr5
  case qy5 =>
    intro wq hSw
    try dsimp only at hSw
    go_simp
    try with_reducible rfl
  try simp only [Act.put, List.setIfInBounds_toArray, List.set_cons_zero, List.set_cons_succ]
  refine headH_take (i := 6) (v := ?qv6) (by kernel_rfl) rfl rfl (by kernel_rfl) (by kernel_rfl) (by kernel_rfl) (fun _ _ _ h => h) (Or.inl ⟨by rfl, ?qy6⟩) (by assumption) ?qr6
  case qy6 =>
    intro wq hSw
    try dsimp only at hSw
    go_simp
    try with_reducible rfl
  try simp only [Act.put, List.setIfInBounds_toArray, List.set_cons_zero, List.set_cons_succ]
  refine headH_take (i := 8) (v := ?qv8) (by kernel_rfl) rfl rfl (by kernel_rfl) (by kernel_rfl) (by kernel_rfl) (fun _ _ _ h => h) (Or.inl ⟨by rfl, ?qy8⟩) (by assumption) ?qr8
  case qy8 =>
    intro wq hSw
    try dsimp only at hSw
    go_simp
    try with_reducible rfl
  try simp only [Act.put, List.setIfInBounds_toArray, List.set_cons_zero, List.set_cons_succ]
  refine headH_take (i := 9) (v := ?qv9) (by kernel_rfl) rfl rfl (by kernel_rfl) (by kernel_rfl) (by kernel_rfl) (fun _ _ _ h => h) (Or.inl ⟨by rfl, ?qy9⟩) (by assumption) ?qr9
  case qy9 =>
    intro wq hSw
    try dsimp only at hSw
    go_simp
    try with_reducible rfl
  try simp only [Act.put, List.setIfInBounds_toArray, List.set_cons_zero, List.set_cons_succ]
  refine headH_take (i := 10) (v := ?qv10) (by kernel_rfl) rfl rfl (by kernel_rfl) (by kernel_rfl) (by kernel_rfl) (fun _ _ _ h => h) (Or.inl ⟨by rfl, ?qy10⟩) (by assumption) ?qr10
  case qy10 =>
    intro wq hSw
    try dsimp only at hSw
    go_simp
    try with_reducible rfl
  try simp only [Act.put, List.setIfInBounds_toArray, List.set_cons_zero, List.set_cons_succ]
  refine headH_take (i := 11) (v := ?qv11) (by kernel_rfl) rfl rfl (by kernel_rfl) (by kernel_rfl) (by kernel_rfl) (fun _ _ _ h => h) (Or.inl ⟨by rfl, ?qy11⟩) (by assumption) ?qr11
  case qy11 =>
    intro wq hSw
    try dsimp only at hSw
    go_simp
    try with_reducible rfl
  try simp only [Act.put, List.setIfInBounds_toArray, List.set_cons_zero, List.set_cons_succ]
  refine headH_take (i := 12) (v := ?qv12) (by kernel_rfl) rfl rfl (by kernel_rfl) (by kernel_rfl) (by kernel_rfl) (fun _ _ _ h => h) (Or.inl ⟨by rfl, ?qy12⟩) (by assumption) ?qr12
  case qy12 =>
    intro wq hSw
    try dsimp only at hSw
    go_simp
    try with_reducible rfl
  try simp only [Act.put, List.setIfInBounds_toArray, List.set_cons_zero, List.set_cons_succ]
  refine headH_take (i := 13) (v := ?qv13) (by kernel_rfl) rfl rfl (by kernel_rfl) (by kernel_rfl) (by kernel_rfl) (fun _ _ _ h => h) (Or.inl ⟨by rfl, ?qy13⟩) (by assumption) ?qr13
  case qy13 =>
    intro wq hSw
    try dsimp only at hSw
    go_simp
    try with_reducible rfl
  try simp only [Act.put, List.setIfInBounds_toArray, List.set_cons_zero, List.set_cons_succ]
  refine headH_take (i := 14) (v := ?qv14) (by kernel_rfl) rfl rfl (by kernel_rfl) (by kernel_rfl) (by kernel_rfl) (fun _ _ _ h => h) (Or.inl ⟨by rfl, ?qy14⟩) (by assumption) ?qr14
  case qy14 =>
    intro wq hSw
    try dsimp only at hSw
    go_simp
    try with_reducible rfl
  try simp only [Act.put, List.setIfInBounds_toArray, List.set_cons_zero, List.set_cons_succ]
  refine headH_take (i := 15) (v := ?qv15) (by kernel_rfl) rfl rfl (by kernel_rfl) (by kernel_rfl) (by kernel_rfl) (fun _ _ _ h => h) (Or.inl ⟨by rfl, ?qy15⟩) (by assumption) ?qr15
  case qy15 =>
    intro wq hSw
    try dsimp only at hSw
    go_simp
    try with_reducible rfl
  try simp only [Act.put, List.setIfInBounds_toArray, List.set_cons_zero, List.set_cons_succ]
  refine headH_take (i := 16) (v := ?qv16) (by kernel_rfl) rfl rfl (by kernel_rfl) (by kernel_rfl) (by kernel_rfl) (fun _ _ _ h => h) (Or.inl ⟨by rfl, ?qy16⟩) (by assumption) ?qr16
  case qy16 =>
    intro wq hSw
    try dsimp only at hSw
    go_simp
    try with_reducible rfl
  try simp only [Act.put, List.setIfInBounds_toArray, List.set_cons_zero, List.set_cons_succ]
  refine headH_take (i := 17) (v := ?qv17) (by kernel_rfl) rfl rfl (by kernel_rfl) (by kernel_rfl) (by kernel_rfl) (fun _ _ _ h => h) (Or.inl ⟨by rfl, ?qy17⟩) (by assumption) ?qr17
  case qy17 =>
    intro wq hSw
    try dsimp only at hSw
    go_simp
    try with_reducible rfl
  try simp only [Act.put, List.setIfInBounds_toArray, List.set_cons_zero, List.set_cons_succ]
  refine headH_one (i := 7) rfl rfl (by kernel_rfl) (fun K hK => ?_)
  go_simp
  refine hK.out _ _ ?_ (fun hS7 => ?_)
  · try dsimp only
    (first | go_keep | (simp (disch := omega) [*]; done) | (simp (disch := first | omega | (simp; omega)) [World.cell?_setCell_far, World.cell?_alloc_past, *]; done) | (simp (disch := first | omega | (simp; omega)) [World.cell?_setCell_far, World.cell?_alloc_past, *]; repeat (first | exact rfl | refine ⟨rfl, ?_⟩)))
  clear hK K
  try simp only [Act.put, List.setIfInBounds_toArray, List.set_cons_zero, List.set_cons_succ]
  refine headH_one (i := 18) rfl rfl (by kernel_rfl) (fun K hK => ?_)
  go_simp
  refine hK.out _ _ ?_ (fun hS18 => ?_)
  · try dsimp only
    (first | go_keep | (simp (disch := omega) [*]; done) | (simp (disch := first | omega | (simp; omega)) [World.cell?_setCell_far, World.cell?_alloc_past, *]; done) | (simp (disch := first | omega | (simp; omega)) [World.cell?_setCell_far, World.cell?_alloc_past, *]; repeat (first | exact rfl | refine ⟨rfl, ?_⟩)))
  clear hK K
  try simp only [Act.put, List.setIfInBounds_toArray, List.set_cons_zero, List.set_cons_succ]
  refine headH_one (i := 19) rfl rfl (by kernel_rfl) (fun K hK => ?_)
  go_simp
  (go_at_call 76; go_loud (rw [← hW6]; (with_reducible refine HC6.out.mono ?_); rintro e w6 ⟨r6, rfl, own6, b6⟩; have own6 := owns_base own6 hs6; obtain ⟨a8, c8, e8⟩ := owns_slice own6; subst e8; have HO6 := Lib.hid own6; clear own6; have B6 := below2 k3 b6; have z6 := b6.size; obtain ⟨hBm6, hBl6, hBr6, hBs6, hBv6⟩ := HB6.out; have hBv6 := hBv6.below b6; have hBm6 := hBm6.below b6; have hBl6 := hBl6.below b6; have hBr6 := hBr6.below b6; have hBs6 := hBs6.below b6; clear m0 m1 m2 m3 m4 m5 mf ml l0 l1 l2 v0 v1 v2 v3 v4 v5 v6 v7 v8 v9 v10 v11 v12 r0 r1 r2 r3 r4 r5 rf rl s0 s1 sf sl; have m0 := hBm6.cell (i := 0) rfl; have m1 := hBm6.cell (i := 1) rfl; have m2 := hBm6.cell (i := 2) rfl; have m3 := hBm6.cell (i := 3) rfl; have m4 := hBm6.cell (i := 4) rfl; have m5 := hBm6.cell (i := 5) rfl; have l0 := hBl6.cell (i := 0) rfl; have l1 := hBl6.cell (i := 1) rfl; have l2 := hBl6.cell (i := 2) rfl; have r0 := hBr6.cell (i := 0) rfl; have r1 := hBr6.cell (i := 1) rfl; have r2 := hBr6.cell (i := 2) rfl; have r3 := hBr6.cell (i := 3) rfl; have r4 := hBr6.cell (i := 4) rfl; have r5 := hBr6.cell (i := 5) rfl; have s0 := hBs6.cell (i := 0) rfl; have s1 := hBs6.cell (i := 1) rfl; have v1 := hBv6.cell (i := 1) rfl; have v2 := hBv6.cell (i := 2) rfl; have v3 := hBv6.cell (i := 3) rfl; have v4 := hBv6.cell (i := 4) rfl; have v5 := hBv6.cell (i := 5) rfl; have v6 := hBv6.cell (i := 6) rfl; have v7 := hBv6.cell (i := 7) rfl; have v8 := hBv6.cell (i := 8) rfl; have v9 := hBv6.cell (i := 9) rfl; have v10 := hBv6.cell (i := 10) rfl; have mf := hBm6.frozen; have ml := hBm6.lt; have rf := hBr6.frozen; have rl := hBr6.lt; have sf := hBs6.frozen; have sl := hBs6.lt))
  refine hK.out _ _ ?_ (fun hS19 => ?_)
  · try dsimp only
    (first | go_keep | (simp (disch := omega) [*]; done) | (simp (disch := first | omega | (simp; omega)) [World.cell?_setCell_far, World.cell?_alloc_past, *]; done) | (simp (disch := first | omega | (simp; omega)) [World.cell?_setCell_far, World.cell?_alloc_past, *]; repeat (first | exact rfl | refine ⟨rfl, ?_⟩)))
  clear hK K
  try simp only [Act.put, List.setIfInBounds_toArray, List.set_cons_zero, List.set_cons_succ]
  refine headH_take (i := 20) (v := ?qv20) (by kernel_rfl) rfl rfl (by kernel_rfl) (by kernel_rfl) (by kernel_rfl) (fun _ _ _ h => h) (Or.inl ⟨by rfl, ?qy20⟩) (by assumption) ?qr20
  case qy20 =>
    intro wq hSw
    try dsimp only at hSw
    go_simp
    try with_reducible rfl
  try simp only [Act.put, List.setIfInBounds_toArray, List.set_cons_zero, List.set_cons_succ]
  refine headH_done (by kernel_rfl) ?_
  simp only [List.drop_succ_cons, List.drop_zero]
  go_wp2_with fail
  refine NoPanic.normal ?_
  go_wp2_with (go_at_call 75; (with_reducible refine (HP.out _ ⟨xs, .slice a8 rn c8, rl6⟩ (by simp [World.setCell]; omega) (by refine ((Firm.own HO6.out (Nat.le_refl _)).map (fun W h => (by (unfold ReadsL; rw [HRN.out]; exact owns_reads h)))).keep (fun g arr T h1 hb => (by (have nB1 : g ≠ w.heap.size + 1 + 1 + 1 + 1 := (by omega); have nB2 : w.heap.size + 1 + 1 + 1 + 1 ≠ g := (by omega); ((refine RchW.get ?_); (repeat (first | with_reducible refine reach_set ?_ | with_reducible refine reach_other (by first | assumption | omega) ?_ | with_reducible refine reach_alloc ?_ | with_reducible refine reach_drew ?_)); exact reach_at (hb) rfl))))) (by exact bel)).mono ?_); rintro e w7 ⟨v7, rfl, hM7, b7⟩; have HM7 := Lib.hid hM7; have B7 := below2 (w := w) (by exact bel) b7; obtain ⟨_, a6, c6, e6, _⟩ := shs_open (hM7.now (HG.out _ _ hb0 B7)).2.2.1.1; simp only [List.length_set] at e6; rw [← HN3.out] at e6; have E6 := Lib.hid e6; subst e6; have z7 := b7.size; have hBr7 : BlockIs w7 (w.heap.size + 1 + 1 + 1) [.int .i64 0, .int .i64 0, .slice none 0 0, .slice none 0 0, .slice none 0 0, .slice none 0 0] 40 := BlockIs.below (by ((refine RchW.get ?_); (repeat (first | with_reducible refine reach_set ?_ | with_reducible refine reach_other (by first | assumption | omega) ?_ | with_reducible refine reach_alloc ?_ | with_reducible refine reach_drew ?_)); exact reach_at (hBr6) rfl)) b7; clear r0 r1 r2 r3 r4 r5 rf rl; have r0 := hBr7.cell (i := 0) rfl; have r1 := hBr7.cell (i := 1) rfl; have r2 := hBr7.cell (i := 2) rfl; have r3 := hBr7.cell (i := 3) rfl; have r4 := hBr7.cell (i := 4) rfl; have r5 := hBr7.cell (i := 5) rfl; have rf := hBr7.frozen; have rl := hBr7.lt)
  refine bodyPost_named fun W9 h9 => ?_
  have hR9 : BlockIs W9 (w.heap.size + 1 + 1 + 1) [.int .i64 x0, .int .i64 x1, .slice a1 n1 c1, .slice a2 n2 c2, .slice a6 n3 c6, .slice a4 n4 c4] 40 := by subst h9; ((refine RchW.get ?_); (repeat (first | with_reducible refine reach_set ?_ | with_reducible refine reach_other (by first | assumption | omega) ?_ | with_reducible refine reach_alloc ?_ | with_reducible refine reach_drew ?_)); exact reach_at (hBr7) rfl)
  have b9 : Below w.heap.size w W9 := by subst h9; exact bel
  have FIN : Hid (Firm w0 B W9 fun W => MmAt W ⟨x0, x1, m.bans, m.book, (.slice a6 n3 c6, m.parts.2.set j ⟨xs, .slice a8 rn c8, rl6⟩), m.locks⟩) := by
    subst h9
    unfold Hid
    refine (Firm.keep HM7.out fun g arr T h1 hb => ?_).from (by omega)
    have nB : w.heap.size ≠ g := by omega
    have nB2 : g ≠ w.heap.size := by omega
    have nB3 : g ≠ w.heap.size + 1 + 1 + 1 := by omega
    have nB4 : w.heap.size + 1 + 1 + 1 ≠ g := by omega
    ((refine RchW.get ?_); (repeat (first | with_reducible refine reach_set ?_ | with_reducible refine reach_other (by first | assumption | omega) ?_ | with_reducible refine reach_alloc ?_ | with_reducible refine reach_drew ?_)); exact reach_at (hb) rfl)
  clear h9
  have e90 := hR9.cell (i := 0) rfl; have e91 := hR9.cell (i := 1) rfl; have e92 := hR9.cell (i := 2) rfl; have e93 := hR9.cell (i := 3) rfl; have e94 := hR9.cell (i := 4) rfl; have e95 := hR9.cell (i := 5) rfl
  exact bodyPost_ret (v := .agg #[.int .i64 x0, .int .i64 x1, .slice a1 n1 c1, .slice a2 n2 c2, .slice a6 n3 c6, .slice a4 n4 c4]) (by simp [results, Tryz.results48, go_sem, e90, e91, e92, e93, e94, e95]) rfl ⟨⟨x0, x1, m.bans, m.book, (.slice a6 n3 c6, m.parts.2.set j ⟨xs, .slice a8 rn c8, rl6⟩), m.locks⟩, (by simp only [E1.out, E2.out, E4.out, ← HN1.out, ← HN2.out, ← HN4.out]), (fun W h0 hkp => by (have hm9 := HM.out W h0; exact FIN.out W h0 hkp)), (by unfold Mm.pl setAt; simp only [if_pos q2, Int.toNat_natCast, List.map_set, HX0.out, HX1.out, ← HRL.out, HXS.out, List.append_assoc, List.singleton_append]), b9⟩

end Go.Proofs.YtnplgagaoeckoaaGreat
namespace Go.Proofs.YtnplgagaoeckoaaGreat
open Go.RowKit
set_option linter.unusedSimpArgs false
set_option linter.unusedVariables false

set_option maxRecDepth 100000 in
set_option maxHeartbeats 8000000 in
theorem memStore_6z1 (w0 : World → Prop) (hg : Grows w0) (B : Nat) (m : Mm) (s t : Int) (v : Vm) (w : World) (hb0 : w0 w) (hB : B ≤ w.heap.size) (hm : ∀ W, w0 W → MmAt W m) (hv : VmAt w v) (hs : 0 ≤ s ∧ s < (m.parts.2.length : Int)) (hl : m.parts.2.length ≤ 1000) (ht : 0 ≤ t) (ho : t ≤ ((shOf m s).l.length : Int)) (hp : (shOf m s).l.length = 0) (hck : ∀ a n c, (shOf m s).v = .slice a n c → ∃ p, a = some p ∧ ¬ c = 0) :
    Calls Tryz.prog 48 #[.agg #[.int .i64 m.inn, .int .i64 m.out, m.bans.1, m.book.1, m.parts.1, m.locks.1], .agg #[.int .i64 6, .int .i64 s, .int .i64 t], .agg #[.int .i64 v.n, .bool v.pe.en.ad.v6, .int .u64 v.pe.en.ad.hi, .int .u64 v.pe.en.ad.lo, .int .i64 v.pe.en.port, .bool v.pe.came, .int .i64 v.pe.since, .int .i64 v.pe.pts, .int .i64 v.pe.at_, .int .i64 v.pe.ping, .int .i64 v.pe.work, v.bans.1, v.book.1]] w (GivesMm w0 B w (storeP m.pl 6 s t v.pl)) := by
  have hres : storeP m.pl 6 s t v.pl = { m.pl with parts := setAt m.pl.parts s ((partP m.pl s).1, putP (partP m.pl s).2 t v.pe) } := by unfold storeP; rfl
  rw [hres]
  unfold GivesMm
  have h := hm w hb0
  have HM := Lib.hid hm
  have HG := Lib.hid hg
  obtain rfl : t = 0 := by omega
  obtain ⟨j, rfl⟩ : ∃ j : Nat, s = (j : Int) := ⟨s.toNat, by omega⟩
  have hj : j < m.parts.2.length := by omega
  have hq0 := shOf_pl m (j : Int)
  obtain ⟨x, hx⟩ : ∃ x, m.parts.2[j]? = some x := ⟨_, List.getElem?_eq_getElem hj⟩
  have hsx : shOf m (j : Int) = x := by unfold shOf getAt; rw [if_pos hs.1, Int.toNat_natCast, List.getD_eq_getElem?_getD, hx]; rfl
  have hAt := shOf_at h (j : Int)
  rw [hsx] at hAt hq0 hp hck
  obtain ⟨_, a5, c5, e5, _⟩ := pes_open hAt
  have hl0 : x.l = [] := List.eq_nil_of_length_eq_zero hp
  have HL0 := Lib.hid hl0
  rw [hp] at e5
  obtain ⟨⟨b5, o5, i5⟩, rfl, hne⟩ := hck _ _ _ e5
  clear hck
  obtain ⟨_, p, c, e6, h3⟩ := shs_open h.2.2.1.1
  obtain ⟨b, o, rfl, h4, h5, h6⟩ := h3 (by omega)
  obtain ⟨k0, k1⟩ := h6 j x hx
  rw [e5] at k1
  have hput : putP x.l 0 v.pe = x.l.take 0 ++ v.pe :: x.l.drop (0 + 1) := by unfold putP; rw [if_neg (by omega)]; rfl
  rw [hq0]
  simp only [hput]
  have HP := Lib.hid (fun (W : World) (K : Sh) (hW : w.heap.size + 1 + 1 + 1 + 1 + 1 ≤ W.heap.size) (hK : Firm w0 (w.heap.size + 1 + 1 + 1 + 1 + 1) W fun W => ReadsL peV 10 W K.v K.l) (hb : Below w.heap.size w W) => mem_part_in w0 hg (w.heap.size + 1 + 1 + 1 + 1 + 1) m j K W (hg _ _ hb0 hb) hW hm hK hj hl)
  obtain ⟨a1, a2, a3, a4, c1, c2, c3, c4, e1, e2, e3, e4⟩ := mm_slices h
  obtain ⟨_, oa, oc, eo, _⟩ := ba_open hv.1
  obtain ⟨_, ka, kc, ek, _⟩ := ey_open hv.2
  have hmm : m = ⟨m.inn, m.out, (.slice a1 m.bans.2.length c1, m.bans.2), (.slice a2 m.book.2.length c2, m.book.2), (.slice a3 m.parts.2.length c3, m.parts.2), (.slice a4 m.locks.2.length c4, m.locks.2)⟩ := by rw [← e1, ← e2, ← e3, ← e4]
  have HMM := Lib.hid hmm
  have ex := e3.symm.trans e6
  injection ex with ea en ec
  subst ea ec
  simp only [e1, e2, e3, e4] at HP
  have E1 := Lib.hid e1; have E2 := Lib.hid e2; have E4 := Lib.hid e4
  obtain ⟨xs, hxs⟩ : ∃ z, z = x.size := ⟨_, rfl⟩
  rw [← hxs] at k0
  rw [e1, e2, e3, e4, eo, ek]
  clear hres e1 e2 e3 e4 eo ek hmm
  obtain ⟨x0, hx0⟩ : ∃ x, x = m.inn := ⟨_, rfl⟩
  obtain ⟨x1, hx1⟩ : ∃ x, x = m.out := ⟨_, rfl⟩
  obtain ⟨n1, hn1⟩ : ∃ n, n = m.bans.2.length := ⟨_, rfl⟩
  obtain ⟨n2, hn2⟩ : ∃ n, n = m.book.2.length := ⟨_, rfl⟩
  obtain ⟨n3, hn3⟩ : ∃ n, n = m.parts.2.length := ⟨_, rfl⟩
  obtain ⟨n4, hn4⟩ : ∃ n, n = m.locks.2.length := ⟨_, rfl⟩
  obtain ⟨nb, hnb⟩ : ∃ n, n = v.bans.2.length := ⟨_, rfl⟩
  obtain ⟨nk, hnk⟩ : ∃ n, n = v.book.2.length := ⟨_, rfl⟩
  rw [← hx0, ← hx1, ← hn1, ← hn2, ← hn3, ← hn4, ← hnb, ← hnk]
  rw [← hx0, ← hx1, ← hn1, ← hn2, ← hn3, ← hn4] at HMM
  rw [← hx0, ← hx1, ← hn1, ← hn2, ← hn3, ← hn4] at HP
  have q1 : (j : Int) < (n3 : Int) := by omega
  have q2 : (0 : Int) ≤ (j : Int) := by omega
  have HX0 := Lib.hid hx0; have HX1 := Lib.hid hx1; have HN1 := Lib.hid hn1; have HN2 := Lib.hid hn2; have HN4 := Lib.hid hn4; have HXS := Lib.hid hxs; have HAT := Lib.hid hAt; have HATK := Lib.hid (fun W hW => show ReadsL peV 10 W x.v x.l by (have hq := shOf_at (hm W hW) (j : Int); rw [hsx] at hq; exact hq)); have HE5 := Lib.hid e5; have HJ := Lib.hid hj
  clear hput hl0 hp ho ht hxs hq0 hx hsx hAt e5 e6 en h3 h6 hs hl hj
  have HNB := Lib.hid hnb; have HNK := Lib.hid hnk; have HN3 := Lib.hid hn3
  clear h hv hm hg hx0 hx1 hn1 hn2 hn3 hn4 hnb hnk
  skip
  go_enter Tryz.func48, Tryz.ntmps48
  go_upto_region 1 with fail
  obtain ⟨W4, hW4⟩ : ∃ W4, W4 = (((w.alloc (.cells #[.int .i64 x0, .int .i64 x1, .slice a1 n1 c1, .slice a2 n2 c2, .slice (some ⟨b, o, none⟩) n3 c3, .slice a4 n4 c4] 40)).alloc (.cells #[.int .i64 6, .int .i64 j, .int .i64 0] 44)).alloc (.cells #[.int .i64 v.n, .bool v.pe.en.ad.v6, .int .u64 v.pe.en.ad.hi, .int .u64 v.pe.en.ad.lo, .int .i64 v.pe.en.port, .bool v.pe.came, .int .i64 v.pe.since, .int .i64 v.pe.pts, .int .i64 v.pe.at_, .int .i64 v.pe.ping, .int .i64 v.pe.work, .slice oa nb oc, .slice ka nk kc] 54)).alloc (.cells #[.int .i64 0, .int .i64 0, .slice none 0 0, .slice none 0 0, .slice none 0 0, .slice none 0 0] 40) := ⟨_, rfl⟩
  rw [← hW4]
  have B4 : Below w.heap.size w W4 := by subst hW4; exact bel
  have hBm : BlockIs W4 w.heap.size [.int .i64 x0, .int .i64 x1, .slice a1 n1 c1, .slice a2 n2 c2, .slice (some ⟨b, o, none⟩) n3 c3, .slice a4 n4 c4] 40 := by subst hW4; exact (((BlockIs.new w [.int .i64 x0, .int .i64 x1, .slice a1 n1 c1, .slice a2 n2 c2, .slice (some ⟨b, o, none⟩) n3 c3, .slice a4 n4 c4] _).alloc' _).alloc' _).alloc' _
  have hBl : BlockIs W4 (w.heap.size + 1) [.int .i64 6, .int .i64 j, .int .i64 0] 44 := by subst hW4; exact ((BlockIs.newAt' _ [.int .i64 6, .int .i64 j, .int .i64 0] _ (by simp)).alloc' _).alloc' _
  have hBv : BlockIs W4 (w.heap.size + 1 + 1) [.int .i64 v.n, .bool v.pe.en.ad.v6, .int .u64 v.pe.en.ad.hi, .int .u64 v.pe.en.ad.lo, .int .i64 v.pe.en.port, .bool v.pe.came, .int .i64 v.pe.since, .int .i64 v.pe.pts, .int .i64 v.pe.at_, .int .i64 v.pe.ping, .int .i64 v.pe.work, .slice oa nb oc, .slice ka nk kc] 54 := by subst hW4; exact (BlockIs.newAt' _ [.int .i64 v.n, .bool v.pe.en.ad.v6, .int .u64 v.pe.en.ad.hi, .int .u64 v.pe.en.ad.lo, .int .i64 v.pe.en.port, .bool v.pe.came, .int .i64 v.pe.since, .int .i64 v.pe.pts, .int .i64 v.pe.at_, .int .i64 v.pe.ping, .int .i64 v.pe.work, .slice oa nb oc, .slice ka nk kc] _ (by simp)).alloc' _
  have hBr : BlockIs W4 (w.heap.size + 1 + 1 + 1) [.int .i64 0, .int .i64 0, .slice none 0 0, .slice none 0 0, .slice none 0 0, .slice none 0 0] 40 := by subst hW4; exact BlockIs.newAt' _ [.int .i64 0, .int .i64 0, .slice none 0 0, .slice none 0 0, .slice none 0 0, .slice none 0 0] _ (by simp)
  have hs4 : W4.heap.size = w.heap.size + 1 + 1 + 1 + 1 := by subst hW4; simp
  clear hW4
  have z0 := keep B4 h5 k0
  have z1 := keep B4 h5 k1
  have y2 := hBm.cell (i := 4) rfl
  have y3 := hBl.cell (i := 1) rfl
  have y0 := hBl.cell (i := 0) rfl
  have m0 := hBm.cell (i := 0) rfl; have m1 := hBm.cell (i := 1) rfl; have m2 := hBm.cell (i := 2) rfl; have m3 := hBm.cell (i := 3) rfl; have m4 := hBm.cell (i := 4) rfl; have m5 := hBm.cell (i := 5) rfl; have mf := hBm.frozen; have ml := hBm.lt; have l0 := hBl.cell (i := 0) rfl; have l1 := hBl.cell (i := 1) rfl; have l2 := hBl.cell (i := 2) rfl; have v0 := hBv.cell (i := 0) rfl; have v1 := hBv.cell (i := 1) rfl; have v2 := hBv.cell (i := 2) rfl; have v3 := hBv.cell (i := 3) rfl; have v4 := hBv.cell (i := 4) rfl; have v5 := hBv.cell (i := 5) rfl; have v6 := hBv.cell (i := 6) rfl; have v7 := hBv.cell (i := 7) rfl; have v8 := hBv.cell (i := 8) rfl; have v9 := hBv.cell (i := 9) rfl; have v10 := hBv.cell (i := 10) rfl; have v11 := hBv.cell (i := 11) rfl; have v12 := hBv.cell (i := 12) rfl; have r0 := hBr.cell (i := 0) rfl; have r1 := hBr.cell (i := 1) rfl; have r2 := hBr.cell (i := 2) rfl; have r3 := hBr.cell (i := 3) rfl; have r4 := hBr.cell (i := 4) rfl; have r5 := hBr.cell (i := 5) rfl; have rf := hBr.frozen; have rl := hBr.lt
  have p4 : (0 : Int) ≤ (c5 : Int) := by omega
  have p7 : min (IntKind.i64.wrap 1) 0 = 0 := by decide
  have HCC := Lib.hid (fun (W : World) (bk gk : Nat) (hT : BlockIs W bk [.slice (some ⟨b5, o5, i5⟩) 0 c5, .slice (some ⟨gk, 0, none⟩) 1 1, .slice (some ⟨b5, o5, i5⟩) 0 c5] 29) (hP : BlockIs W gk (peV v.pe) 52) (hb : Below w.heap.size w W) => by
    have r1 : ReadsL peV 10 W (.slice (some ⟨b5, o5, i5⟩) 0 c5) (x.l.take 0) := by rw [HL0.out]; exact ReadsL.nil _ _ _ _ _
    have r3 : ReadsL peV 10 W (.slice (some ⟨b5, o5, i5⟩) 0 c5) (x.l.drop (0 + 1)) := by rw [HL0.out]; exact ReadsL.nil _ _ _ _ _
    have r2 : ReadsL peV 10 W (.slice (some ⟨gk, 0, none⟩) 1 1) [v.pe] := reads_oneB hP
    exact concat3Pe _ _ _ (x.l.take 0) [v.pe] (x.l.drop (0 + 1)) bk W (hT.cell (i := 0) rfl) (hT.cell (i := 1) rfl) (hT.cell (i := 2) rfl) hT.lt r1 r2 r3 (by rw [HL0.out]; simp))
  clear m0 m1 m2 m3 m5 mf ml l2 v0 v1 v2 v3 v4 v5 v6 v7 v8 v9 v10 v11 v12 r0 r1 r2 r3 r4 r5 rf rl
  go_upto_region 12 with fail
  obtain ⟨W5, hW5⟩ : ∃ W5, W5 = W4.alloc (.cells #[.int .i64 xs, .slice (some ⟨b5, o5, i5⟩) 0 c5] 112) := ⟨_, rfl⟩
  rw [← hW5]
  have B5 : Below w.heap.size w W5 := by subst hW5; exact B4.alloc B4.size _
  have hBs : BlockIs W5 W4.heap.size [.int .i64 xs, .slice (some ⟨b5, o5, i5⟩) 0 c5] 112 := by subst hW5; exact BlockIs.new W4 [.int .i64 xs, .slice (some ⟨b5, o5, i5⟩) 0 c5] _
  have hBm : BlockIs W5 w.heap.size [.int .i64 x0, .int .i64 x1, .slice a1 n1 c1, .slice a2 n2 c2, .slice (some ⟨b, o, none⟩) n3 c3, .slice a4 n4 c4] 40 := by subst hW5; exact hBm.alloc' _
  have hBl : BlockIs W5 (w.heap.size + 1) [.int .i64 6, .int .i64 j, .int .i64 0] 44 := by subst hW5; exact hBl.alloc' _
  have hBv : BlockIs W5 (w.heap.size + 1 + 1) [.int .i64 v.n, .bool v.pe.en.ad.v6, .int .u64 v.pe.en.ad.hi, .int .u64 v.pe.en.ad.lo, .int .i64 v.pe.en.port, .bool v.pe.came, .int .i64 v.pe.since, .int .i64 v.pe.pts, .int .i64 v.pe.at_, .int .i64 v.pe.ping, .int .i64 v.pe.work, .slice oa nb oc, .slice ka nk kc] 54 := by subst hW5; exact hBv.alloc' _
  have hBr : BlockIs W5 (w.heap.size + 1 + 1 + 1) [.int .i64 0, .int .i64 0, .slice none 0 0, .slice none 0 0, .slice none 0 0, .slice none 0 0] 40 := by subst hW5; exact hBr.alloc' _
  have hs5 : W5.heap.size = w.heap.size + 1 + 1 + 1 + 1 + 1 := by subst hW5; rw [World.size_alloc, hs4]
  clear hW5 z0 z1 y2 y3 y0
  rw [hs4] at hBs
  try rw [hs4]
  clear hs4
  have m0 := hBm.cell (i := 0) rfl; have m1 := hBm.cell (i := 1) rfl; have m2 := hBm.cell (i := 2) rfl; have m3 := hBm.cell (i := 3) rfl; have m4 := hBm.cell (i := 4) rfl; have m5 := hBm.cell (i := 5) rfl; have mf := hBm.frozen; have ml := hBm.lt; have l0 := hBl.cell (i := 0) rfl; have l1 := hBl.cell (i := 1) rfl; have l2 := hBl.cell (i := 2) rfl; have v0 := hBv.cell (i := 0) rfl; have v1 := hBv.cell (i := 1) rfl; have v2 := hBv.cell (i := 2) rfl; have v3 := hBv.cell (i := 3) rfl; have v4 := hBv.cell (i := 4) rfl; have v5 := hBv.cell (i := 5) rfl; have v6 := hBv.cell (i := 6) rfl; have v7 := hBv.cell (i := 7) rfl; have v8 := hBv.cell (i := 8) rfl; have v9 := hBv.cell (i := 9) rfl; have v10 := hBv.cell (i := 10) rfl; have v11 := hBv.cell (i := 11) rfl; have v12 := hBv.cell (i := 12) rfl; have r0 := hBr.cell (i := 0) rfl; have r1 := hBr.cell (i := 1) rfl; have r2 := hBr.cell (i := 2) rfl; have r3 := hBr.cell (i := 3) rfl; have r4 := hBr.cell (i := 4) rfl; have r5 := hBr.cell (i := 5) rfl; have rf := hBr.frozen; have rl := hBr.lt; have s0 := hBs.cell (i := 0) rfl; have s1 := hBs.cell (i := 1) rfl; have sf := hBs.frozen; have sl := hBs.lt
  go_upto_region 14 with fail
  obtain ⟨W6, hW6⟩ : ∃ W6, W6 = ((W5.alloc (.cells #[.bool v.pe.en.ad.v6, .int .u64 v.pe.en.ad.hi, .int .u64 v.pe.en.ad.lo, .int .i64 v.pe.en.port, .bool v.pe.came, .int .i64 v.pe.since, .int .i64 v.pe.pts, .int .i64 v.pe.at_, .int .i64 v.pe.ping, .int .i64 v.pe.work] 52)).alloc (.cells #[.slice (some ⟨b5, o5, i5⟩) 0 c5, .slice (some ⟨w.heap.size + 1 + 1 + 1 + 1 + 1, 0, none⟩) 1 1, .slice (some ⟨b5, o5, i5⟩) 0 c5] 29)).drew := ⟨_, rfl⟩
  have k1 : BlockIs W6 (w.heap.size + 1 + 1 + 1 + 1 + 1 + 1) [.slice (some ⟨b5, o5, i5⟩) 0 c5, .slice (some ⟨w.heap.size + 1 + 1 + 1 + 1 + 1, 0, none⟩) 1 1, .slice (some ⟨b5, o5, i5⟩) 0 c5] 29 := by subst hW6; exact BlockIs.drew' (BlockIs.newAt' (W5.alloc (.cells #[.bool v.pe.en.ad.v6, .int .u64 v.pe.en.ad.hi, .int .u64 v.pe.en.ad.lo, .int .i64 v.pe.en.port, .bool v.pe.came, .int .i64 v.pe.since, .int .i64 v.pe.pts, .int .i64 v.pe.at_, .int .i64 v.pe.ping, .int .i64 v.pe.work] 52)) [.slice (some ⟨b5, o5, i5⟩) 0 c5, .slice (some ⟨w.heap.size + 1 + 1 + 1 + 1 + 1, 0, none⟩) 1 1, .slice (some ⟨b5, o5, i5⟩) 0 c5] _ (by rw [World.size_alloc, hs5]))
  have k2 : BlockIs W6 (w.heap.size + 1 + 1 + 1 + 1 + 1) (peV v.pe) 52 := by subst hW6; exact BlockIs.drew' (BlockIs.alloc' (BlockIs.newAt' W5 (peV v.pe) _ hs5.symm) _)
  have k3 : Below w.heap.size w W6 := by subst hW6; exact bel
  have hBm6 := (show BlockIs W6 w.heap.size [.int .i64 x0, .int .i64 x1, .slice a1 n1 c1, .slice a2 n2 c2, .slice (some ⟨b, o, none⟩) n3 c3, .slice a4 n4 c4] 40 by subst hW6; exact BlockIs.drew' (BlockIs.alloc' (BlockIs.alloc' hBm _) _))
  have hBl6 := (show BlockIs W6 (w.heap.size + 1) [.int .i64 6, .int .i64 j, .int .i64 0] 44 by subst hW6; exact BlockIs.drew' (BlockIs.alloc' (BlockIs.alloc' hBl _) _))
  have hBr6 := (show BlockIs W6 (w.heap.size + 1 + 1 + 1) [.int .i64 0, .int .i64 0, .slice none 0 0, .slice none 0 0, .slice none 0 0, .slice none 0 0] 40 by subst hW6; exact BlockIs.drew' (BlockIs.alloc' (BlockIs.alloc' hBr _) _))
  have hBs6 := (show BlockIs W6 (w.heap.size + 1 + 1 + 1 + 1) [.int .i64 xs, .slice (some ⟨b5, o5, i5⟩) 0 c5] 112 by subst hW6; exact BlockIs.drew' (BlockIs.alloc' (BlockIs.alloc' hBs _) _))
  have hBv6 := (show BlockIs W6 (w.heap.size + 1 + 1) [.int .i64 v.n, .bool v.pe.en.ad.v6, .int .u64 v.pe.en.ad.hi, .int .u64 v.pe.en.ad.lo, .int .i64 v.pe.en.port, .bool v.pe.came, .int .i64 v.pe.since, .int .i64 v.pe.pts, .int .i64 v.pe.at_, .int .i64 v.pe.ping, .int .i64 v.pe.work, .slice oa nb oc, .slice ka nk kc] 54 by subst hW6; exact BlockIs.drew' (BlockIs.alloc' (BlockIs.alloc' hBv _) _))
  have hs6 : w.heap.size + 1 + 1 + 1 + 1 + 1 ≤ W6.heap.size := by have := k2.lt; omega
  have HC6 := HCC.out W6 _ _ k1 k2 k3
  have HB6 := Lib.hid (And.intro hBm6 (And.intro hBl6 (And.intro hBr6 (And.intro hBs6 hBv6))))
  clear k1 k2 hBm6 hBl6 hBr6 hBs6 hBv6
  generalize hrn : (x.l.take 0 ++ [v.pe] ++ x.l.drop (0 + 1)).length = rn at HC6
  generalize hrl : (x.l.take 0 ++ [v.pe] ++ x.l.drop (0 + 1)) = rl6 at HC6 hrn
  have HRN := Lib.hid hrn; have HRL := Lib.hid hrl
  clear hrn hrl
  have HC6 := Lib.hid HC6
  refine wp_region_noPanic ?_
  have hS0 : (fun wq => wq.cell? ⟨w.heap.size + 1 + 1 + 1 + 1, 1, none⟩ = some (.slice (some ⟨b5, o5, i5⟩) 0 c5) ∧ wq.cell? ⟨w.heap.size + 1, 2, none⟩ = some (.int .i64 0) ∧ wq.cell? ⟨w.heap.size + 1 + 1, 1, none⟩ = some (.bool v.pe.en.ad.v6) ∧ wq.cell? ⟨w.heap.size + 1 + 1, 2, none⟩ = some (.int .u64 v.pe.en.ad.hi) ∧ wq.cell? ⟨w.heap.size + 1 + 1, 3, none⟩ = some (.int .u64 v.pe.en.ad.lo) ∧ wq.cell? ⟨w.heap.size + 1 + 1, 4, none⟩ = some (.int .i64 v.pe.en.port) ∧ wq.cell? ⟨w.heap.size + 1 + 1, 5, none⟩ = some (.bool v.pe.came) ∧ wq.cell? ⟨w.heap.size + 1 + 1, 6, none⟩ = some (.int .i64 v.pe.since) ∧ wq.cell? ⟨w.heap.size + 1 + 1, 7, none⟩ = some (.int .i64 v.pe.pts) ∧ wq.cell? ⟨w.heap.size + 1 + 1, 8, none⟩ = some (.int .i64 v.pe.at_) ∧ wq.cell? ⟨w.heap.size + 1 + 1, 9, none⟩ = some (.int .i64 v.pe.ping) ∧ wq.cell? ⟨w.heap.size + 1 + 1, 10, none⟩ = some (.int .i64 v.pe.work)) W5.drew := by
    dsimp only
    (first | go_keep | (simp (disch := omega) [*]; done) | (simp (disch := first | omega | (simp; omega)) [World.cell?_setCell_far, World.cell?_alloc_past, *]; done) | (simp (disch := first | omega | (simp; omega)) [World.cell?_setCell_far, World.cell?_alloc_past, *]; repeat (first | exact rfl | refine ⟨rfl, ?_⟩)))
  refine wp_region_headH (fun wq => wq.cell? ⟨w.heap.size + 1 + 1 + 1 + 1, 1, none⟩ = some (.slice (some ⟨b5, o5, i5⟩) 0 c5) ∧ wq.cell? ⟨w.heap.size + 1, 2, none⟩ = some (.int .i64 0) ∧ wq.cell? ⟨w.heap.size + 1 + 1, 1, none⟩ = some (.bool v.pe.en.ad.v6) ∧ wq.cell? ⟨w.heap.size + 1 + 1, 2, none⟩ = some (.int .u64 v.pe.en.ad.hi) ∧ wq.cell? ⟨w.heap.size + 1 + 1, 3, none⟩ = some (.int .u64 v.pe.en.ad.lo) ∧ wq.cell? ⟨w.heap.size + 1 + 1, 4, none⟩ = some (.int .i64 v.pe.en.port) ∧ wq.cell? ⟨w.heap.size + 1 + 1, 5, none⟩ = some (.bool v.pe.came) ∧ wq.cell? ⟨w.heap.size + 1 + 1, 6, none⟩ = some (.int .i64 v.pe.since) ∧ wq.cell? ⟨w.heap.size + 1 + 1, 7, none⟩ = some (.int .i64 v.pe.pts) ∧ wq.cell? ⟨w.heap.size + 1 + 1, 8, none⟩ = some (.int .i64 v.pe.at_) ∧ wq.cell? ⟨w.heap.size + 1 + 1, 9, none⟩ = some (.int .i64 v.pe.ping) ∧ wq.cell? ⟨w.heap.size + 1 + 1, 10, none⟩ = some (.int .i64 v.pe.work)) 21 (by kernel_rfl) (by kernel_rfl) ?_
  refine headH_take (i := 0) (v := ?qv0) (by kernel_rfl) rfl rfl (by kernel_rfl) (by kernel_rfl) (by kernel_rfl) (fun _ _ _ h => h) (Or.inl ⟨by rfl, ?qy0⟩) (by assumption) ?qr0
  case qy0 =>
    intro wq hSw
    try dsimp only at hSw
    go_simp
    try with_reducible rfl
  try simp only [Act.put, List.setIfInBounds_toArray, List.set_cons_zero, List.set_cons_succ]
  refine headH_take (i := 1) (v := ?qv1) (by kernel_rfl) rfl rfl (by kernel_rfl) (by kernel_rfl) (by kernel_rfl) (fun _ _ _ h => h) (Or.inl ⟨by rfl, ?qy1⟩) (by assumption) ?qr1
  case qy1 =>
    intro wq hSw
    try dsimp only at hSw
    go_simp
    try with_reducible rfl
  try simp only [Act.put, List.setIfInBounds_toArray, List.set_cons_zero, List.set_cons_succ]
  refine headH_take (i := 2) (v := ?qv2) (by kernel_rfl) rfl rfl (by kernel_rfl) (by kernel_rfl) (by kernel_rfl) (fun _ _ _ h => h) (Or.inl ⟨by rfl, ?qy2⟩) (by assumption) ?qr2
  case qy2 =>
    intro wq hSw
    try dsimp only at hSw
    go_simp
    try with_reducible rfl
  try simp only [Act.put, List.setIfInBounds_toArray, List.set_cons_zero, List.set_cons_succ]
  refine headH_take (i := 3) (v := ?qv3) (by kernel_rfl) rfl rfl (by kernel_rfl) (by kernel_rfl) (by kernel_rfl) (fun _ _ _ h => h) (Or.inl ⟨by rfl, ?qy3⟩) (by assumption) ?qr3
  case qy3 =>
    intro wq hSw
    try dsimp only at hSw
    go_simp
    try with_reducible rfl
  try simp only [Act.put, List.setIfInBounds_toArray, List.set_cons_zero, List.set_cons_succ]
  refine headH_take (i := 4) (v := ?qv4) (by kernel_rfl) rfl rfl (by kernel_rfl) (by kernel_rfl) (by kernel_rfl) (fun _ _ _ h => h) (Or.inl ⟨by rfl, ?qy4⟩) (by assumption) ?qr4
  case qy4 =>
    intro wq hSw
    try dsimp only at hSw
    go_simp
    try with_reducible rfl
  try simp only [Act.put, List.setIfInBounds_toArray, List.set_cons_zero, List.set_cons_succ]
  refine headH_take (i := 5) (v := ?qv5) (by kernel_rfl) rfl rfl (by kernel_rfl) (by kernel_rfl) (by kernel_rfl) (fun _ _ _ h => h) (Or.inl ⟨by rfl, ?qy5⟩) (by assumption) ?qr5
  case qy5 =>
    intro wq hSw
    try dsimp only at hSw
    go_simp
    try with_reducible rfl
  try simp only [Act.put, List.setIfInBounds_toArray, List.set_cons_zero, List.set_cons_succ]
  refine headH_take (i := 6) (v := ?qv6) (by kernel_rfl) rfl rfl (by kernel_rfl) (by kernel_rfl) (by kernel_rfl) (fun _ _ _ h => h) (Or.inl ⟨by rfl, ?qy6⟩) (by assumption) ?qr6
  case qy6 =>
    intro wq hSw
    try dsimp only at hSw
    go_simp
    try with_reducible rfl
  try simp only [Act.put, List.setIfInBounds_toArray, List.set_cons_zero, List.set_cons_succ]
  refine headH_take (i := 8) (v := ?qv8) (by kernel_rfl) rfl rfl (by kernel_rfl) (by kernel_rfl) (by kernel_rfl) (fun _ _ _ h => h) (Or.inl ⟨by rfl, ?qy8⟩) (by assumption) ?qr8
  case qy8 =>
    intro wq hSw
    try dsimp only at hSw
    go_simp
    try with_reducible rfl
  try simp only [Act.put, List.setIfInBounds_toArray, List.set_cons_zero, List.set_cons_succ]
  refine headH_take (i := 9) (v := ?qv9) (by kernel_rfl) rfl rfl (by kernel_rfl) (by kernel_rfl) (by kernel_rfl) (fun _ _ _ h => h) (Or.inl ⟨by rfl, ?qy9⟩) (by assumption) ?qr9
  case qy9 =>
    intro wq hSw
    try dsimp only at hSw
    go_simp
    try with_reducible rfl
  try simp only [Act.put, List.setIfInBounds_toArray, List.set_cons_zero, List.set_cons_succ]
  refine headH_take (i := 10) (v := ?qv10) (by kernel_rfl) rfl rfl (by kernel_rfl) (by kernel_rfl) (by kernel_rfl) (fun _ _ _ h => h) (Or.inl ⟨by rfl, ?qy10⟩) (by assumption) ?qr10
  case qy10 =>
    intro wq hSw
    try dsimp only at hSw
    go_simp
    try with_reducible rfl
  try simp only [Act.put, List.setIfInBounds_toArray, List.set_cons_zero, List.set_cons_succ]
  refine headH_take (i := 11) (v := ?qv11) (by kernel_rfl) rfl rfl (by kernel_rfl) (by kernel_rfl) (by kernel_rfl) (fun _ _ _ h => h) (Or.inl ⟨by rfl, ?qy11⟩) (by assumption) ?qr11
  case qy11 =>
    intro wq hSw
    try dsimp only at hSw
    go_simp
    try with_reducible rfl
  try simp only [Act.put, List.setIfInBounds_toArray, List.set_cons_zero, List.set_cons_succ]
  refine headH_take (i := 12) (v := ?qv12) (by kernel_rfl) rfl rfl (by kernel_rfl) (by kernel_rfl) (by kernel_rfl) (fun _ _ _ h => h) (Or.inl ⟨by rfl, ?qy12⟩) (by assumption) ?qr12
  case qy12 =>
    intro wq hSw
    try dsimp only at hSw
    go_simp
    try with_reducible rfl
  try simp only [Act.put, List.setIfInBounds_toArray, List.set_cons_zero, List.set_cons_succ]
  refine headH_take (i := 13) (v := ?qv13) (by kernel_rfl) rfl rfl (by kernel_rfl) (by kernel_rfl) (by kernel_rfl) (fun _ _ _ h => h) (Or.inl ⟨by rfl, ?qy13⟩) (by assumption) ?qr13
  case qy13 =>
    intro wq hSw
    try dsimp only at hSw
    go_simp
    try with_reducible rfl
  try simp only [Act.put, List.setIfInBounds_toArray, List.set_cons_zero, List.set_cons_succ]
  refine headH_take (i := 14) (v := ?qv14) (by kernel_rfl) rfl rfl (by kernel_rfl) (by kernel_rfl) (by kernel_rfl) (fun _ _ _ h => h) (Or.inl ⟨by rfl, ?qy14⟩) (by assumption) ?qr14
  case qy14 =>
    intro wq hSw
    try dsimp only at hSw
    go_simp
    try with_reducible rfl
  try simp only [Act.put, List.setIfInBounds_toArray, List.set_cons_zero, List.set_cons_succ]
  refine headH_take (i := 15) (v := ?qv15) (by kernel_rfl) rfl rfl (by kernel_rfl) (by kernel_rfl) (by kernel_rfl) (fun _ _ _ h => h) (Or.inl ⟨by rfl, ?qy15⟩) (by assumption) ?qr15
  case qy15 =>
    intro wq hSw
    try dsimp only at hSw
    go_simp
    try with_reducible rfl
  try simp only [Act.put, List.setIfInBounds_toArray, List.set_cons_zero, List.set_cons_succ]
  refine headH_take (i := 16) (v := ?qv16) (by kernel_rfl) rfl rfl (by kernel_rfl) (by kernel_rfl) (by kernel_rfl) (fun _ _ _ h => h) (Or.inl ⟨by rfl, ?qy16⟩) (by assumption) ?qr16
  case qy16 =>
    intro wq hSw
    try dsimp only at hSw
    go_simp
    try with_reducible rfl
  try simp only [Act.put, List.setIfInBounds_toArray, List.set_cons_zero, List.set_cons_succ]
  refine headH_take (i := 17) (v := ?qv17) (by kernel_rfl) rfl rfl (by kernel_rfl) (by kernel_rfl) (by kernel_rfl) (fun _ _ _ h => h) (Or.inl ⟨by rfl, ?qy17⟩) (by assumption) ?qr17
  case qy17 =>
    intro wq hSw
    try dsimp only at hSw
    go_simp
    try with_reducible rfl
  try simp only [Act.put, List.setIfInBounds_toArray, List.set_cons_zero, List.set_cons_succ]
  refine headH_one (i := 7) rfl rfl (by kernel_rfl) (fun K hK => ?_)
  go_simp
  refine hK.out _ _ ?_ (fun hS7 => ?_)
  · try dsimp only
    (first | go_keep | (simp (disch := omega) [*]; done) | (simp (disch := first | omega | (simp; omega)) [World.cell?_setCell_far, World.cell?_alloc_past, *]; done) | (simp (disch := first | omega | (simp; omega)) [World.cell?_setCell_far, World.cell?_alloc_past, *]; repeat (first | exact rfl | refine ⟨rfl, ?_⟩)))
  clear hK K
  try simp only [Act.put, List.setIfInBounds_toArray, List.set_cons_zero, List.set_cons_succ]
  refine headH_one (i := 18) rfl rfl (by kernel_rfl) (fun K hK => ?_)
  go_simp
  refine hK.out _ _ ?_ (fun hS18 => ?_)
  · try dsimp only
    (first | go_keep | (simp (disch := omega) [*]; done) | (simp (disch := first | omega | (simp; omega)) [World.cell?_setCell_far, World.cell?_alloc_past, *]; done) | (simp (disch := first | omega | (simp; omega)) [World.cell?_setCell_far, World.cell?_alloc_past, *]; repeat (first | exact rfl | refine ⟨rfl, ?_⟩)))
  clear hK K
  try simp only [Act.put, List.setIfInBounds_toArray, List.set_cons_zero, List.set_cons_succ]
  refine headH_one (i := 19) rfl rfl (by kernel_rfl) (fun K hK => ?_)
  go_simp
  (go_at_call 76; go_loud (rw [← hW6]; (with_reducible refine HC6.out.mono ?_); rintro e w6 ⟨r6, rfl, own6, b6⟩; have own6 := owns_base own6 hs6; obtain ⟨a8, c8, e8⟩ := owns_slice own6; subst e8; have HO6 := Lib.hid own6; clear own6; have B6 := below2 k3 b6; have z6 := b6.size; obtain ⟨hBm6, hBl6, hBr6, hBs6, hBv6⟩ := HB6.out; have hBv6 := hBv6.below b6; have hBm6 := hBm6.below b6; have hBl6 := hBl6.below b6; have hBr6 := hBr6.below b6; have hBs6 := hBs6.below b6; clear m0 m1 m2 m3 m4 m5 mf ml l0 l1 l2 v0 v1 v2 v3 v4 v5 v6 v7 v8 v9 v10 v11 v12 r0 r1 r2 r3 r4 r5 rf rl s0 s1 sf sl; have m0 := hBm6.cell (i := 0) rfl; have m1 := hBm6.cell (i := 1) rfl; have m2 := hBm6.cell (i := 2) rfl; have m3 := hBm6.cell (i := 3) rfl; have m4 := hBm6.cell (i := 4) rfl; have m5 := hBm6.cell (i := 5) rfl; have l0 := hBl6.cell (i := 0) rfl; have l1 := hBl6.cell (i := 1) rfl; have l2 := hBl6.cell (i := 2) rfl; have r0 := hBr6.cell (i := 0) rfl; have r1 := hBr6.cell (i := 1) rfl; have r2 := hBr6.cell (i := 2) rfl; have r3 := hBr6.cell (i := 3) rfl; have r4 := hBr6.cell (i := 4) rfl; have r5 := hBr6.cell (i := 5) rfl; have s0 := hBs6.cell (i := 0) rfl; have s1 := hBs6.cell (i := 1) rfl; have v1 := hBv6.cell (i := 1) rfl; have v2 := hBv6.cell (i := 2) rfl; have v3 := hBv6.cell (i := 3) rfl; have v4 := hBv6.cell (i := 4) rfl; have v5 := hBv6.cell (i := 5) rfl; have v6 := hBv6.cell (i := 6) rfl; have v7 := hBv6.cell (i := 7) rfl; have v8 := hBv6.cell (i := 8) rfl; have v9 := hBv6.cell (i := 9) rfl; have v10 := hBv6.cell (i := 10) rfl; have mf := hBm6.frozen; have ml := hBm6.lt; have rf := hBr6.frozen; have rl := hBr6.lt; have sf := hBs6.frozen; have sl := hBs6.lt))
  refine hK.out _ _ ?_ (fun hS19 => ?_)
  · try dsimp only
    (first | go_keep | (simp (disch := omega) [*]; done) | (simp (disch := first | omega | (simp; omega)) [World.cell?_setCell_far, World.cell?_alloc_past, *]; done) | (simp (disch := first | omega | (simp; omega)) [World.cell?_setCell_far, World.cell?_alloc_past, *]; repeat (first | exact rfl | refine ⟨rfl, ?_⟩)))
  clear hK K
  try simp only [Act.put, List.setIfInBounds_toArray, List.set_cons_zero, List.set_cons_succ]
  refine headH_take (i := 20) (v := ?qv20) (by kernel_rfl) rfl rfl (by kernel_rfl) (by kernel_rfl) (by kernel_rfl) (fun _ _ _ h => h) (Or.inl ⟨by rfl, ?qy20⟩) (by assumption) ?qr20
  case qy20 =>
    intro wq hSw
    try dsimp only at hSw
    go_simp
    try with_reducible rfl
  try simp only [Act.put, List.setIfInBounds_toArray, List.set_cons_zero, List.set_cons_succ]
  refine headH_done (by kernel_rfl) ?_
  simp only [List.drop_succ_cons, List.drop_zero]
  go_wp2_with fail
  refine NoPanic.normal ?_
  go_wp2_with (go_at_call 75; (with_reducible refine (HP.out _ ⟨xs, .slice a8 rn c8, rl6⟩ (by simp [World.setCell]; omega) (by refine ((Firm.own HO6.out (Nat.le_refl _)).map (fun W h => (by (unfold ReadsL; rw [HRN.out]; exact owns_reads h)))).keep (fun g arr T h1 hb => (by (have nB1 : g ≠ w.heap.size + 1 + 1 + 1 + 1 := (by omega); have nB2 : w.heap.size + 1 + 1 + 1 + 1 ≠ g := (by omega); ((refine RchW.get ?_); (repeat (first | with_reducible refine reach_set ?_ | with_reducible refine reach_other (by first | assumption | omega) ?_ | with_reducible refine reach_alloc ?_ | with_reducible refine reach_drew ?_)); exact reach_at (hb) rfl))))) (by exact bel)).mono ?_); rintro e w7 ⟨v7, rfl, hM7, b7⟩; have HM7 := Lib.hid hM7; have B7 := below2 (w := w) (by exact bel) b7; obtain ⟨_, a6, c6, e6, _⟩ := shs_open (hM7.now (HG.out _ _ hb0 B7)).2.2.1.1; simp only [List.length_set] at e6; rw [← HN3.out] at e6; have E6 := Lib.hid e6; subst e6; have z7 := b7.size; have hBr7 : BlockIs w7 (w.heap.size + 1 + 1 + 1) [.int .i64 0, .int .i64 0, .slice none 0 0, .slice none 0 0, .slice none 0 0, .slice none 0 0] 40 := BlockIs.below (by ((refine RchW.get ?_); (repeat (first | with_reducible refine reach_set ?_ | with_reducible refine reach_other (by first | assumption | omega) ?_ | with_reducible refine reach_alloc ?_ | with_reducible refine reach_drew ?_)); exact reach_at (hBr6) rfl)) b7; clear r0 r1 r2 r3 r4 r5 rf rl; have r0 := hBr7.cell (i := 0) rfl; have r1 := hBr7.cell (i := 1) rfl; have r2 := hBr7.cell (i := 2) rfl; have r3 := hBr7.cell (i := 3) rfl; have r4 := hBr7.cell (i := 4) rfl; have r5 := hBr7.cell (i := 5) rfl; have rf := hBr7.frozen; have rl := hBr7.lt)
  refine bodyPost_named fun W9 h9 => ?_
  have hR9 : BlockIs W9 (w.heap.size + 1 + 1 + 1) [.int .i64 x0, .int .i64 x1, .slice a1 n1 c1, .slice a2 n2 c2, .slice a6 n3 c6, .slice a4 n4 c4] 40 := by subst h9; ((refine RchW.get ?_); (repeat (first | with_reducible refine reach_set ?_ | with_reducible refine reach_other (by first | assumption | omega) ?_ | with_reducible refine reach_alloc ?_ | with_reducible refine reach_drew ?_)); exact reach_at (hBr7) rfl)
  have b9 : Below w.heap.size w W9 := by subst h9; exact bel
  have FIN : Hid (Firm w0 B W9 fun W => MmAt W ⟨x0, x1, m.bans, m.book, (.slice a6 n3 c6, m.parts.2.set j ⟨xs, .slice a8 rn c8, rl6⟩), m.locks⟩) := by
    subst h9
    unfold Hid
    refine (Firm.keep HM7.out fun g arr T h1 hb => ?_).from (by omega)
    have nB : w.heap.size ≠ g := by omega
    have nB2 : g ≠ w.heap.size := by omega
    have nB3 : g ≠ w.heap.size + 1 + 1 + 1 := by omega
    have nB4 : w.heap.size + 1 + 1 + 1 ≠ g := by omega
    ((refine RchW.get ?_); (repeat (first | with_reducible refine reach_set ?_ | with_reducible refine reach_other (by first | assumption | omega) ?_ | with_reducible refine reach_alloc ?_ | with_reducible refine reach_drew ?_)); exact reach_at (hb) rfl)
  clear h9
  have e90 := hR9.cell (i := 0) rfl; have e91 := hR9.cell (i := 1) rfl; have e92 := hR9.cell (i := 2) rfl; have e93 := hR9.cell (i := 3) rfl; have e94 := hR9.cell (i := 4) rfl; have e95 := hR9.cell (i := 5) rfl
  exact bodyPost_ret (v := .agg #[.int .i64 x0, .int .i64 x1, .slice a1 n1 c1, .slice a2 n2 c2, .slice a6 n3 c6, .slice a4 n4 c4]) (by simp [results, Tryz.results48, go_sem, e90, e91, e92, e93, e94, e95]) rfl ⟨⟨x0, x1, m.bans, m.book, (.slice a6 n3 c6, m.parts.2.set j ⟨xs, .slice a8 rn c8, rl6⟩), m.locks⟩, (by simp only [E1.out, E2.out, E4.out, ← HN1.out, ← HN2.out, ← HN4.out]), (fun W h0 hkp => by (have hm9 := HM.out W h0; exact FIN.out W h0 hkp)), (by unfold Mm.pl setAt; simp only [if_pos q2, Int.toNat_natCast, List.map_set, HX0.out, HX1.out, ← HRL.out, HXS.out, List.append_assoc, List.singleton_append]), b9⟩

end Go.Proofs.YtnplgagaoeckoaaGreat
namespace Go.Proofs.YtnplgagaoeckoaaGreat
open Go.RowKit
set_option linter.unusedSimpArgs false
set_option linter.unusedVariables false

set_option maxRecDepth 100000 in
set_option maxHeartbeats 8000000 in
theorem memStore_6z2 (w0 : World → Prop) (hg : Grows w0) (B : Nat) (m : Mm) (s t : Int) (v : Vm) (w : World) (hb0 : w0 w) (hB : B ≤ w.heap.size) (hm : ∀ W, w0 W → MmAt W m) (hv : VmAt w v) (hs : 0 ≤ s ∧ s < (m.parts.2.length : Int)) (hl : m.parts.2.length ≤ 1000) (ht : 0 ≤ t) (ho : t ≤ ((shOf m s).l.length : Int)) (hp : (shOf m s).l.length = 0) (hck : ∀ a n c, (shOf m s).v = .slice a n c → ∃ p, a = some p ∧ c = 0) :
    Calls Tryz.prog 48 #[.agg #[.int .i64 m.inn, .int .i64 m.out, m.bans.1, m.book.1, m.parts.1, m.locks.1], .agg #[.int .i64 6, .int .i64 s, .int .i64 t], .agg #[.int .i64 v.n, .bool v.pe.en.ad.v6, .int .u64 v.pe.en.ad.hi, .int .u64 v.pe.en.ad.lo, .int .i64 v.pe.en.port, .bool v.pe.came, .int .i64 v.pe.since, .int .i64 v.pe.pts, .int .i64 v.pe.at_, .int .i64 v.pe.ping, .int .i64 v.pe.work, v.bans.1, v.book.1]] w (GivesMm w0 B w (storeP m.pl 6 s t v.pl)) := by
  have hres : storeP m.pl 6 s t v.pl = { m.pl with parts := setAt m.pl.parts s ((partP m.pl s).1, putP (partP m.pl s).2 t v.pe) } := by unfold storeP; rfl
  rw [hres]
  unfold GivesMm
  have h := hm w hb0
  have HM := Lib.hid hm
  have HG := Lib.hid hg
  obtain rfl : t = 0 := by omega
  obtain ⟨j, rfl⟩ : ∃ j : Nat, s = (j : Int) := ⟨s.toNat, by omega⟩
  have hj : j < m.parts.2.length := by omega
  have hq0 := shOf_pl m (j : Int)
  obtain ⟨x, hx⟩ : ∃ x, m.parts.2[j]? = some x := ⟨_, List.getElem?_eq_getElem hj⟩
  have hsx : shOf m (j : Int) = x := by unfold shOf getAt; rw [if_pos hs.1, Int.toNat_natCast, List.getD_eq_getElem?_getD, hx]; rfl
  have hAt := shOf_at h (j : Int)
  rw [hsx] at hAt hq0 hp hck
  obtain ⟨_, a5, c5, e5, _⟩ := pes_open hAt
  have hl0 : x.l = [] := List.eq_nil_of_length_eq_zero hp
  have HL0 := Lib.hid hl0
  rw [hp] at e5
  obtain ⟨⟨b5, o5, i5⟩, rfl, rfl⟩ := hck _ _ _ e5
  clear hck
  obtain ⟨_, p, c, e6, h3⟩ := shs_open h.2.2.1.1
  obtain ⟨b, o, rfl, h4, h5, h6⟩ := h3 (by omega)
  obtain ⟨k0, k1⟩ := h6 j x hx
  rw [e5] at k1
  have hput : putP x.l 0 v.pe = x.l.take 0 ++ v.pe :: x.l.drop (0 + 1) := by unfold putP; rw [if_neg (by omega)]; rfl
  rw [hq0]
  simp only [hput]
  have HP := Lib.hid (fun (W : World) (K : Sh) (hW : w.heap.size + 1 + 1 + 1 + 1 + 1 ≤ W.heap.size) (hK : Firm w0 (w.heap.size + 1 + 1 + 1 + 1 + 1) W fun W => ReadsL peV 10 W K.v K.l) (hb : Below w.heap.size w W) => mem_part_in w0 hg (w.heap.size + 1 + 1 + 1 + 1 + 1) m j K W (hg _ _ hb0 hb) hW hm hK hj hl)
  obtain ⟨a1, a2, a3, a4, c1, c2, c3, c4, e1, e2, e3, e4⟩ := mm_slices h
  obtain ⟨_, oa, oc, eo, _⟩ := ba_open hv.1
  obtain ⟨_, ka, kc, ek, _⟩ := ey_open hv.2
  have hmm : m = ⟨m.inn, m.out, (.slice a1 m.bans.2.length c1, m.bans.2), (.slice a2 m.book.2.length c2, m.book.2), (.slice a3 m.parts.2.length c3, m.parts.2), (.slice a4 m.locks.2.length c4, m.locks.2)⟩ := by rw [← e1, ← e2, ← e3, ← e4]
  have HMM := Lib.hid hmm
  have ex := e3.symm.trans e6
  injection ex with ea en ec
  subst ea ec
  simp only [e1, e2, e3, e4] at HP
  have E1 := Lib.hid e1; have E2 := Lib.hid e2; have E4 := Lib.hid e4
  obtain ⟨xs, hxs⟩ : ∃ z, z = x.size := ⟨_, rfl⟩
  rw [← hxs] at k0
  rw [e1, e2, e3, e4, eo, ek]
  clear hres e1 e2 e3 e4 eo ek hmm
  obtain ⟨x0, hx0⟩ : ∃ x, x = m.inn := ⟨_, rfl⟩
  obtain ⟨x1, hx1⟩ : ∃ x, x = m.out := ⟨_, rfl⟩
  obtain ⟨n1, hn1⟩ : ∃ n, n = m.bans.2.length := ⟨_, rfl⟩
  obtain ⟨n2, hn2⟩ : ∃ n, n = m.book.2.length := ⟨_, rfl⟩
  obtain ⟨n3, hn3⟩ : ∃ n, n = m.parts.2.length := ⟨_, rfl⟩
  obtain ⟨n4, hn4⟩ : ∃ n, n = m.locks.2.length := ⟨_, rfl⟩
  obtain ⟨nb, hnb⟩ : ∃ n, n = v.bans.2.length := ⟨_, rfl⟩
  obtain ⟨nk, hnk⟩ : ∃ n, n = v.book.2.length := ⟨_, rfl⟩
  rw [← hx0, ← hx1, ← hn1, ← hn2, ← hn3, ← hn4, ← hnb, ← hnk]
  rw [← hx0, ← hx1, ← hn1, ← hn2, ← hn3, ← hn4] at HMM
  rw [← hx0, ← hx1, ← hn1, ← hn2, ← hn3, ← hn4] at HP
  have q1 : (j : Int) < (n3 : Int) := by omega
  have q2 : (0 : Int) ≤ (j : Int) := by omega
  have HX0 := Lib.hid hx0; have HX1 := Lib.hid hx1; have HN1 := Lib.hid hn1; have HN2 := Lib.hid hn2; have HN4 := Lib.hid hn4; have HXS := Lib.hid hxs; have HAT := Lib.hid hAt; have HATK := Lib.hid (fun W hW => show ReadsL peV 10 W x.v x.l by (have hq := shOf_at (hm W hW) (j : Int); rw [hsx] at hq; exact hq)); have HE5 := Lib.hid e5; have HJ := Lib.hid hj
  clear hput hl0 hp ho ht hxs hq0 hx hsx hAt e5 e6 en h3 h6 hs hl hj
  have HNB := Lib.hid hnb; have HNK := Lib.hid hnk; have HN3 := Lib.hid hn3
  clear h hv hm hg hx0 hx1 hn1 hn2 hn3 hn4 hnb hnk
  skip
  go_enter Tryz.func48, Tryz.ntmps48
  go_upto_region 1 with fail
  obtain ⟨W4, hW4⟩ : ∃ W4, W4 = (((w.alloc (.cells #[.int .i64 x0, .int .i64 x1, .slice a1 n1 c1, .slice a2 n2 c2, .slice (some ⟨b, o, none⟩) n3 c3, .slice a4 n4 c4] 40)).alloc (.cells #[.int .i64 6, .int .i64 j, .int .i64 0] 44)).alloc (.cells #[.int .i64 v.n, .bool v.pe.en.ad.v6, .int .u64 v.pe.en.ad.hi, .int .u64 v.pe.en.ad.lo, .int .i64 v.pe.en.port, .bool v.pe.came, .int .i64 v.pe.since, .int .i64 v.pe.pts, .int .i64 v.pe.at_, .int .i64 v.pe.ping, .int .i64 v.pe.work, .slice oa nb oc, .slice ka nk kc] 54)).alloc (.cells #[.int .i64 0, .int .i64 0, .slice none 0 0, .slice none 0 0, .slice none 0 0, .slice none 0 0] 40) := ⟨_, rfl⟩
  rw [← hW4]
  have B4 : Below w.heap.size w W4 := by subst hW4; exact bel
  have hBm : BlockIs W4 w.heap.size [.int .i64 x0, .int .i64 x1, .slice a1 n1 c1, .slice a2 n2 c2, .slice (some ⟨b, o, none⟩) n3 c3, .slice a4 n4 c4] 40 := by subst hW4; exact (((BlockIs.new w [.int .i64 x0, .int .i64 x1, .slice a1 n1 c1, .slice a2 n2 c2, .slice (some ⟨b, o, none⟩) n3 c3, .slice a4 n4 c4] _).alloc' _).alloc' _).alloc' _
  have hBl : BlockIs W4 (w.heap.size + 1) [.int .i64 6, .int .i64 j, .int .i64 0] 44 := by subst hW4; exact ((BlockIs.newAt' _ [.int .i64 6, .int .i64 j, .int .i64 0] _ (by simp)).alloc' _).alloc' _
  have hBv : BlockIs W4 (w.heap.size + 1 + 1) [.int .i64 v.n, .bool v.pe.en.ad.v6, .int .u64 v.pe.en.ad.hi, .int .u64 v.pe.en.ad.lo, .int .i64 v.pe.en.port, .bool v.pe.came, .int .i64 v.pe.since, .int .i64 v.pe.pts, .int .i64 v.pe.at_, .int .i64 v.pe.ping, .int .i64 v.pe.work, .slice oa nb oc, .slice ka nk kc] 54 := by subst hW4; exact (BlockIs.newAt' _ [.int .i64 v.n, .bool v.pe.en.ad.v6, .int .u64 v.pe.en.ad.hi, .int .u64 v.pe.en.ad.lo, .int .i64 v.pe.en.port, .bool v.pe.came, .int .i64 v.pe.since, .int .i64 v.pe.pts, .int .i64 v.pe.at_, .int .i64 v.pe.ping, .int .i64 v.pe.work, .slice oa nb oc, .slice ka nk kc] _ (by simp)).alloc' _
  have hBr : BlockIs W4 (w.heap.size + 1 + 1 + 1) [.int .i64 0, .int .i64 0, .slice none 0 0, .slice none 0 0, .slice none 0 0, .slice none 0 0] 40 := by subst hW4; exact BlockIs.newAt' _ [.int .i64 0, .int .i64 0, .slice none 0 0, .slice none 0 0, .slice none 0 0, .slice none 0 0] _ (by simp)
  have hs4 : W4.heap.size = w.heap.size + 1 + 1 + 1 + 1 := by subst hW4; simp
  clear hW4
  have z0 := keep B4 h5 k0
  have z1 := keep B4 h5 k1
  have y2 := hBm.cell (i := 4) rfl
  have y3 := hBl.cell (i := 1) rfl
  have y0 := hBl.cell (i := 0) rfl
  have m0 := hBm.cell (i := 0) rfl; have m1 := hBm.cell (i := 1) rfl; have m2 := hBm.cell (i := 2) rfl; have m3 := hBm.cell (i := 3) rfl; have m4 := hBm.cell (i := 4) rfl; have m5 := hBm.cell (i := 5) rfl; have mf := hBm.frozen; have ml := hBm.lt; have l0 := hBl.cell (i := 0) rfl; have l1 := hBl.cell (i := 1) rfl; have l2 := hBl.cell (i := 2) rfl; have v0 := hBv.cell (i := 0) rfl; have v1 := hBv.cell (i := 1) rfl; have v2 := hBv.cell (i := 2) rfl; have v3 := hBv.cell (i := 3) rfl; have v4 := hBv.cell (i := 4) rfl; have v5 := hBv.cell (i := 5) rfl; have v6 := hBv.cell (i := 6) rfl; have v7 := hBv.cell (i := 7) rfl; have v8 := hBv.cell (i := 8) rfl; have v9 := hBv.cell (i := 9) rfl; have v10 := hBv.cell (i := 10) rfl; have v11 := hBv.cell (i := 11) rfl; have v12 := hBv.cell (i := 12) rfl; have r0 := hBr.cell (i := 0) rfl; have r1 := hBr.cell (i := 1) rfl; have r2 := hBr.cell (i := 2) rfl; have r3 := hBr.cell (i := 3) rfl; have r4 := hBr.cell (i := 4) rfl; have r5 := hBr.cell (i := 5) rfl; have rf := hBr.frozen; have rl := hBr.lt
  have p7 : min (IntKind.i64.wrap 1) 0 = 0 := by decide
  have HCC := Lib.hid (fun (W : World) (bk gk : Nat) (hT : BlockIs W bk [.slice (some ⟨b5, o5, i5⟩) 0 0, .slice (some ⟨gk, 0, none⟩) 1 1, .slice (some ⟨b5, o5, i5⟩) 0 0] 29) (hP : BlockIs W gk (peV v.pe) 52) (hb : Below w.heap.size w W) => by
    have r1 : ReadsL peV 10 W (.slice (some ⟨b5, o5, i5⟩) 0 0) (x.l.take 0) := by rw [HL0.out]; exact ReadsL.nil _ _ _ _ _
    have r3 : ReadsL peV 10 W (.slice (some ⟨b5, o5, i5⟩) 0 0) (x.l.drop (0 + 1)) := by rw [HL0.out]; exact ReadsL.nil _ _ _ _ _
    have r2 : ReadsL peV 10 W (.slice (some ⟨gk, 0, none⟩) 1 1) [v.pe] := reads_oneB hP
    exact concat3Pe _ _ _ (x.l.take 0) [v.pe] (x.l.drop (0 + 1)) bk W (hT.cell (i := 0) rfl) (hT.cell (i := 1) rfl) (hT.cell (i := 2) rfl) hT.lt r1 r2 r3 (by rw [HL0.out]; simp))
  clear m0 m1 m2 m3 m5 mf ml l2 v0 v1 v2 v3 v4 v5 v6 v7 v8 v9 v10 v11 v12 r0 r1 r2 r3 r4 r5 rf rl
  go_upto_region 12 with fail
  obtain ⟨W5, hW5⟩ : ∃ W5, W5 = W4.alloc (.cells #[.int .i64 xs, .slice (some ⟨b5, o5, i5⟩) 0 0] 112) := ⟨_, rfl⟩
  rw [← hW5]
  have B5 : Below w.heap.size w W5 := by subst hW5; exact B4.alloc B4.size _
  have hBs : BlockIs W5 W4.heap.size [.int .i64 xs, .slice (some ⟨b5, o5, i5⟩) 0 0] 112 := by subst hW5; exact BlockIs.new W4 [.int .i64 xs, .slice (some ⟨b5, o5, i5⟩) 0 0] _
  have hBm : BlockIs W5 w.heap.size [.int .i64 x0, .int .i64 x1, .slice a1 n1 c1, .slice a2 n2 c2, .slice (some ⟨b, o, none⟩) n3 c3, .slice a4 n4 c4] 40 := by subst hW5; exact hBm.alloc' _
  have hBl : BlockIs W5 (w.heap.size + 1) [.int .i64 6, .int .i64 j, .int .i64 0] 44 := by subst hW5; exact hBl.alloc' _
  have hBv : BlockIs W5 (w.heap.size + 1 + 1) [.int .i64 v.n, .bool v.pe.en.ad.v6, .int .u64 v.pe.en.ad.hi, .int .u64 v.pe.en.ad.lo, .int .i64 v.pe.en.port, .bool v.pe.came, .int .i64 v.pe.since, .int .i64 v.pe.pts, .int .i64 v.pe.at_, .int .i64 v.pe.ping, .int .i64 v.pe.work, .slice oa nb oc, .slice ka nk kc] 54 := by subst hW5; exact hBv.alloc' _
  have hBr : BlockIs W5 (w.heap.size + 1 + 1 + 1) [.int .i64 0, .int .i64 0, .slice none 0 0, .slice none 0 0, .slice none 0 0, .slice none 0 0] 40 := by subst hW5; exact hBr.alloc' _
  have hs5 : W5.heap.size = w.heap.size + 1 + 1 + 1 + 1 + 1 := by subst hW5; rw [World.size_alloc, hs4]
  clear hW5 z0 z1 y2 y3 y0
  rw [hs4] at hBs
  try rw [hs4]
  clear hs4
  have m0 := hBm.cell (i := 0) rfl; have m1 := hBm.cell (i := 1) rfl; have m2 := hBm.cell (i := 2) rfl; have m3 := hBm.cell (i := 3) rfl; have m4 := hBm.cell (i := 4) rfl; have m5 := hBm.cell (i := 5) rfl; have mf := hBm.frozen; have ml := hBm.lt; have l0 := hBl.cell (i := 0) rfl; have l1 := hBl.cell (i := 1) rfl; have l2 := hBl.cell (i := 2) rfl; have v0 := hBv.cell (i := 0) rfl; have v1 := hBv.cell (i := 1) rfl; have v2 := hBv.cell (i := 2) rfl; have v3 := hBv.cell (i := 3) rfl; have v4 := hBv.cell (i := 4) rfl; have v5 := hBv.cell (i := 5) rfl; have v6 := hBv.cell (i := 6) rfl; have v7 := hBv.cell (i := 7) rfl; have v8 := hBv.cell (i := 8) rfl; have v9 := hBv.cell (i := 9) rfl; have v10 := hBv.cell (i := 10) rfl; have v11 := hBv.cell (i := 11) rfl; have v12 := hBv.cell (i := 12) rfl; have r0 := hBr.cell (i := 0) rfl; have r1 := hBr.cell (i := 1) rfl; have r2 := hBr.cell (i := 2) rfl; have r3 := hBr.cell (i := 3) rfl; have r4 := hBr.cell (i := 4) rfl; have r5 := hBr.cell (i := 5) rfl; have rf := hBr.frozen; have rl := hBr.lt; have s0 := hBs.cell (i := 0) rfl; have s1 := hBs.cell (i := 1) rfl; have sf := hBs.frozen; have sl := hBs.lt
  go_upto_region 14 with fail
  obtain ⟨W6, hW6⟩ : ∃ W6, W6 = ((W5.alloc (.cells #[.bool v.pe.en.ad.v6, .int .u64 v.pe.en.ad.hi, .int .u64 v.pe.en.ad.lo, .int .i64 v.pe.en.port, .bool v.pe.came, .int .i64 v.pe.since, .int .i64 v.pe.pts, .int .i64 v.pe.at_, .int .i64 v.pe.ping, .int .i64 v.pe.work] 52)).alloc (.cells #[.slice (some ⟨b5, o5, i5⟩) 0 0, .slice (some ⟨w.heap.size + 1 + 1 + 1 + 1 + 1, 0, none⟩) 1 1, .slice (some ⟨b5, o5, i5⟩) 0 0] 29)).drew := ⟨_, rfl⟩
  have k1 : BlockIs W6 (w.heap.size + 1 + 1 + 1 + 1 + 1 + 1) [.slice (some ⟨b5, o5, i5⟩) 0 0, .slice (some ⟨w.heap.size + 1 + 1 + 1 + 1 + 1, 0, none⟩) 1 1, .slice (some ⟨b5, o5, i5⟩) 0 0] 29 := by subst hW6; exact BlockIs.drew' (BlockIs.newAt' (W5.alloc (.cells #[.bool v.pe.en.ad.v6, .int .u64 v.pe.en.ad.hi, .int .u64 v.pe.en.ad.lo, .int .i64 v.pe.en.port, .bool v.pe.came, .int .i64 v.pe.since, .int .i64 v.pe.pts, .int .i64 v.pe.at_, .int .i64 v.pe.ping, .int .i64 v.pe.work] 52)) [.slice (some ⟨b5, o5, i5⟩) 0 0, .slice (some ⟨w.heap.size + 1 + 1 + 1 + 1 + 1, 0, none⟩) 1 1, .slice (some ⟨b5, o5, i5⟩) 0 0] _ (by rw [World.size_alloc, hs5]))
  have k2 : BlockIs W6 (w.heap.size + 1 + 1 + 1 + 1 + 1) (peV v.pe) 52 := by subst hW6; exact BlockIs.drew' (BlockIs.alloc' (BlockIs.newAt' W5 (peV v.pe) _ hs5.symm) _)
  have k3 : Below w.heap.size w W6 := by subst hW6; exact bel
  have hBm6 := (show BlockIs W6 w.heap.size [.int .i64 x0, .int .i64 x1, .slice a1 n1 c1, .slice a2 n2 c2, .slice (some ⟨b, o, none⟩) n3 c3, .slice a4 n4 c4] 40 by subst hW6; exact BlockIs.drew' (BlockIs.alloc' (BlockIs.alloc' hBm _) _))
  have hBl6 := (show BlockIs W6 (w.heap.size + 1) [.int .i64 6, .int .i64 j, .int .i64 0] 44 by subst hW6; exact BlockIs.drew' (BlockIs.alloc' (BlockIs.alloc' hBl _) _))
  have hBr6 := (show BlockIs W6 (w.heap.size + 1 + 1 + 1) [.int .i64 0, .int .i64 0, .slice none 0 0, .slice none 0 0, .slice none 0 0, .slice none 0 0] 40 by subst hW6; exact BlockIs.drew' (BlockIs.alloc' (BlockIs.alloc' hBr _) _))
  have hBs6 := (show BlockIs W6 (w.heap.size + 1 + 1 + 1 + 1) [.int .i64 xs, .slice (some ⟨b5, o5, i5⟩) 0 0] 112 by subst hW6; exact BlockIs.drew' (BlockIs.alloc' (BlockIs.alloc' hBs _) _))
  have hBv6 := (show BlockIs W6 (w.heap.size + 1 + 1) [.int .i64 v.n, .bool v.pe.en.ad.v6, .int .u64 v.pe.en.ad.hi, .int .u64 v.pe.en.ad.lo, .int .i64 v.pe.en.port, .bool v.pe.came, .int .i64 v.pe.since, .int .i64 v.pe.pts, .int .i64 v.pe.at_, .int .i64 v.pe.ping, .int .i64 v.pe.work, .slice oa nb oc, .slice ka nk kc] 54 by subst hW6; exact BlockIs.drew' (BlockIs.alloc' (BlockIs.alloc' hBv _) _))
  have hs6 : w.heap.size + 1 + 1 + 1 + 1 + 1 ≤ W6.heap.size := by have := k2.lt; omega
  have HC6 := HCC.out W6 _ _ k1 k2 k3
  have HB6 := Lib.hid (And.intro hBm6 (And.intro hBl6 (And.intro hBr6 (And.intro hBs6 hBv6))))
  clear k1 k2 hBm6 hBl6 hBr6 hBs6 hBv6
  generalize hrn : (x.l.take 0 ++ [v.pe] ++ x.l.drop (0 + 1)).length = rn at HC6
  generalize hrl : (x.l.take 0 ++ [v.pe] ++ x.l.drop (0 + 1)) = rl6 at HC6 hrn
  have HRN := Lib.hid hrn; have HRL := Lib.hid hrl
  clear hrn hrl
  have HC6 := Lib.hid HC6
  refine wp_region_noPanic ?_
  have hS0 : (fun wq => wq.cell? ⟨w.heap.size + 1 + 1 + 1 + 1, 1, none⟩ = some (.slice (some ⟨b5, o5, i5⟩) 0 0) ∧ wq.cell? ⟨w.heap.size + 1, 2, none⟩ = some (.int .i64 0) ∧ wq.cell? ⟨w.heap.size + 1 + 1, 1, none⟩ = some (.bool v.pe.en.ad.v6) ∧ wq.cell? ⟨w.heap.size + 1 + 1, 2, none⟩ = some (.int .u64 v.pe.en.ad.hi) ∧ wq.cell? ⟨w.heap.size + 1 + 1, 3, none⟩ = some (.int .u64 v.pe.en.ad.lo) ∧ wq.cell? ⟨w.heap.size + 1 + 1, 4, none⟩ = some (.int .i64 v.pe.en.port) ∧ wq.cell? ⟨w.heap.size + 1 + 1, 5, none⟩ = some (.bool v.pe.came) ∧ wq.cell? ⟨w.heap.size + 1 + 1, 6, none⟩ = some (.int .i64 v.pe.since) ∧ wq.cell? ⟨w.heap.size + 1 + 1, 7, none⟩ = some (.int .i64 v.pe.pts) ∧ wq.cell? ⟨w.heap.size + 1 + 1, 8, none⟩ = some (.int .i64 v.pe.at_) ∧ wq.cell? ⟨w.heap.size + 1 + 1, 9, none⟩ = some (.int .i64 v.pe.ping) ∧ wq.cell? ⟨w.heap.size + 1 + 1, 10, none⟩ = some (.int .i64 v.pe.work)) W5.drew := by
    dsimp only
    (first | go_keep | (simp (disch := omega) [*]; done) | (simp (disch := first | omega | (simp; omega)) [World.cell?_setCell_far, World.cell?_alloc_past, *]; done) | (simp (disch := first | omega | (simp; omega)) [World.cell?_setCell_far, World.cell?_alloc_past, *]; repeat (first | exact rfl | refine ⟨rfl, ?_⟩)))
  refine wp_region_headH (fun wq => wq.cell? ⟨w.heap.size + 1 + 1 + 1 + 1, 1, none⟩ = some (.slice (some ⟨b5, o5, i5⟩) 0 0) ∧ wq.cell? ⟨w.heap.size + 1, 2, none⟩ = some (.int .i64 0) ∧ wq.cell? ⟨w.heap.size + 1 + 1, 1, none⟩ = some (.bool v.pe.en.ad.v6) ∧ wq.cell? ⟨w.heap.size + 1 + 1, 2, none⟩ = some (.int .u64 v.pe.en.ad.hi) ∧ wq.cell? ⟨w.heap.size + 1 + 1, 3, none⟩ = some (.int .u64 v.pe.en.ad.lo) ∧ wq.cell? ⟨w.heap.size + 1 + 1, 4, none⟩ = some (.int .i64 v.pe.en.port) ∧ wq.cell? ⟨w.heap.size + 1 + 1, 5, none⟩ = some (.bool v.pe.came) ∧ wq.cell? ⟨w.heap.size + 1 + 1, 6, none⟩ = some (.int .i64 v.pe.since) ∧ wq.cell? ⟨w.heap.size + 1 + 1, 7, none⟩ = some (.int .i64 v.pe.pts) ∧ wq.cell? ⟨w.heap.size + 1 + 1, 8, none⟩ = some (.int .i64 v.pe.at_) ∧ wq.cell? ⟨w.heap.size + 1 + 1, 9, none⟩ = some (.int .i64 v.pe.ping) ∧ wq.cell? ⟨w.heap.size + 1 + 1, 10, none⟩ = some (.int .i64 v.pe.work)) 21 (by kernel_rfl) (by kernel_rfl) ?_
  refine headH_take (i := 0) (v := ?qv0) (by kernel_rfl) rfl rfl (by kernel_rfl) (by kernel_rfl) (by kernel_rfl) (fun _ _ _ h => h) (Or.inl ⟨by rfl, ?qy0⟩) (by assumption) ?qr0
  case qy0 =>
    intro wq hSw
    try dsimp only at hSw
    go_simp
    try with_reducible rfl
  try simp only [Act.put, List.setIfInBounds_toArray, List.set_cons_zero, List.set_cons_succ]
  refine headH_take (i := 1) (v := ?qv1) (by kernel_rfl) rfl rfl (by kernel_rfl) (by kernel_rfl) (by kernel_rfl) (fun _ _ _ h => h) (Or.inl ⟨by rfl, ?qy1⟩) (by assumption) ?qr1
  case qy1 =>
    intro wq hSw
    try dsimp only at hSw
    go_simp
    try with_reducible rfl
  try simp only [Act.put, List.setIfInBounds_toArray, List.set_cons_zero, List.set_cons_succ]
  refine headH_take (i := 2) (v := ?qv2) (by kernel_rfl) rfl rfl (by kernel_rfl) (by kernel_rfl) (by kernel_rfl) (fun _ _ _ h => h) (Or.inl ⟨by rfl, ?qy2⟩) (by assumption) ?qr2
  case qy2 =>
    intro wq hSw
    try dsimp only at hSw
    go_simp
    try with_reducible rfl
  try simp only [Act.put, List.setIfInBounds_toArray, List.set_cons_zero, List.set_cons_succ]
  refine headH_take (i := 3) (v := ?qv3) (by kernel_rfl) rfl rfl (by kernel_rfl) (by kernel_rfl) (by kernel_rfl) (fun _ _ _ h => h) (Or.inl ⟨by rfl, ?qy3⟩) (by assumption) ?qr3
  case qy3 =>
    intro wq hSw
    try dsimp only at hSw
    go_simp
    try with_reducible rfl
  try simp only [Act.put, List.setIfInBounds_toArray, List.set_cons_zero, List.set_cons_succ]
  refine headH_take (i := 4) (v := ?qv4) (by kernel_rfl) rfl rfl (by kernel_rfl) (by kernel_rfl) (by kernel_rfl) (fun _ _ _ h => h) (Or.inl ⟨by rfl, ?qy4⟩) (by assumption) ?qr4
  case qy4 =>
    intro wq hSw
    try dsimp only at hSw
    go_simp
    try with_reducible rfl
  try simp only [Act.put, List.setIfInBounds_toArray, List.set_cons_zero, List.set_cons_succ]
  refine headH_take (i := 5) (v := ?qv5) (by kernel_rfl) rfl rfl (by kernel_rfl) (by kernel_rfl) (by kernel_rfl) (fun _ _ _ h => h) (Or.inl ⟨by rfl, ?qy5⟩) (by assumption) ?qr5
  case qy5 =>
    intro wq hSw
    try dsimp only at hSw
    go_simp
    try with_reducible rfl
  try simp only [Act.put, List.setIfInBounds_toArray, List.set_cons_zero, List.set_cons_succ]
  refine headH_take (i := 6) (v := ?qv6) (by kernel_rfl) rfl rfl (by kernel_rfl) (by kernel_rfl) (by kernel_rfl) (fun _ _ _ h => h) (Or.inl ⟨by rfl, ?qy6⟩) (by assumption) ?qr6
  case qy6 =>
    intro wq hSw
    try dsimp only at hSw
    go_simp
    try with_reducible rfl
  try simp only [Act.put, List.setIfInBounds_toArray, List.set_cons_zero, List.set_cons_succ]
  refine headH_take (i := 8) (v := ?qv8) (by kernel_rfl) rfl rfl (by kernel_rfl) (by kernel_rfl) (by kernel_rfl) (fun _ _ _ h => h) (Or.inl ⟨by rfl, ?qy8⟩) (by assumption) ?qr8
  case qy8 =>
    intro wq hSw
    try dsimp only at hSw
    go_simp
    try with_reducible rfl
  try simp only [Act.put, List.setIfInBounds_toArray, List.set_cons_zero, List.set_cons_succ]
  refine headH_take (i := 9) (v := ?qv9) (by kernel_rfl) rfl rfl (by kernel_rfl) (by kernel_rfl) (by kernel_rfl) (fun _ _ _ h => h) (Or.inl ⟨by rfl, ?qy9⟩) (by assumption) ?qr9
  case qy9 =>
    intro wq hSw
    try dsimp only at hSw
    go_simp
    try with_reducible rfl
  try simp only [Act.put, List.setIfInBounds_toArray, List.set_cons_zero, List.set_cons_succ]
  refine headH_take (i := 10) (v := ?qv10) (by kernel_rfl) rfl rfl (by kernel_rfl) (by kernel_rfl) (by kernel_rfl) (fun _ _ _ h => h) (Or.inl ⟨by rfl, ?qy10⟩) (by assumption) ?qr10
  case qy10 =>
    intro wq hSw
    try dsimp only at hSw
    go_simp
    try with_reducible rfl
  try simp only [Act.put, List.setIfInBounds_toArray, List.set_cons_zero, List.set_cons_succ]
  refine headH_take (i := 11) (v := ?qv11) (by kernel_rfl) rfl rfl (by kernel_rfl) (by kernel_rfl) (by kernel_rfl) (fun _ _ _ h => h) (Or.inl ⟨by rfl, ?qy11⟩) (by assumption) ?qr11
  case qy11 =>
    intro wq hSw
    try dsimp only at hSw
    go_simp
    try with_reducible rfl
  try simp only [Act.put, List.setIfInBounds_toArray, List.set_cons_zero, List.set_cons_succ]
  refine headH_take (i := 12) (v := ?qv12) (by kernel_rfl) rfl rfl (by kernel_rfl) (by kernel_rfl) (by kernel_rfl) (fun _ _ _ h => h) (Or.inl ⟨by rfl, ?qy12⟩) (by assumption) ?qr12
  case qy12 =>
    intro wq hSw
    try dsimp only at hSw
    go_simp
    try with_reducible rfl
  try simp only [Act.put, List.setIfInBounds_toArray, List.set_cons_zero, List.set_cons_succ]
  refine headH_take (i := 13) (v := ?qv13) (by kernel_rfl) rfl rfl (by kernel_rfl) (by kernel_rfl) (by kernel_rfl) (fun _ _ _ h => h) (Or.inl ⟨by rfl, ?qy13⟩) (by assumption) ?qr13
  case qy13 =>
    intro wq hSw
    try dsimp only at hSw
    go_simp
    try with_reducible rfl
  try simp only [Act.put, List.setIfInBounds_toArray, List.set_cons_zero, List.set_cons_succ]
  refine headH_take (i := 14) (v := ?qv14) (by kernel_rfl) rfl rfl (by kernel_rfl) (by kernel_rfl) (by kernel_rfl) (fun _ _ _ h => h) (Or.inl ⟨by rfl, ?qy14⟩) (by assumption) ?qr14
  case qy14 =>
    intro wq hSw
    try dsimp only at hSw
    go_simp
    try with_reducible rfl
  try simp only [Act.put, List.setIfInBounds_toArray, List.set_cons_zero, List.set_cons_succ]
  refine headH_take (i := 15) (v := ?qv15) (by kernel_rfl) rfl rfl (by kernel_rfl) (by kernel_rfl) (by kernel_rfl) (fun _ _ _ h => h) (Or.inl ⟨by rfl, ?qy15⟩) (by assumption) ?qr15
  case qy15 =>
    intro wq hSw
    try dsimp only at hSw
    go_simp
    try with_reducible rfl
  try simp only [Act.put, List.setIfInBounds_toArray, List.set_cons_zero, List.set_cons_succ]
  refine headH_take (i := 16) (v := ?qv16) (by kernel_rfl) rfl rfl (by kernel_rfl) (by kernel_rfl) (by kernel_rfl) (fun _ _ _ h => h) (Or.inl ⟨by rfl, ?qy16⟩) (by assumption) ?qr16
  case qy16 =>
    intro wq hSw
    try dsimp only at hSw
    go_simp
    try with_reducible rfl
  try simp only [Act.put, List.setIfInBounds_toArray, List.set_cons_zero, List.set_cons_succ]
  refine headH_take (i := 17) (v := ?qv17) (by kernel_rfl) rfl rfl (by kernel_rfl) (by kernel_rfl) (by kernel_rfl) (fun _ _ _ h => h) (Or.inl ⟨by rfl, ?qy17⟩) (by assumption) ?qr17
  case qy17 =>
    intro wq hSw
    try dsimp only at hSw
    go_simp
    try with_reducible rfl
  try simp only [Act.put, List.setIfInBounds_toArray, List.set_cons_zero, List.set_cons_succ]
  refine headH_one (i := 7) rfl rfl (by kernel_rfl) (fun K hK => ?_)
  go_simp
  refine hK.out _ _ ?_ (fun hS7 => ?_)
  · try dsimp only
    (first | go_keep | (simp (disch := omega) [*]; done) | (simp (disch := first | omega | (simp; omega)) [World.cell?_setCell_far, World.cell?_alloc_past, *]; done) | (simp (disch := first | omega | (simp; omega)) [World.cell?_setCell_far, World.cell?_alloc_past, *]; repeat (first | exact rfl | refine ⟨rfl, ?_⟩)))
  clear hK K
  try simp only [Act.put, List.setIfInBounds_toArray, List.set_cons_zero, List.set_cons_succ]
  refine headH_one (i := 18) rfl rfl (by kernel_rfl) (fun K hK => ?_)
  go_simp
  refine hK.out _ _ ?_ (fun hS18 => ?_)
  · try dsimp only
    (first | go_keep | (simp (disch := omega) [*]; done) | (simp (disch := first | omega | (simp; omega)) [World.cell?_setCell_far, World.cell?_alloc_past, *]; done) | (simp (disch := first | omega | (simp; omega)) [World.cell?_setCell_far, World.cell?_alloc_past, *]; repeat (first | exact rfl | refine ⟨rfl, ?_⟩)))
  clear hK K
  try simp only [Act.put, List.setIfInBounds_toArray, List.set_cons_zero, List.set_cons_succ]
  refine headH_one (i := 19) rfl rfl (by kernel_rfl) (fun K hK => ?_)
  go_simp
  (go_at_call 76; go_loud (rw [← hW6]; (with_reducible refine HC6.out.mono ?_); rintro e w6 ⟨r6, rfl, own6, b6⟩; have own6 := owns_base own6 hs6; obtain ⟨a8, c8, e8⟩ := owns_slice own6; subst e8; have HO6 := Lib.hid own6; clear own6; have B6 := below2 k3 b6; have z6 := b6.size; obtain ⟨hBm6, hBl6, hBr6, hBs6, hBv6⟩ := HB6.out; have hBv6 := hBv6.below b6; have hBm6 := hBm6.below b6; have hBl6 := hBl6.below b6; have hBr6 := hBr6.below b6; have hBs6 := hBs6.below b6; clear m0 m1 m2 m3 m4 m5 mf ml l0 l1 l2 v0 v1 v2 v3 v4 v5 v6 v7 v8 v9 v10 v11 v12 r0 r1 r2 r3 r4 r5 rf rl s0 s1 sf sl; have m0 := hBm6.cell (i := 0) rfl; have m1 := hBm6.cell (i := 1) rfl; have m2 := hBm6.cell (i := 2) rfl; have m3 := hBm6.cell (i := 3) rfl; have m4 := hBm6.cell (i := 4) rfl; have m5 := hBm6.cell (i := 5) rfl; have l0 := hBl6.cell (i := 0) rfl; have l1 := hBl6.cell (i := 1) rfl; have l2 := hBl6.cell (i := 2) rfl; have r0 := hBr6.cell (i := 0) rfl; have r1 := hBr6.cell (i := 1) rfl; have r2 := hBr6.cell (i := 2) rfl; have r3 := hBr6.cell (i := 3) rfl; have r4 := hBr6.cell (i := 4) rfl; have r5 := hBr6.cell (i := 5) rfl; have s0 := hBs6.cell (i := 0) rfl; have s1 := hBs6.cell (i := 1) rfl; have v1 := hBv6.cell (i := 1) rfl; have v2 := hBv6.cell (i := 2) rfl; have v3 := hBv6.cell (i := 3) rfl; have v4 := hBv6.cell (i := 4) rfl; have v5 := hBv6.cell (i := 5) rfl; have v6 := hBv6.cell (i := 6) rfl; have v7 := hBv6.cell (i := 7) rfl; have v8 := hBv6.cell (i := 8) rfl; have v9 := hBv6.cell (i := 9) rfl; have v10 := hBv6.cell (i := 10) rfl; have mf := hBm6.frozen; have ml := hBm6.lt; have rf := hBr6.frozen; have rl := hBr6.lt; have sf := hBs6.frozen; have sl := hBs6.lt))
  refine hK.out _ _ ?_ (fun hS19 => ?_)
  · try dsimp only
    (first | go_keep | (simp (disch := omega) [*]; done) | (simp (disch := first | omega | (simp; omega)) [World.cell?_setCell_far, World.cell?_alloc_past, *]; done) | (simp (disch := first | omega | (simp; omega)) [World.cell?_setCell_far, World.cell?_alloc_past, *]; repeat (first | exact rfl | refine ⟨rfl, ?_⟩)))
  clear hK K
  try simp only [Act.put, List.setIfInBounds_toArray, List.set_cons_zero, List.set_cons_succ]
  refine headH_take (i := 20) (v := ?qv20) (by kernel_rfl) rfl rfl (by kernel_rfl) (by kernel_rfl) (by kernel_rfl) (fun _ _ _ h => h) (Or.inl ⟨by rfl, ?qy20⟩) (by assumption) ?qr20
  case qy20 =>
    intro wq hSw
    try dsimp only at hSw
    go_simp
    try with_reducible rfl
  try simp only [Act.put, List.setIfInBounds_toArray, List.set_cons_zero, List.set_cons_succ]
  refine headH_done (by kernel_rfl) ?_
  simp only [List.drop_succ_cons, List.drop_zero]
  go_wp2_with fail
  refine NoPanic.normal ?_
  go_wp2_with (go_at_call 75; (with_reducible refine (HP.out _ ⟨xs, .slice a8 rn c8, rl6⟩ (by simp [World.setCell]; omega) (by refine ((Firm.own HO6.out (Nat.le_refl _)).map (fun W h => (by (unfold ReadsL; rw [HRN.out]; exact owns_reads h)))).keep (fun g arr T h1 hb => (by (have nB1 : g ≠ w.heap.size + 1 + 1 + 1 + 1 := (by omega); have nB2 : w.heap.size + 1 + 1 + 1 + 1 ≠ g := (by omega); ((refine RchW.get ?_); (repeat (first | with_reducible refine reach_set ?_ | with_reducible refine reach_other (by first | assumption | omega) ?_ | with_reducible refine reach_alloc ?_ | with_reducible refine reach_drew ?_)); exact reach_at (hb) rfl))))) (by exact bel)).mono ?_); rintro e w7 ⟨v7, rfl, hM7, b7⟩; have HM7 := Lib.hid hM7; have B7 := below2 (w := w) (by exact bel) b7; obtain ⟨_, a6, c6, e6, _⟩ := shs_open (hM7.now (HG.out _ _ hb0 B7)).2.2.1.1; simp only [List.length_set] at e6; rw [← HN3.out] at e6; have E6 := Lib.hid e6; subst e6; have z7 := b7.size; have hBr7 : BlockIs w7 (w.heap.size + 1 + 1 + 1) [.int .i64 0, .int .i64 0, .slice none 0 0, .slice none 0 0, .slice none 0 0, .slice none 0 0] 40 := BlockIs.below (by ((refine RchW.get ?_); (repeat (first | with_reducible refine reach_set ?_ | with_reducible refine reach_other (by first | assumption | omega) ?_ | with_reducible refine reach_alloc ?_ | with_reducible refine reach_drew ?_)); exact reach_at (hBr6) rfl)) b7; clear r0 r1 r2 r3 r4 r5 rf rl; have r0 := hBr7.cell (i := 0) rfl; have r1 := hBr7.cell (i := 1) rfl; have r2 := hBr7.cell (i := 2) rfl; have r3 := hBr7.cell (i := 3) rfl; have r4 := hBr7.cell (i := 4) rfl; have r5 := hBr7.cell (i := 5) rfl; have rf := hBr7.frozen; have rl := hBr7.lt)
  refine bodyPost_named fun W9 h9 => ?_
  have hR9 : BlockIs W9 (w.heap.size + 1 + 1 + 1) [.int .i64 x0, .int .i64 x1, .slice a1 n1 c1, .slice a2 n2 c2, .slice a6 n3 c6, .slice a4 n4 c4] 40 := by subst h9; ((refine RchW.get ?_); (repeat (first | with_reducible refine reach_set ?_ | with_reducible refine reach_other (by first | assumption | omega) ?_ | with_reducible refine reach_alloc ?_ | with_reducible refine reach_drew ?_)); exact reach_at (hBr7) rfl)
  have b9 : Below w.heap.size w W9 := by subst h9; exact bel
  have FIN : Hid (Firm w0 B W9 fun W => MmAt W ⟨x0, x1, m.bans, m.book, (.slice a6 n3 c6, m.parts.2.set j ⟨xs, .slice a8 rn c8, rl6⟩), m.locks⟩) := by
    subst h9
    unfold Hid
    refine (Firm.keep HM7.out fun g arr T h1 hb => ?_).from (by omega)
    have nB : w.heap.size ≠ g := by omega
    have nB2 : g ≠ w.heap.size := by omega
    have nB3 : g ≠ w.heap.size + 1 + 1 + 1 := by omega
    have nB4 : w.heap.size + 1 + 1 + 1 ≠ g := by omega
    ((refine RchW.get ?_); (repeat (first | with_reducible refine reach_set ?_ | with_reducible refine reach_other (by first | assumption | omega) ?_ | with_reducible refine reach_alloc ?_ | with_reducible refine reach_drew ?_)); exact reach_at (hb) rfl)
  clear h9
  have e90 := hR9.cell (i := 0) rfl; have e91 := hR9.cell (i := 1) rfl; have e92 := hR9.cell (i := 2) rfl; have e93 := hR9.cell (i := 3) rfl; have e94 := hR9.cell (i := 4) rfl; have e95 := hR9.cell (i := 5) rfl
  exact bodyPost_ret (v := .agg #[.int .i64 x0, .int .i64 x1, .slice a1 n1 c1, .slice a2 n2 c2, .slice a6 n3 c6, .slice a4 n4 c4]) (by simp [results, Tryz.results48, go_sem, e90, e91, e92, e93, e94, e95]) rfl ⟨⟨x0, x1, m.bans, m.book, (.slice a6 n3 c6, m.parts.2.set j ⟨xs, .slice a8 rn c8, rl6⟩), m.locks⟩, (by simp only [E1.out, E2.out, E4.out, ← HN1.out, ← HN2.out, ← HN4.out]), (fun W h0 hkp => by (have hm9 := HM.out W h0; exact FIN.out W h0 hkp)), (by unfold Mm.pl setAt; simp only [if_pos q2, Int.toNat_natCast, List.map_set, HX0.out, HX1.out, ← HRL.out, HXS.out, List.append_assoc, List.singleton_append]), b9⟩

end Go.Proofs.YtnplgagaoeckoaaGreat
namespace Go.Proofs.YtnplgagaoeckoaaGreat
open Go.RowKit

theorem memStore_any (w0 : World → Prop) (hg : Grows w0) (B : Nat) (m : Mm) (k s t : Int) (v : Vm) (w : World) (hb0 : w0 w) (hB : B ≤ w.heap.size) (hm : ∀ W, w0 W → MmAt W m) (hv : VmAt w v) (hl : m.parts.2.length ≤ 1000)
    (hs : k = 5 ∨ k = 6 → 0 ≤ s ∧ s < (m.parts.2.length : Int)) (ht : k = 6 → 0 ≤ t) (hN : (shOf m s).l.length ≤ 100000) (hb : v.bans.2.length ≤ 1000) (hk : v.book.2.length ≤ 1000) :
    Calls Tryz.prog 48 #[.agg #[.int .i64 m.inn, .int .i64 m.out, m.bans.1, m.book.1, m.parts.1, m.locks.1], .agg #[.int .i64 k, .int .i64 s, .int .i64 t], .agg #[.int .i64 v.n, .bool v.pe.en.ad.v6, .int .u64 v.pe.en.ad.hi, .int .u64 v.pe.en.ad.lo, .int .i64 v.pe.en.port, .bool v.pe.came, .int .i64 v.pe.since, .int .i64 v.pe.pts, .int .i64 v.pe.at_, .int .i64 v.pe.ping, .int .i64 v.pe.work, v.bans.1, v.book.1]] w (GivesMm w0 B w (storeP m.pl k s t v.pl)) := by
  by_cases h3 : k = 3
  · subst h3; exact memStore_3 w0 hg B m s t v w hb0 hB hm hv hb
  by_cases h4 : k = 4
  · subst h4; exact memStore_4 w0 hg B m s t v w hb0 hB hm hv hk
  by_cases h5 : k = 5
  · subst h5; exact memStore_5 w0 hg B m s t v w hb0 hB hm hv (hs (Or.inl rfl)) hl
  by_cases h6 : k = 6
  · subst h6
    have hs := hs (Or.inr rfl)
    have ht := ht rfl
    rcases Int.lt_or_le ((shOf m s).l.length : Int) t with ho | ho
    · exact memStore_6over w0 hg B m s t v w hb0 hB hm hv hs hl ho
    obtain ⟨_, a5, c5, e5, _⟩ := pes_open (shOf_at (hm w hb0) s)
    rcases Nat.eq_zero_or_pos (shOf m s).l.length with hp | hp
    · cases a5 with
      | none => exact memStore_6z0 w0 hg B m s t v w hb0 hB hm hv hs hl ht ho hp fun a n c e => by rw [e5] at e; injection e with e _ _; exact e.symm
      | some q =>
        by_cases hc : c5 = 0
        · exact memStore_6z2 w0 hg B m s t v w hb0 hB hm hv hs hl ht ho hp fun a n c e => by rw [e5] at e; injection e with e _ e'; exact ⟨q, e.symm, e'.symm.trans hc⟩
        · exact memStore_6z1 w0 hg B m s t v w hb0 hB hm hv hs hl ht ho hp fun a n c e => by rw [e5] at e; injection e with e _ e'; exact ⟨q, e.symm, fun h => hc (e'.trans h)⟩
    · by_cases hc : c5 = min (t.toNat + 1) (shOf m s).l.length
      · exact memStore_6full w0 hg B m s t v w hb0 hB hm hv hs hl ht ho hp hN fun a n c e => by rw [e5] at e; injection e with _ e e'; rw [← e, ← e']; exact hc
      · exact memStore_6in w0 hg B m s t v w hb0 hB hm hv hs hl ht ho hp hN fun a n c e => by rw [e5] at e; injection e with _ e e'; rw [← e, ← e']; exact hc
  · exact memStore_0 w0 hg B m k s t v w hb0 hB hm hv ⟨h3, h4, h5, h6⟩
theorem memLoad_any (m : Mm) (k s t : Int) (w : World) (h : MmAt w m) (hb : m.bans.2.length ≤ 1000) (hk : m.book.2.length ≤ 1000) (h16 : 1 ≤ k ∧ k ≤ 6) (hs : k = 5 ∨ k = 6 → 0 ≤ s ∧ s < (m.parts.2.length : Int)) (ht : k = 6 → 0 ≤ t) :
    Calls Tryz.prog 47 #[.agg #[.int .i64 m.inn, .int .i64 m.out, m.bans.1, m.book.1, m.parts.1, m.locks.1], .agg #[.int .i64 k, .int .i64 s, .int .i64 t]] w (GivesVm w (loadP m.pl k s t)) := by
  rcases (show k = 1 ∨ k = 2 ∨ k = 3 ∨ k = 4 ∨ k = 5 ∨ k = 6 by omega) with rfl | rfl | rfl | rfl | rfl | rfl
  · exact memLoad_1 m s t w h
  · exact memLoad_2 m s t w h
  · exact memLoad_3 m s t w h hb
  · exact memLoad_4 m s t w h hk
  · exact memLoad_5 m s t w h (hs (Or.inl rfl))
  · exact memLoad_6 m s t w h (hs (Or.inr rfl)) (ht rfl)
theorem memSwap_any (m : Mm) (o : Oq) (w : World) (h : MmAt w m) (ho : OqAt w o) : Calls Tryz.prog 49 #[.agg #[.int .i64 m.inn, .int .i64 m.out, m.bans.1, m.book.1, m.parts.1, m.locks.1], .agg #[.int .i64 o.kind, .int .i64 o.lock, .int .i64 o.lk, .int .i64 o.ls, .int .i64 o.lt, .int .i64 o.old, .int .i64 o.new, .int .i64 o.vn, .bool o.pe.en.ad.v6, .int .u64 o.pe.en.ad.hi, .int .u64 o.pe.en.ad.lo, .int .i64 o.pe.en.port, .bool o.pe.came, .int .i64 o.pe.since, .int .i64 o.pe.pts, .int .i64 o.pe.at_, .int .i64 o.pe.ping, .int .i64 o.pe.work, o.bans.1, o.book.1, .bool o.mark]] w (GivesMv w m (swapP m.pl o.lk o.old o.new)) := by
  by_cases h2 : o.lk = 2
  · by_cases he : m.out = o.old
    · exact memSwap_oy m o w h ho h2 he
    · exact memSwap_on m o w h ho h2 he
  · by_cases he : m.inn = o.old
    · exact memSwap_iy m o w h ho h2 he
    · exact memSwap_in m o w h ho h2 he
def GivesDo (w0 : World → Prop) (B : Nat) (w : World) (r : Pm × Vp) (e : Ending) (w' : World) : Prop := ∃ (m : Mm) (v : Vm), e = .returned (.tuple #[.agg #[.int .i64 m.inn, .int .i64 m.out, m.bans.1, m.book.1, m.parts.1, m.locks.1], .agg #[.int .i64 v.n, .bool v.pe.en.ad.v6, .int .u64 v.pe.en.ad.hi, .int .u64 v.pe.en.ad.lo, .int .i64 v.pe.en.port, .bool v.pe.came, .int .i64 v.pe.since, .int .i64 v.pe.pts, .int .i64 v.pe.at_, .int .i64 v.pe.ping, .int .i64 v.pe.work, v.bans.1, v.book.1]]) ∧ Firm w0 B w' (fun W => MmAt W m) ∧ Firm w0 B w' (fun W => VmAt W v) ∧ m.pl = r.1 ∧ v.pl = r.2 ∧ Below w.heap.size w w'
theorem mayP_right {m : Mm} {o : Oq} (h : mayP m.pl o = true) : opRight o m.parts.2.length = true := by
  unfold mayP at h
  rw [Bool.and_eq_true] at h
  have : m.pl.parts.length = m.parts.2.length := by unfold Mm.pl; simp
  rw [← this]; exact h.1
theorem opRight_lock {o : Oq} {n : Nat} (h : opRight o n = true) (hk : o.kind = 1 ∨ o.kind = 2 ∨ o.kind = 3 ∨ o.kind = 4) : 0 ≤ o.lock ∧ o.lock ≤ (n : Int) + 1 := by
  unfold opRight at h
  rw [Bool.and_eq_true] at h
  rcases hk with hk | hk | hk | hk <;> simp [hk] at h <;> omega
theorem opRight_load {o : Oq} {n : Nat} (h : opRight o n = true) (hk : o.kind = 5 ∨ o.kind = 6) : 1 ≤ o.lk ∧ o.lk ≤ 6 ∧ (o.lk = 5 ∨ o.lk = 6 → 0 ≤ o.ls ∧ o.ls < (n : Int)) ∧ (o.lk = 6 → 0 ≤ o.lt) := by
  unfold opRight plOk at h
  rw [Bool.and_eq_true] at h
  rcases hk with hk | hk <;> simp [hk] at h <;> refine ⟨by omega, by omega, fun _ => by omega, fun _ => by omega⟩
theorem lock_nat {m : Mm} {o : Oq} (h : mayP m.pl o = true) (hk : o.kind = 1 ∨ o.kind = 2 ∨ o.kind = 3 ∨ o.kind = 4) (hl : m.locks.2.length = m.parts.2.length + 2) : ∃ n : Nat, o.lock = (n : Int) ∧ n < m.locks.2.length := by
  have := opRight_lock (mayP_right h) hk
  exact ⟨o.lock.toNat, by omega, by omega⟩
theorem rise_firm {w0 : World → Prop} {B B' : Nat} {w6 : World} {v : Value} {l : List Int} {who : Int} {a : Option Addr} {c : Nat} (h : (.slice a (riseP l who).length c = v ∧ riseP l who = l) ∨ w6.ownsRow B' 3 1 (.slice a (riseP l who).length c) (riseP l who).length ((riseP l who).flatMap inV)) (hB : B ≤ B') (hv : ∀ W, w0 W → ReadsL inV 1 W v l) : Firm w0 B w6 fun W => ReadsL inV 1 W (.slice a (riseP l who).length c) (riseP l who) := by
  rcases h with ⟨e1, e2⟩ | h
  · rw [e1, e2]; exact Firm.old hv
  · exact (Firm.own h hB).map fun W h => owns_readsL h
set_option maxHeartbeats 4000000 in
theorem memDo_clo (x who : Int) (B : Nat) (w : World) (c0 : w.cell? ⟨B, 0, none⟩ = some (.int .i64 who)) (hB : B < w.heap.size) :
    Calls Tryz.prog 46 #[.int .i64 x, .pointer (some ⟨B, 0, none⟩)] w fun e w' => e = .returned (.bool (decide (x = who))) ∧ Below w.heap.size w w' := by
  have hq : (x == who) = decide (x = who) := by by_cases h : x = who <;> simp [h]
  go_enter Tryz.func46, Tryz.ntmps46
  go_wp2_with fail
  go_ret
  exact ⟨by first | rfl | simp [hq] | (rw [← hq]), Below.refl _ _⟩
def zeroVm : Vm := ⟨0, zeroPe, (.slice none 0 0, []), (.slice none 0 0, [])⟩
theorem zeroVm_at (W : World) : VmAt W zeroVm := ⟨ReadsL.nil _ _ _ _ _, ReadsL.nil _ _ _ _ _⟩
end Go.Proofs.YtnplgagaoeckoaaGreat
namespace Go.Proofs.YtnplgagaoeckoaaGreat
open Go.RowKit

set_option maxRecDepth 100000 in
set_option maxHeartbeats 16000000 in
theorem memDo_no (w0 : World → Prop) (hg : Grows w0) (B : Nat) (m : Mm) (o : Oq) (who : Int) (w : World) (hb0 : w0 w) (hB : B ≤ w.heap.size) (hm : ∀ W, w0 W → MmAt W m) (ho : OqAt w o) (hmay : mayP m.pl o = false) :
    Calls Tryz.prog 14 #[.agg #[.int .i64 m.inn, .int .i64 m.out, m.bans.1, m.book.1, m.parts.1, m.locks.1], .agg #[.int .i64 o.kind, .int .i64 o.lock, .int .i64 o.lk, .int .i64 o.ls, .int .i64 o.lt, .int .i64 o.old, .int .i64 o.new, .int .i64 o.vn, .bool o.pe.en.ad.v6, .int .u64 o.pe.en.ad.hi, .int .u64 o.pe.en.ad.lo, .int .i64 o.pe.en.port, .bool o.pe.came, .int .i64 o.pe.since, .int .i64 o.pe.pts, .int .i64 o.pe.at_, .int .i64 o.pe.ping, .int .i64 o.pe.work, o.bans.1, o.book.1, .bool o.mark], .int .i64 who] w (GivesDo w0 B w (doP m.pl o who)) := by
  have hres : doP m.pl o who = (m.pl, zeroVp) := by unfold doP; exact if_pos hmay
  rw [hres]
  clear hres
  unfold GivesDo
  have h := hm w hb0
  have HM := Lib.hid hm; have HG := Lib.hid hg
  have HMAY := Lib.hid (fun (W : World) (hb : Below w.heap.size w W) => memMay_any m o who W (h.below hb) (ho.below hb))
  rw [hmay] at HMAY
  have HL := Lib.hid (fun (W : World) (hb : Below w.heap.size w W) => memLock_any m o.lock W (h.below hb))
  have HLK := Lib.hid (fun (W : World) (hW : w0 W) => lkOf_at (hm W hW) o.lock)
  
  obtain ⟨_, qa, qc, eq, _⟩ := ins_open (lkOf_at h o.lock)
  obtain ⟨a1, a2, a3, a4, c1, c2, c3, c4, e1, e2, e3, e4⟩ := mm_slices h
  obtain ⟨_, oa, oc, eo, _⟩ := ba_open ho.1
  obtain ⟨_, ka, kc, ek, _⟩ := ey_open ho.2
  have hmm : m = ⟨m.inn, m.out, (.slice a1 m.bans.2.length c1, m.bans.2), (.slice a2 m.book.2.length c2, m.book.2), (.slice a3 m.parts.2.length c3, m.parts.2), (.slice a4 m.locks.2.length c4, m.locks.2)⟩ := by rw [← e1, ← e2, ← e3, ← e4]
  have HMM := Lib.hid hmm
  have E1 := Lib.hid e1; have E2 := Lib.hid e2; have E3 := Lib.hid e3; have E4 := Lib.hid e4; have EQ := Lib.hid eq; have EO := Lib.hid eo; have EK := Lib.hid ek
  simp only [e1, e2, e3, e4, eo, ek, eq] at HMAY HL 
  rw [e1, e2, e3, e4, eo, ek]
  clear e1 e2 e3 e4 eo ek hmm eq
  obtain ⟨x0, hx0⟩ : ∃ x, x = m.inn := ⟨_, rfl⟩
  obtain ⟨x1, hx1⟩ : ∃ x, x = m.out := ⟨_, rfl⟩
  obtain ⟨n1, hn1⟩ : ∃ n, n = m.bans.2.length := ⟨_, rfl⟩
  obtain ⟨n2, hn2⟩ : ∃ n, n = m.book.2.length := ⟨_, rfl⟩
  obtain ⟨n3, hn3⟩ : ∃ n, n = m.parts.2.length := ⟨_, rfl⟩
  obtain ⟨n4, hn4⟩ : ∃ n, n = m.locks.2.length := ⟨_, rfl⟩
  obtain ⟨nb, hnb⟩ : ∃ n, n = o.bans.2.length := ⟨_, rfl⟩
  obtain ⟨nk, hnk⟩ : ∃ n, n = o.book.2.length := ⟨_, rfl⟩
  obtain ⟨qn, hqn⟩ : ∃ n, n = (lkOf m o.lock).l.length := ⟨_, rfl⟩
  obtain ⟨qb, hqb⟩ : ∃ n, n = (lkOf m o.lock).b := ⟨_, rfl⟩
  simp only [← hx0, ← hx1, ← hn1, ← hn2, ← hn3, ← hn4, ← hnb, ← hnk, ← hqn, ← hqb] at HMAY HL  ⊢
  rw [← hx0, ← hx1, ← hn1, ← hn2, ← hn3, ← hn4] at HMM
  have HX0 := Lib.hid hx0; have HX1 := Lib.hid hx1; have HN1 := Lib.hid hn1; have HN2 := Lib.hid hn2; have HN3 := Lib.hid hn3; have HN4 := Lib.hid hn4; have HNB := Lib.hid hnb; have HNK := Lib.hid hnk; have HQN := Lib.hid hqn; have HQB := Lib.hid hqb
  clear h ho hm hg hmay hx0 hx1 hn1 hn2 hn3 hn4 hnb hnk hqn hqb
  go_enter Tryz.func14, Tryz.ntmps14
  go_upto_region 1 with fail
  obtain ⟨W5, hW5⟩ : ∃ W5, W5 = ((((w.alloc (.cells #[.int .i64 x0, .int .i64 x1, .slice a1 n1 c1, .slice a2 n2 c2, .slice a3 n3 c3, .slice a4 n4 c4] 40)).alloc (.cells #[.int .i64 o.kind, .int .i64 o.lock, .int .i64 o.lk, .int .i64 o.ls, .int .i64 o.lt, .int .i64 o.old, .int .i64 o.new, .int .i64 o.vn, .bool o.pe.en.ad.v6, .int .u64 o.pe.en.ad.hi, .int .u64 o.pe.en.ad.lo, .int .i64 o.pe.en.port, .bool o.pe.came, .int .i64 o.pe.since, .int .i64 o.pe.pts, .int .i64 o.pe.at_, .int .i64 o.pe.ping, .int .i64 o.pe.work, .slice oa nb oc, .slice ka nk kc, .bool o.mark] 56)).alloc (.cells #[.int .i64 who] 3)).alloc (.cells #[.int .i64 0, .int .i64 0, .slice none 0 0, .slice none 0 0, .slice none 0 0, .slice none 0 0] 40)).alloc (.cells #[.int .i64 0, .bool false, .int .u64 0, .int .u64 0, .int .i64 0, .bool false, .int .i64 0, .int .i64 0, .int .i64 0, .int .i64 0, .int .i64 0, .slice none 0 0, .slice none 0 0] 54) := ⟨_, rfl⟩
  rw [← hW5]
  have B5 : Below w.heap.size w W5 := by subst hW5; exact bel
  have hBm : BlockIs W5 w.heap.size [.int .i64 x0, .int .i64 x1, .slice a1 n1 c1, .slice a2 n2 c2, .slice a3 n3 c3, .slice a4 n4 c4] 40 := by subst hW5; exact ((((BlockIs.new w [.int .i64 x0, .int .i64 x1, .slice a1 n1 c1, .slice a2 n2 c2, .slice a3 n3 c3, .slice a4 n4 c4] _).alloc' _).alloc' _).alloc' _).alloc' _
  have hBo : BlockIs W5 (w.heap.size + 1) [.int .i64 o.kind, .int .i64 o.lock, .int .i64 o.lk, .int .i64 o.ls, .int .i64 o.lt, .int .i64 o.old, .int .i64 o.new, .int .i64 o.vn, .bool o.pe.en.ad.v6, .int .u64 o.pe.en.ad.hi, .int .u64 o.pe.en.ad.lo, .int .i64 o.pe.en.port, .bool o.pe.came, .int .i64 o.pe.since, .int .i64 o.pe.pts, .int .i64 o.pe.at_, .int .i64 o.pe.ping, .int .i64 o.pe.work, .slice oa nb oc, .slice ka nk kc, .bool o.mark] 56 := by subst hW5; exact (((BlockIs.newAt' _ [.int .i64 o.kind, .int .i64 o.lock, .int .i64 o.lk, .int .i64 o.ls, .int .i64 o.lt, .int .i64 o.old, .int .i64 o.new, .int .i64 o.vn, .bool o.pe.en.ad.v6, .int .u64 o.pe.en.ad.hi, .int .u64 o.pe.en.ad.lo, .int .i64 o.pe.en.port, .bool o.pe.came, .int .i64 o.pe.since, .int .i64 o.pe.pts, .int .i64 o.pe.at_, .int .i64 o.pe.ping, .int .i64 o.pe.work, .slice oa nb oc, .slice ka nk kc, .bool o.mark] _ (by simp)).alloc' _).alloc' _).alloc' _
  have hBw : BlockIs W5 (w.heap.size + 1 + 1) [.int .i64 who] 3 := by subst hW5; exact ((BlockIs.newAt' _ [.int .i64 who] _ (by simp)).alloc' _).alloc' _
  have hBr : BlockIs W5 (w.heap.size + 1 + 1 + 1) [.int .i64 0, .int .i64 0, .slice none 0 0, .slice none 0 0, .slice none 0 0, .slice none 0 0] 40 := by subst hW5; exact (BlockIs.newAt' _ [.int .i64 0, .int .i64 0, .slice none 0 0, .slice none 0 0, .slice none 0 0, .slice none 0 0] _ (by simp)).alloc' _
  have hBv : BlockIs W5 (w.heap.size + 1 + 1 + 1 + 1) [.int .i64 0, .bool false, .int .u64 0, .int .u64 0, .int .i64 0, .bool false, .int .i64 0, .int .i64 0, .int .i64 0, .int .i64 0, .int .i64 0, .slice none 0 0, .slice none 0 0] 54 := by subst hW5; exact BlockIs.newAt' _ [.int .i64 0, .bool false, .int .u64 0, .int .u64 0, .int .i64 0, .bool false, .int .i64 0, .int .i64 0, .int .i64 0, .int .i64 0, .int .i64 0, .slice none 0 0, .slice none 0 0] _ (by simp)
  have hs5 : W5.heap.size = w.heap.size + 1 + 1 + 1 + 1 + 1 := by subst hW5; simp
  clear hW5
  have m0 := hBm.cell (i := 0) rfl; have m1 := hBm.cell (i := 1) rfl; have m2 := hBm.cell (i := 2) rfl; have m3 := hBm.cell (i := 3) rfl; have m4 := hBm.cell (i := 4) rfl; have m5 := hBm.cell (i := 5) rfl; have k0 := hBw.cell (i := 0) rfl
  have HBo := Lib.hid hBo
  go_wp2_with (first
    | (refine list_load_blk rfl 56 _ rfl (w.heap.size + 1) [.int .i64 o.kind, .int .i64 o.lock, .int .i64 o.lk, .int .i64 o.ls, .int .i64 o.lt, .int .i64 o.old, .int .i64 o.new, .int .i64 o.vn, .bool o.pe.en.ad.v6, .int .u64 o.pe.en.ad.hi, .int .u64 o.pe.en.ad.lo, .int .i64 o.pe.en.port, .bool o.pe.came, .int .i64 o.pe.since, .int .i64 o.pe.pts, .int .i64 o.pe.at_, .int .i64 o.pe.ping, .int .i64 o.pe.work, .slice oa nb oc, .slice ka nk kc, .bool o.mark] 56 hBo rfl Tryz.underlying56 (by kernel_rfl) ?_)
    | (go_at_call 12; (with_reducible refine (HMAY.out _ B5).mono ?_); rintro e w1 ⟨rfl, b1⟩; have z1 := b1.size; have B6 := below2 B5 b1; have hBm1 := hBm.below b1; have hBo1 := hBo.below b1; have hBw1 := hBw.below b1; have hBr1 := hBr.below b1; have hBv1 := hBv.below b1; clear m0 m1 m2 m3 m4 m5 k0; have m0 := hBm1.cell (i := 0) rfl; have m1 := hBm1.cell (i := 1) rfl; have m2 := hBm1.cell (i := 2) rfl; have m3 := hBm1.cell (i := 3) rfl; have m4 := hBm1.cell (i := 4) rfl; have m5 := hBm1.cell (i := 5) rfl; have mf := hBm1.frozen; have ml := hBm1.lt)
    | (refine list_store_blk rfl 40 _ _ rfl (w.heap.size + 1 + 1 + 1) _ _ 40 hBr1 rfl rfl (by kernel_rfl) rfl (by simp [Value.oneCell']) w.heap.size w B6 (by omega) ?_; intro w20 hR20 hoth20 hsz20 bw20)
    | (refine list_store_blk rfl 54 _ _ rfl (w.heap.size + 1 + 1 + 1 + 1) _ _ 54 (hoth20 _ _ _ (by omega) hBv1) rfl rfl (by kernel_rfl) rfl (by simp [Value.oneCell']) w.heap.size w bw20 (by omega) ?_; intro w21 hV21 hoth21 hsz21 bw21))
  have hR21 := hoth21 _ _ _ (by omega) hR20
  have e90 := hR21.cell (i := 0) rfl; have e91 := hR21.cell (i := 1) rfl; have e92 := hR21.cell (i := 2) rfl; have e93 := hR21.cell (i := 3) rfl; have e94 := hR21.cell (i := 4) rfl; have e95 := hR21.cell (i := 5) rfl; have f90 := hV21.cell (i := 0) rfl; have f91 := hV21.cell (i := 1) rfl; have f92 := hV21.cell (i := 2) rfl; have f93 := hV21.cell (i := 3) rfl; have f94 := hV21.cell (i := 4) rfl; have f95 := hV21.cell (i := 5) rfl; have f96 := hV21.cell (i := 6) rfl; have f97 := hV21.cell (i := 7) rfl; have f98 := hV21.cell (i := 8) rfl; have f99 := hV21.cell (i := 9) rfl; have f910 := hV21.cell (i := 10) rfl; have f911 := hV21.cell (i := 11) rfl; have f912 := hV21.cell (i := 12) rfl
  exact bodyPost_ret (v := .tuple #[.agg #[.int .i64 x0, .int .i64 x1, .slice a1 n1 c1, .slice a2 n2 c2, .slice a3 n3 c3, .slice a4 n4 c4], .agg #[.int .i64 0, .bool false, .int .u64 0, .int .u64 0, .int .i64 0, .bool false, .int .i64 0, .int .i64 0, .int .i64 0, .int .i64 0, .int .i64 0, .slice none 0 0, .slice none 0 0]]) (by simp [results, Tryz.results14, go_sem, e90, e91, e92, e93, e94, e95, f90, f91, f92, f93, f94, f95, f96, f97, f98, f99, f910, f911, f912]) rfl ⟨m, zeroVm, (by rw [HMM.out]; rfl), (Firm.old HM.out), (Firm.old fun W _ => zeroVm_at W), rfl, rfl, bw21⟩
end Go.Proofs.YtnplgagaoeckoaaGreat
namespace Go.Proofs.YtnplgagaoeckoaaGreat
open Go.RowKit

set_option maxRecDepth 100000 in
set_option maxHeartbeats 16000000 in
theorem memDo_1 (w0 : World → Prop) (hg : Grows w0) (B : Nat) (m : Mm) (o : Oq) (who : Int) (w : World) (hb0 : w0 w) (hB : B ≤ w.heap.size) (hm : ∀ W, w0 W → MmAt W m) (ho : OqAt w o) (hwho : 0 ≤ who ∧ who ≤ 100) (hmay : mayP m.pl o = true) (hk : o.kind = 1) (hll : m.locks.2.length = m.parts.2.length + 2) (hlen : m.locks.2.length ≤ 1000) :
    Calls Tryz.prog 14 #[.agg #[.int .i64 m.inn, .int .i64 m.out, m.bans.1, m.book.1, m.parts.1, m.locks.1], .agg #[.int .i64 o.kind, .int .i64 o.lock, .int .i64 o.lk, .int .i64 o.ls, .int .i64 o.lt, .int .i64 o.old, .int .i64 o.new, .int .i64 o.vn, .bool o.pe.en.ad.v6, .int .u64 o.pe.en.ad.hi, .int .u64 o.pe.en.ad.lo, .int .i64 o.pe.en.port, .bool o.pe.came, .int .i64 o.pe.since, .int .i64 o.pe.pts, .int .i64 o.pe.at_, .int .i64 o.pe.ping, .int .i64 o.pe.work, o.bans.1, o.book.1, .bool o.mark], .int .i64 who] w (GivesDo w0 B w (doP m.pl o who)) := by
  have hres : doP m.pl o who = (lockedP m.pl o.lock (who + 1, (lockP m.pl o.lock).2), zeroVp) := by unfold doP; rw [if_neg (by rw [hmay]; simp), if_pos hk]
  rw [hres]
  clear hres
  unfold GivesDo
  have h := hm w hb0
  have HM := Lib.hid hm; have HG := Lib.hid hg
  have HMAY := Lib.hid (fun (W : World) (hb : Below w.heap.size w W) => memMay_any m o who W (h.below hb) (ho.below hb))
  rw [hmay] at HMAY
  have HL := Lib.hid (fun (W : World) (hb : Below w.heap.size w W) => memLock_any m o.lock W (h.below hb))
  have HLK := Lib.hid (fun (W : World) (hW : w0 W) => lkOf_at (hm W hW) o.lock)
  obtain ⟨n, hln, hn⟩ := lock_nat hmay (by omega) hll
  have HLD := Lib.hid (fun (B' : Nat) (W : World) (k : Lk) (hW : B' ≤ W.heap.size) (hK : Firm w0 B' W fun W => ReadsL inV 1 W k.v k.l) (hb : Below w.heap.size w W) => mem_locked_in w0 hg B' m n k W (hg _ _ hb0 hb) hW hm hK hn hlen)
  have HN := Lib.hid hn
  obtain ⟨_, qa, qc, eq, _⟩ := ins_open (lkOf_at h o.lock)
  obtain ⟨a1, a2, a3, a4, c1, c2, c3, c4, e1, e2, e3, e4⟩ := mm_slices h
  obtain ⟨_, oa, oc, eo, _⟩ := ba_open ho.1
  obtain ⟨_, ka, kc, ek, _⟩ := ey_open ho.2
  have hmm : m = ⟨m.inn, m.out, (.slice a1 m.bans.2.length c1, m.bans.2), (.slice a2 m.book.2.length c2, m.book.2), (.slice a3 m.parts.2.length c3, m.parts.2), (.slice a4 m.locks.2.length c4, m.locks.2)⟩ := by rw [← e1, ← e2, ← e3, ← e4]
  have HMM := Lib.hid hmm
  have E1 := Lib.hid e1; have E2 := Lib.hid e2; have E3 := Lib.hid e3; have E4 := Lib.hid e4; have EQ := Lib.hid eq; have EO := Lib.hid eo; have EK := Lib.hid ek
  simp only [e1, e2, e3, e4, eo, ek, eq] at HMAY HL HLD
  rw [e1, e2, e3, e4, eo, ek]
  clear e1 e2 e3 e4 eo ek hmm eq
  obtain ⟨x0, hx0⟩ : ∃ x, x = m.inn := ⟨_, rfl⟩
  obtain ⟨x1, hx1⟩ : ∃ x, x = m.out := ⟨_, rfl⟩
  obtain ⟨n1, hn1⟩ : ∃ n, n = m.bans.2.length := ⟨_, rfl⟩
  obtain ⟨n2, hn2⟩ : ∃ n, n = m.book.2.length := ⟨_, rfl⟩
  obtain ⟨n3, hn3⟩ : ∃ n, n = m.parts.2.length := ⟨_, rfl⟩
  obtain ⟨n4, hn4⟩ : ∃ n, n = m.locks.2.length := ⟨_, rfl⟩
  obtain ⟨nb, hnb⟩ : ∃ n, n = o.bans.2.length := ⟨_, rfl⟩
  obtain ⟨nk, hnk⟩ : ∃ n, n = o.book.2.length := ⟨_, rfl⟩
  obtain ⟨qn, hqn⟩ : ∃ n, n = (lkOf m o.lock).l.length := ⟨_, rfl⟩
  obtain ⟨qb, hqb⟩ : ∃ n, n = (lkOf m o.lock).b := ⟨_, rfl⟩
  simp only [← hx0, ← hx1, ← hn1, ← hn2, ← hn3, ← hn4, ← hnb, ← hnk, ← hqn, ← hqb] at HMAY HL HLD ⊢
  rw [← hx0, ← hx1, ← hn1, ← hn2, ← hn3, ← hn4] at HMM
  simp only [hln, hk] at HMAY HL ⊢
  have HLN := Lib.hid hln
  have hwr : IntKind.i64.wrap (who + 1) = who + 1 := by rw [IntKind.wrap_i64]; omega
  have HX0 := Lib.hid hx0; have HX1 := Lib.hid hx1; have HN1 := Lib.hid hn1; have HN2 := Lib.hid hn2; have HN3 := Lib.hid hn3; have HN4 := Lib.hid hn4; have HNB := Lib.hid hnb; have HNK := Lib.hid hnk; have HQN := Lib.hid hqn; have HQB := Lib.hid hqb
  clear h ho hm hg hmay hx0 hx1 hn1 hn2 hn3 hn4 hnb hnk hqn hqb hk hll hlen hn hln hwho
  go_enter Tryz.func14, Tryz.ntmps14
  go_upto_region 1 with fail
  obtain ⟨W5, hW5⟩ : ∃ W5, W5 = ((((w.alloc (.cells #[.int .i64 x0, .int .i64 x1, .slice a1 n1 c1, .slice a2 n2 c2, .slice a3 n3 c3, .slice a4 n4 c4] 40)).alloc (.cells #[.int .i64 1, .int .i64 n, .int .i64 o.lk, .int .i64 o.ls, .int .i64 o.lt, .int .i64 o.old, .int .i64 o.new, .int .i64 o.vn, .bool o.pe.en.ad.v6, .int .u64 o.pe.en.ad.hi, .int .u64 o.pe.en.ad.lo, .int .i64 o.pe.en.port, .bool o.pe.came, .int .i64 o.pe.since, .int .i64 o.pe.pts, .int .i64 o.pe.at_, .int .i64 o.pe.ping, .int .i64 o.pe.work, .slice oa nb oc, .slice ka nk kc, .bool o.mark] 56)).alloc (.cells #[.int .i64 who] 3)).alloc (.cells #[.int .i64 0, .int .i64 0, .slice none 0 0, .slice none 0 0, .slice none 0 0, .slice none 0 0] 40)).alloc (.cells #[.int .i64 0, .bool false, .int .u64 0, .int .u64 0, .int .i64 0, .bool false, .int .i64 0, .int .i64 0, .int .i64 0, .int .i64 0, .int .i64 0, .slice none 0 0, .slice none 0 0] 54) := ⟨_, rfl⟩
  rw [← hW5]
  have B5 : Below w.heap.size w W5 := by subst hW5; exact bel
  have hBm : BlockIs W5 w.heap.size [.int .i64 x0, .int .i64 x1, .slice a1 n1 c1, .slice a2 n2 c2, .slice a3 n3 c3, .slice a4 n4 c4] 40 := by subst hW5; exact ((((BlockIs.new w [.int .i64 x0, .int .i64 x1, .slice a1 n1 c1, .slice a2 n2 c2, .slice a3 n3 c3, .slice a4 n4 c4] _).alloc' _).alloc' _).alloc' _).alloc' _
  have hBo : BlockIs W5 (w.heap.size + 1) [.int .i64 1, .int .i64 n, .int .i64 o.lk, .int .i64 o.ls, .int .i64 o.lt, .int .i64 o.old, .int .i64 o.new, .int .i64 o.vn, .bool o.pe.en.ad.v6, .int .u64 o.pe.en.ad.hi, .int .u64 o.pe.en.ad.lo, .int .i64 o.pe.en.port, .bool o.pe.came, .int .i64 o.pe.since, .int .i64 o.pe.pts, .int .i64 o.pe.at_, .int .i64 o.pe.ping, .int .i64 o.pe.work, .slice oa nb oc, .slice ka nk kc, .bool o.mark] 56 := by subst hW5; exact (((BlockIs.newAt' _ [.int .i64 1, .int .i64 n, .int .i64 o.lk, .int .i64 o.ls, .int .i64 o.lt, .int .i64 o.old, .int .i64 o.new, .int .i64 o.vn, .bool o.pe.en.ad.v6, .int .u64 o.pe.en.ad.hi, .int .u64 o.pe.en.ad.lo, .int .i64 o.pe.en.port, .bool o.pe.came, .int .i64 o.pe.since, .int .i64 o.pe.pts, .int .i64 o.pe.at_, .int .i64 o.pe.ping, .int .i64 o.pe.work, .slice oa nb oc, .slice ka nk kc, .bool o.mark] _ (by simp)).alloc' _).alloc' _).alloc' _
  have hBw : BlockIs W5 (w.heap.size + 1 + 1) [.int .i64 who] 3 := by subst hW5; exact ((BlockIs.newAt' _ [.int .i64 who] _ (by simp)).alloc' _).alloc' _
  have hBr : BlockIs W5 (w.heap.size + 1 + 1 + 1) [.int .i64 0, .int .i64 0, .slice none 0 0, .slice none 0 0, .slice none 0 0, .slice none 0 0] 40 := by subst hW5; exact (BlockIs.newAt' _ [.int .i64 0, .int .i64 0, .slice none 0 0, .slice none 0 0, .slice none 0 0, .slice none 0 0] _ (by simp)).alloc' _
  have hBv : BlockIs W5 (w.heap.size + 1 + 1 + 1 + 1) [.int .i64 0, .bool false, .int .u64 0, .int .u64 0, .int .i64 0, .bool false, .int .i64 0, .int .i64 0, .int .i64 0, .int .i64 0, .int .i64 0, .slice none 0 0, .slice none 0 0] 54 := by subst hW5; exact BlockIs.newAt' _ [.int .i64 0, .bool false, .int .u64 0, .int .u64 0, .int .i64 0, .bool false, .int .i64 0, .int .i64 0, .int .i64 0, .int .i64 0, .int .i64 0, .slice none 0 0, .slice none 0 0] _ (by simp)
  have hs5 : W5.heap.size = w.heap.size + 1 + 1 + 1 + 1 + 1 := by subst hW5; simp
  clear hW5
  have m0 := hBm.cell (i := 0) rfl; have m1 := hBm.cell (i := 1) rfl; have m2 := hBm.cell (i := 2) rfl; have m3 := hBm.cell (i := 3) rfl; have m4 := hBm.cell (i := 4) rfl; have m5 := hBm.cell (i := 5) rfl; have k0 := hBw.cell (i := 0) rfl
  have HBo := Lib.hid hBo
  go_upto_region 4 with (first
    | (refine list_load_blk rfl 56 _ rfl (w.heap.size + 1) [.int .i64 1, .int .i64 n, .int .i64 o.lk, .int .i64 o.ls, .int .i64 o.lt, .int .i64 o.old, .int .i64 o.new, .int .i64 o.vn, .bool o.pe.en.ad.v6, .int .u64 o.pe.en.ad.hi, .int .u64 o.pe.en.ad.lo, .int .i64 o.pe.en.port, .bool o.pe.came, .int .i64 o.pe.since, .int .i64 o.pe.pts, .int .i64 o.pe.at_, .int .i64 o.pe.ping, .int .i64 o.pe.work, .slice oa nb oc, .slice ka nk kc, .bool o.mark] 56 hBo rfl Tryz.underlying56 (by kernel_rfl) ?_)
    | (go_at_call 12; (with_reducible refine (HMAY.out _ B5).mono ?_); rintro e w1 ⟨rfl, b1⟩; have z1 := b1.size; have B6 := below2 B5 b1; have hBm1 := hBm.below b1; have hBo1 := hBo.below b1; have hBw1 := hBw.below b1; have hBr1 := hBr.below b1; have hBv1 := hBv.below b1; clear m0 m1 m2 m3 m4 m5 k0; have m0 := hBm1.cell (i := 0) rfl; have m1 := hBm1.cell (i := 1) rfl; have m2 := hBm1.cell (i := 2) rfl; have m3 := hBm1.cell (i := 3) rfl; have m4 := hBm1.cell (i := 4) rfl; have m5 := hBm1.cell (i := 5) rfl; have mf := hBm1.frozen; have ml := hBm1.lt; have o0 := hBo1.cell (i := 0) rfl; have o1 := hBo1.cell (i := 1) rfl)
    | (go_at_call 39; (with_reducible refine (HL.out _ B6).mono ?_); rintro e w2 ⟨rfl, b2⟩; have z2 := b2.size; have B7 := below2 B6 b2; have hBm2 := hBm1.below b2; have hBo2 := hBo1.below b2; have hBw2 := hBw1.below b2; have hBr2 := hBr1.below b2; have hBv2 := hBv1.below b2; clear m0 m1 m2 m3 m4 m5 mf ml o0 o1))
  obtain ⟨W3, hW3⟩ : ∃ W3, W3 = w2.alloc (.cells #[.int .i64 qb, .slice qa qn qc] 90) := ⟨_, rfl⟩
  rw [← hW3]
  have B8 : Below w.heap.size w W3 := by subst hW3; exact B7.alloc B7.size _
  have hBm3 : BlockIs W3 w.heap.size [.int .i64 x0, .int .i64 x1, .slice a1 n1 c1, .slice a2 n2 c2, .slice a3 n3 c3, .slice a4 n4 c4] 40 := by subst hW3; exact hBm2.alloc' _
  have hBo3 : BlockIs W3 (w.heap.size + 1) [.int .i64 1, .int .i64 n, .int .i64 o.lk, .int .i64 o.ls, .int .i64 o.lt, .int .i64 o.old, .int .i64 o.new, .int .i64 o.vn, .bool o.pe.en.ad.v6, .int .u64 o.pe.en.ad.hi, .int .u64 o.pe.en.ad.lo, .int .i64 o.pe.en.port, .bool o.pe.came, .int .i64 o.pe.since, .int .i64 o.pe.pts, .int .i64 o.pe.at_, .int .i64 o.pe.ping, .int .i64 o.pe.work, .slice oa nb oc, .slice ka nk kc, .bool o.mark] 56 := by subst hW3; exact hBo2.alloc' _
  have hBw3 : BlockIs W3 (w.heap.size + 1 + 1) [.int .i64 who] 3 := by subst hW3; exact hBw2.alloc' _
  have hBr3 : BlockIs W3 (w.heap.size + 1 + 1 + 1) [.int .i64 0, .int .i64 0, .slice none 0 0, .slice none 0 0, .slice none 0 0, .slice none 0 0] 40 := by subst hW3; exact hBr2.alloc' _
  have hBv3 : BlockIs W3 (w.heap.size + 1 + 1 + 1 + 1) [.int .i64 0, .bool false, .int .u64 0, .int .u64 0, .int .i64 0, .bool false, .int .i64 0, .int .i64 0, .int .i64 0, .int .i64 0, .int .i64 0, .slice none 0 0, .slice none 0 0] 54 := by subst hW3; exact hBv2.alloc' _
  have hBl3 : BlockIs W3 w2.heap.size [.int .i64 qb, .slice qa qn qc] 90 := by subst hW3; exact BlockIs.new w2 [.int .i64 qb, .slice qa qn qc] _
  have hs3 : W3.heap.size = w2.heap.size + 1 := by subst hW3; exact World.size_alloc _ _
  have hz3 : w.heap.size + 1 + 1 + 1 + 1 + 1 ≤ w2.heap.size := by omega
  clear hW3 hBm1 hBo1 hBw1 hBr1 hBv1 hBm2 hBo2 hBw2 hBr2 hBv2 hBm hBw hBr hBv hBo
  have m0 := hBm3.cell (i := 0) rfl; have m1 := hBm3.cell (i := 1) rfl; have m2 := hBm3.cell (i := 2) rfl; have m3 := hBm3.cell (i := 3) rfl; have m4 := hBm3.cell (i := 4) rfl; have m5 := hBm3.cell (i := 5) rfl; have mf := hBm3.frozen; have ml := hBm3.lt; have o0 := hBo3.cell (i := 0) rfl; have o1 := hBo3.cell (i := 1) rfl; have k0 := hBw3.cell (i := 0) rfl; have l0 := hBl3.cell (i := 0) rfl; have l1 := hBl3.cell (i := 1) rfl; have lf := hBl3.frozen; have ll := hBl3.lt
  go_wp2_with (first
    | (go_at_call 42; (with_reducible refine (HLD.out (w2.heap.size + 1) _ ⟨who + 1, .slice qa qn qc, (lkOf m o.lock).l⟩ (by first | omega | (simp; omega)) (by rw [HQN.out, ← EQ.out]; exact Firm.old fun W hW => HLK.out W hW) B8).mono ?_); rintro e w7 ⟨v7, rfl, hM7, b7⟩; have HM7 := Lib.hid hM7; have z7 := b7.size; have B9 := below2 B8 b7; obtain ⟨_, a6, c6, e6, _⟩ := lks_open (hM7.now (HG.out _ _ hb0 B9)).2.2.2.1; simp only [List.length_set] at e6; rw [← HN4.out] at e6; have E6 := Lib.hid e6; subst e6; have hBr7 := hBr3.below b7; have hBv7 := hBv3.below b7)
    | (refine list_store_blk rfl 40 _ _ rfl (w.heap.size + 1 + 1 + 1) _ _ 40 hBr7 rfl rfl (by kernel_rfl) rfl (by simp [Value.oneCell']) w.heap.size w B9 (by omega) ?_; intro w20 hR20 hoth20 hsz20 bw20)
    | (refine list_store_blk rfl 54 _ _ rfl (w.heap.size + 1 + 1 + 1 + 1) _ _ 54 (hoth20 _ _ _ (by omega) hBv7) rfl rfl (by kernel_rfl) rfl (by simp [Value.oneCell']) w.heap.size w bw20 (by omega) ?_; intro w21 hV21 hoth21 hsz21 bw21))
  have hR21 := hoth21 _ _ _ (by omega) hR20
  have HF := Lib.hid ((Firm.keep HM7.out (fun g arr T h1 hb => hoth21 _ _ _ (by omega) (hoth20 _ _ _ (by omega) hb))).from (by omega : B ≤ w2.heap.size + 1))
  have e90 := hR21.cell (i := 0) rfl; have e91 := hR21.cell (i := 1) rfl; have e92 := hR21.cell (i := 2) rfl; have e93 := hR21.cell (i := 3) rfl; have e94 := hR21.cell (i := 4) rfl; have e95 := hR21.cell (i := 5) rfl; have f90 := hV21.cell (i := 0) rfl; have f91 := hV21.cell (i := 1) rfl; have f92 := hV21.cell (i := 2) rfl; have f93 := hV21.cell (i := 3) rfl; have f94 := hV21.cell (i := 4) rfl; have f95 := hV21.cell (i := 5) rfl; have f96 := hV21.cell (i := 6) rfl; have f97 := hV21.cell (i := 7) rfl; have f98 := hV21.cell (i := 8) rfl; have f99 := hV21.cell (i := 9) rfl; have f910 := hV21.cell (i := 10) rfl; have f911 := hV21.cell (i := 11) rfl; have f912 := hV21.cell (i := 12) rfl
  exact bodyPost_ret (v := .tuple #[.agg #[.int .i64 x0, .int .i64 x1, .slice a1 n1 c1, .slice a2 n2 c2, .slice a3 n3 c3, .slice a6 n4 c6], .agg #[.int .i64 0, .bool false, .int .u64 0, .int .u64 0, .int .i64 0, .bool false, .int .i64 0, .int .i64 0, .int .i64 0, .int .i64 0, .int .i64 0, .slice none 0 0, .slice none 0 0]]) (by simp [results, Tryz.results14, go_sem, e90, e91, e92, e93, e94, e95, f90, f91, f92, f93, f94, f95, f96, f97, f98, f99, f910, f911, f912]) rfl ⟨⟨x0, x1, m.bans, m.book, m.parts, (.slice a6 n4 c6, m.locks.2.set n ⟨who + 1, .slice qa qn qc, (lkOf m o.lock).l⟩)⟩, zeroVm, (by first | (simp only [E1.out, E2.out, E3.out, ← HN1.out, ← HN2.out, ← HN3.out]; done) | (simp only [E1.out, E2.out, E3.out, ← HN1.out, ← HN2.out, ← HN3.out]; rfl)), (by rw [HX0.out, HX1.out]; exact HF.out), (Firm.old fun W _ => zeroVm_at W), (by rw [← HLN.out, lkOf_pl]; unfold Mm.pl lockedP setAt; simp only [HLN.out, if_pos (Int.natCast_nonneg n), Int.toNat_natCast, List.map_set, HX0.out, HX1.out]), rfl, bw21⟩
end Go.Proofs.YtnplgagaoeckoaaGreat
namespace Go.Proofs.YtnplgagaoeckoaaGreat
open Go.RowKit
set_option linter.unusedSimpArgs false
set_option linter.unusedVariables false

set_option maxRecDepth 100000 in
set_option maxHeartbeats 16000000 in
theorem memDo_2 (w0 : World → Prop) (hg : Grows w0) (B : Nat) (m : Mm) (o : Oq) (who : Int) (w : World) (hb0 : w0 w) (hB : B ≤ w.heap.size) (hm : ∀ W, w0 W → MmAt W m) (ho : OqAt w o) (hwho : 0 ≤ who ∧ who ≤ 100) (hmay : mayP m.pl o = true) (hk : o.kind = 2) (hll : m.locks.2.length = m.parts.2.length + 2) (hlen : m.locks.2.length ≤ 1000) (hok : ∀ k ∈ m.pl.locks, k.2.Pairwise (· < ·)) (hql : (lkOf m o.lock).l.length ≤ 1000) :
    Calls Tryz.prog 14 #[.agg #[.int .i64 m.inn, .int .i64 m.out, m.bans.1, m.book.1, m.parts.1, m.locks.1], .agg #[.int .i64 o.kind, .int .i64 o.lock, .int .i64 o.lk, .int .i64 o.ls, .int .i64 o.lt, .int .i64 o.old, .int .i64 o.new, .int .i64 o.vn, .bool o.pe.en.ad.v6, .int .u64 o.pe.en.ad.hi, .int .u64 o.pe.en.ad.lo, .int .i64 o.pe.en.port, .bool o.pe.came, .int .i64 o.pe.since, .int .i64 o.pe.pts, .int .i64 o.pe.at_, .int .i64 o.pe.ping, .int .i64 o.pe.work, o.bans.1, o.book.1, .bool o.mark], .int .i64 who] w (GivesDo w0 B w (doP m.pl o who)) := by
  have hres : doP m.pl o who = (lockedP m.pl o.lock ((lockP m.pl o.lock).1, riseP (lockP m.pl o.lock).2 who), zeroVp) := by unfold doP; rw [if_neg (by rw [hmay]; simp), if_neg (by omega), if_pos hk]
  rw [hres]
  clear hres
  unfold GivesDo
  have h := hm w hb0
  have HM := Lib.hid hm; have HG := Lib.hid hg
  have HMAY := Lib.hid (fun (W : World) (hb : Below w.heap.size w W) => memMay_any m o who W (h.below hb) (ho.below hb))
  rw [hmay] at HMAY
  have HL := Lib.hid (fun (W : World) (hb : Below w.heap.size w W) => memLock_any m o.lock W (h.below hb))
  have HLK := Lib.hid (fun (W : World) (hW : w0 W) => lkOf_at (hm W hW) o.lock)
  obtain ⟨n, hln, hn⟩ := lock_nat hmay (by omega) hll
  have HLD := Lib.hid (fun (B' : Nat) (W : World) (k : Lk) (hW : B' ≤ W.heap.size) (hK : Firm w0 B' W fun W => ReadsL inV 1 W k.v k.l) (hb : Below w.heap.size w W) => mem_locked_in w0 hg B' m n k W (hg _ _ hb0 hb) hW hm hK hn hlen)
  have HN := Lib.hid hn
  have hsq : (lkOf m o.lock).l.Pairwise (· < ·) := by
    rcases getAt_mem (l := m.pl.locks) (k := o.lock) (d := ((0 : Int), ([] : List Int))) with e | e
    · have := hok _ e; rw [show getAt m.pl.locks o.lock (0, []) = lockP m.pl o.lock from rfl, lkOf_pl] at this; exact this
    · rw [show getAt m.pl.locks o.lock (0, []) = lockP m.pl o.lock from rfl, lkOf_pl] at e; rw [(Prod.mk.inj e).2]; exact List.Pairwise.nil
  have HSH := Lib.hid (fun (W : World) (hb : Below w.heap.size w W) => memShared_any (lkOf m o.lock).v (lkOf m o.lock).l who W (ReadsL.below (lkOf_at h o.lock) hb) hsq hql)
  obtain ⟨_, qa, qc, eq, _⟩ := ins_open (lkOf_at h o.lock)
  obtain ⟨a1, a2, a3, a4, c1, c2, c3, c4, e1, e2, e3, e4⟩ := mm_slices h
  obtain ⟨_, oa, oc, eo, _⟩ := ba_open ho.1
  obtain ⟨_, ka, kc, ek, _⟩ := ey_open ho.2
  have hmm : m = ⟨m.inn, m.out, (.slice a1 m.bans.2.length c1, m.bans.2), (.slice a2 m.book.2.length c2, m.book.2), (.slice a3 m.parts.2.length c3, m.parts.2), (.slice a4 m.locks.2.length c4, m.locks.2)⟩ := by rw [← e1, ← e2, ← e3, ← e4]
  have HMM := Lib.hid hmm
  have E1 := Lib.hid e1; have E2 := Lib.hid e2; have E3 := Lib.hid e3; have E4 := Lib.hid e4; have EQ := Lib.hid eq; have EO := Lib.hid eo; have EK := Lib.hid ek
  simp only [e1, e2, e3, e4, eo, ek, eq] at HMAY HL HLD HSH
  rw [e1, e2, e3, e4, eo, ek]
  clear e1 e2 e3 e4 eo ek hmm eq
  obtain ⟨x0, hx0⟩ : ∃ x, x = m.inn := ⟨_, rfl⟩
  obtain ⟨x1, hx1⟩ : ∃ x, x = m.out := ⟨_, rfl⟩
  obtain ⟨n1, hn1⟩ : ∃ n, n = m.bans.2.length := ⟨_, rfl⟩
  obtain ⟨n2, hn2⟩ : ∃ n, n = m.book.2.length := ⟨_, rfl⟩
  obtain ⟨n3, hn3⟩ : ∃ n, n = m.parts.2.length := ⟨_, rfl⟩
  obtain ⟨n4, hn4⟩ : ∃ n, n = m.locks.2.length := ⟨_, rfl⟩
  obtain ⟨nb, hnb⟩ : ∃ n, n = o.bans.2.length := ⟨_, rfl⟩
  obtain ⟨nk, hnk⟩ : ∃ n, n = o.book.2.length := ⟨_, rfl⟩
  obtain ⟨qn, hqn⟩ : ∃ n, n = (lkOf m o.lock).l.length := ⟨_, rfl⟩
  obtain ⟨qb, hqb⟩ : ∃ n, n = (lkOf m o.lock).b := ⟨_, rfl⟩
  simp only [← hx0, ← hx1, ← hn1, ← hn2, ← hn3, ← hn4, ← hnb, ← hnk, ← hqn, ← hqb] at HMAY HL HLD HSH ⊢
  rw [← hx0, ← hx1, ← hn1, ← hn2, ← hn3, ← hn4] at HMM
  simp only [hln, hk] at HMAY HL ⊢
  have HLN := Lib.hid hln
  have hwr : IntKind.i64.wrap (who + 1) = who + 1 := by rw [IntKind.wrap_i64]; omega
  have HX0 := Lib.hid hx0; have HX1 := Lib.hid hx1; have HN1 := Lib.hid hn1; have HN2 := Lib.hid hn2; have HN3 := Lib.hid hn3; have HN4 := Lib.hid hn4; have HNB := Lib.hid hnb; have HNK := Lib.hid hnk; have HQN := Lib.hid hqn; have HQB := Lib.hid hqb
  clear h ho hm hg hmay hx0 hx1 hn1 hn2 hn3 hn4 hnb hnk hqn hqb hk hll hlen hn hln hwho hok hql hsq
  go_enter Tryz.func14, Tryz.ntmps14
  go_upto_region 1 with fail
  obtain ⟨W5, hW5⟩ : ∃ W5, W5 = ((((w.alloc (.cells #[.int .i64 x0, .int .i64 x1, .slice a1 n1 c1, .slice a2 n2 c2, .slice a3 n3 c3, .slice a4 n4 c4] 40)).alloc (.cells #[.int .i64 2, .int .i64 n, .int .i64 o.lk, .int .i64 o.ls, .int .i64 o.lt, .int .i64 o.old, .int .i64 o.new, .int .i64 o.vn, .bool o.pe.en.ad.v6, .int .u64 o.pe.en.ad.hi, .int .u64 o.pe.en.ad.lo, .int .i64 o.pe.en.port, .bool o.pe.came, .int .i64 o.pe.since, .int .i64 o.pe.pts, .int .i64 o.pe.at_, .int .i64 o.pe.ping, .int .i64 o.pe.work, .slice oa nb oc, .slice ka nk kc, .bool o.mark] 56)).alloc (.cells #[.int .i64 who] 3)).alloc (.cells #[.int .i64 0, .int .i64 0, .slice none 0 0, .slice none 0 0, .slice none 0 0, .slice none 0 0] 40)).alloc (.cells #[.int .i64 0, .bool false, .int .u64 0, .int .u64 0, .int .i64 0, .bool false, .int .i64 0, .int .i64 0, .int .i64 0, .int .i64 0, .int .i64 0, .slice none 0 0, .slice none 0 0] 54) := ⟨_, rfl⟩
  rw [← hW5]
  have B5 : Below w.heap.size w W5 := by subst hW5; exact bel
  have hBm : BlockIs W5 w.heap.size [.int .i64 x0, .int .i64 x1, .slice a1 n1 c1, .slice a2 n2 c2, .slice a3 n3 c3, .slice a4 n4 c4] 40 := by subst hW5; exact ((((BlockIs.new w [.int .i64 x0, .int .i64 x1, .slice a1 n1 c1, .slice a2 n2 c2, .slice a3 n3 c3, .slice a4 n4 c4] _).alloc' _).alloc' _).alloc' _).alloc' _
  have hBo : BlockIs W5 (w.heap.size + 1) [.int .i64 2, .int .i64 n, .int .i64 o.lk, .int .i64 o.ls, .int .i64 o.lt, .int .i64 o.old, .int .i64 o.new, .int .i64 o.vn, .bool o.pe.en.ad.v6, .int .u64 o.pe.en.ad.hi, .int .u64 o.pe.en.ad.lo, .int .i64 o.pe.en.port, .bool o.pe.came, .int .i64 o.pe.since, .int .i64 o.pe.pts, .int .i64 o.pe.at_, .int .i64 o.pe.ping, .int .i64 o.pe.work, .slice oa nb oc, .slice ka nk kc, .bool o.mark] 56 := by subst hW5; exact (((BlockIs.newAt' _ [.int .i64 2, .int .i64 n, .int .i64 o.lk, .int .i64 o.ls, .int .i64 o.lt, .int .i64 o.old, .int .i64 o.new, .int .i64 o.vn, .bool o.pe.en.ad.v6, .int .u64 o.pe.en.ad.hi, .int .u64 o.pe.en.ad.lo, .int .i64 o.pe.en.port, .bool o.pe.came, .int .i64 o.pe.since, .int .i64 o.pe.pts, .int .i64 o.pe.at_, .int .i64 o.pe.ping, .int .i64 o.pe.work, .slice oa nb oc, .slice ka nk kc, .bool o.mark] _ (by simp)).alloc' _).alloc' _).alloc' _
  have hBw : BlockIs W5 (w.heap.size + 1 + 1) [.int .i64 who] 3 := by subst hW5; exact ((BlockIs.newAt' _ [.int .i64 who] _ (by simp)).alloc' _).alloc' _
  have hBr : BlockIs W5 (w.heap.size + 1 + 1 + 1) [.int .i64 0, .int .i64 0, .slice none 0 0, .slice none 0 0, .slice none 0 0, .slice none 0 0] 40 := by subst hW5; exact (BlockIs.newAt' _ [.int .i64 0, .int .i64 0, .slice none 0 0, .slice none 0 0, .slice none 0 0, .slice none 0 0] _ (by simp)).alloc' _
  have hBv : BlockIs W5 (w.heap.size + 1 + 1 + 1 + 1) [.int .i64 0, .bool false, .int .u64 0, .int .u64 0, .int .i64 0, .bool false, .int .i64 0, .int .i64 0, .int .i64 0, .int .i64 0, .int .i64 0, .slice none 0 0, .slice none 0 0] 54 := by subst hW5; exact BlockIs.newAt' _ [.int .i64 0, .bool false, .int .u64 0, .int .u64 0, .int .i64 0, .bool false, .int .i64 0, .int .i64 0, .int .i64 0, .int .i64 0, .int .i64 0, .slice none 0 0, .slice none 0 0] _ (by simp)
  have hs5 : W5.heap.size = w.heap.size + 1 + 1 + 1 + 1 + 1 := by subst hW5; simp
  clear hW5
  have m0 := hBm.cell (i := 0) rfl; have m1 := hBm.cell (i := 1) rfl; have m2 := hBm.cell (i := 2) rfl; have m3 := hBm.cell (i := 3) rfl; have m4 := hBm.cell (i := 4) rfl; have m5 := hBm.cell (i := 5) rfl; have k0 := hBw.cell (i := 0) rfl
  have HBo := Lib.hid hBo
  go_upto_region 4 with (first
    | (refine list_load_blk rfl 56 _ rfl (w.heap.size + 1) [.int .i64 2, .int .i64 n, .int .i64 o.lk, .int .i64 o.ls, .int .i64 o.lt, .int .i64 o.old, .int .i64 o.new, .int .i64 o.vn, .bool o.pe.en.ad.v6, .int .u64 o.pe.en.ad.hi, .int .u64 o.pe.en.ad.lo, .int .i64 o.pe.en.port, .bool o.pe.came, .int .i64 o.pe.since, .int .i64 o.pe.pts, .int .i64 o.pe.at_, .int .i64 o.pe.ping, .int .i64 o.pe.work, .slice oa nb oc, .slice ka nk kc, .bool o.mark] 56 hBo rfl Tryz.underlying56 (by kernel_rfl) ?_)
    | (go_at_call 12; (with_reducible refine (HMAY.out _ B5).mono ?_); rintro e w1 ⟨rfl, b1⟩; have z1 := b1.size; have B6 := below2 B5 b1; have hBm1 := hBm.below b1; have hBo1 := hBo.below b1; have hBw1 := hBw.below b1; have hBr1 := hBr.below b1; have hBv1 := hBv.below b1; clear m0 m1 m2 m3 m4 m5 k0; have m0 := hBm1.cell (i := 0) rfl; have m1 := hBm1.cell (i := 1) rfl; have m2 := hBm1.cell (i := 2) rfl; have m3 := hBm1.cell (i := 3) rfl; have m4 := hBm1.cell (i := 4) rfl; have m5 := hBm1.cell (i := 5) rfl; have mf := hBm1.frozen; have ml := hBm1.lt; have o0 := hBo1.cell (i := 0) rfl; have o1 := hBo1.cell (i := 1) rfl)
    | (go_at_call 39; (with_reducible refine (HL.out _ B6).mono ?_); rintro e w2 ⟨rfl, b2⟩; have z2 := b2.size; have B7 := below2 B6 b2; have hBm2 := hBm1.below b2; have hBo2 := hBo1.below b2; have hBw2 := hBw1.below b2; have hBr2 := hBr1.below b2; have hBv2 := hBv1.below b2; clear m0 m1 m2 m3 m4 m5 mf ml o0 o1))
  obtain ⟨W3, hW3⟩ : ∃ W3, W3 = w2.alloc (.cells #[.int .i64 qb, .slice qa qn qc] 90) := ⟨_, rfl⟩
  rw [← hW3]
  have B8 : Below w.heap.size w W3 := by subst hW3; exact B7.alloc B7.size _
  have hBm3 : BlockIs W3 w.heap.size [.int .i64 x0, .int .i64 x1, .slice a1 n1 c1, .slice a2 n2 c2, .slice a3 n3 c3, .slice a4 n4 c4] 40 := by subst hW3; exact hBm2.alloc' _
  have hBo3 : BlockIs W3 (w.heap.size + 1) [.int .i64 2, .int .i64 n, .int .i64 o.lk, .int .i64 o.ls, .int .i64 o.lt, .int .i64 o.old, .int .i64 o.new, .int .i64 o.vn, .bool o.pe.en.ad.v6, .int .u64 o.pe.en.ad.hi, .int .u64 o.pe.en.ad.lo, .int .i64 o.pe.en.port, .bool o.pe.came, .int .i64 o.pe.since, .int .i64 o.pe.pts, .int .i64 o.pe.at_, .int .i64 o.pe.ping, .int .i64 o.pe.work, .slice oa nb oc, .slice ka nk kc, .bool o.mark] 56 := by subst hW3; exact hBo2.alloc' _
  have hBw3 : BlockIs W3 (w.heap.size + 1 + 1) [.int .i64 who] 3 := by subst hW3; exact hBw2.alloc' _
  have hBr3 : BlockIs W3 (w.heap.size + 1 + 1 + 1) [.int .i64 0, .int .i64 0, .slice none 0 0, .slice none 0 0, .slice none 0 0, .slice none 0 0] 40 := by subst hW3; exact hBr2.alloc' _
  have hBv3 : BlockIs W3 (w.heap.size + 1 + 1 + 1 + 1) [.int .i64 0, .bool false, .int .u64 0, .int .u64 0, .int .i64 0, .bool false, .int .i64 0, .int .i64 0, .int .i64 0, .int .i64 0, .int .i64 0, .slice none 0 0, .slice none 0 0] 54 := by subst hW3; exact hBv2.alloc' _
  have hBl3 : BlockIs W3 w2.heap.size [.int .i64 qb, .slice qa qn qc] 90 := by subst hW3; exact BlockIs.new w2 [.int .i64 qb, .slice qa qn qc] _
  have hs3 : W3.heap.size = w2.heap.size + 1 := by subst hW3; exact World.size_alloc _ _
  have hz3 : w.heap.size + 1 + 1 + 1 + 1 + 1 ≤ w2.heap.size := by omega
  clear hW3 hBm1 hBo1 hBw1 hBr1 hBv1 hBm2 hBo2 hBw2 hBr2 hBv2 hBm hBw hBr hBv hBo
  have m0 := hBm3.cell (i := 0) rfl; have m1 := hBm3.cell (i := 1) rfl; have m2 := hBm3.cell (i := 2) rfl; have m3 := hBm3.cell (i := 3) rfl; have m4 := hBm3.cell (i := 4) rfl; have m5 := hBm3.cell (i := 5) rfl; have mf := hBm3.frozen; have ml := hBm3.lt; have o0 := hBo3.cell (i := 0) rfl; have o1 := hBo3.cell (i := 1) rfl; have k0 := hBw3.cell (i := 0) rfl; have l0 := hBl3.cell (i := 0) rfl; have l1 := hBl3.cell (i := 1) rfl; have lf := hBl3.frozen; have ll := hBl3.lt
  go_upto_region 8 with fail
  refine wp_region_noPanic ?_
  have hS0 : (fun wq => wq.cell? ⟨w.heap.size, 0, none⟩ = some (.int .i64 x0) ∧ wq.cell? ⟨w.heap.size, 1, none⟩ = some (.int .i64 x1) ∧ wq.cell? ⟨w.heap.size, 2, none⟩ = some (.slice a1 n1 c1) ∧ wq.cell? ⟨w.heap.size, 3, none⟩ = some (.slice a2 n2 c2) ∧ wq.cell? ⟨w.heap.size, 4, none⟩ = some (.slice a3 n3 c3) ∧ wq.cell? ⟨w.heap.size, 5, none⟩ = some (.slice a4 n4 c4) ∧ wq.cell? ⟨w.heap.size + 1, 1, none⟩ = some (.int .i64 n) ∧ wq.cell? ⟨w.heap.size + 1 + 1, 0, none⟩ = some (.int .i64 who) ∧ wq.cell? ⟨w2.heap.size, 0, none⟩ = some (.int .i64 qb) ∧ wq.cell? ⟨w2.heap.size, 1, none⟩ = some (.slice qa qn qc)) W3.drew := by
    dsimp only
    (first | go_keep | (simp (disch := omega) [*]; done) | (simp (disch := first | omega | (simp; omega)) [World.cell?_setCell_far, World.cell?_alloc_past, *]; done) | (simp (disch := first | omega | (simp; omega)) [World.cell?_setCell_far, World.cell?_alloc_past, *]; repeat (first | exact rfl | refine ⟨rfl, ?_⟩)))
  refine wp_region_headH (fun wq => wq.cell? ⟨w.heap.size, 0, none⟩ = some (.int .i64 x0) ∧ wq.cell? ⟨w.heap.size, 1, none⟩ = some (.int .i64 x1) ∧ wq.cell? ⟨w.heap.size, 2, none⟩ = some (.slice a1 n1 c1) ∧ wq.cell? ⟨w.heap.size, 3, none⟩ = some (.slice a2 n2 c2) ∧ wq.cell? ⟨w.heap.size, 4, none⟩ = some (.slice a3 n3 c3) ∧ wq.cell? ⟨w.heap.size, 5, none⟩ = some (.slice a4 n4 c4) ∧ wq.cell? ⟨w.heap.size + 1, 1, none⟩ = some (.int .i64 n) ∧ wq.cell? ⟨w.heap.size + 1 + 1, 0, none⟩ = some (.int .i64 who) ∧ wq.cell? ⟨w2.heap.size, 0, none⟩ = some (.int .i64 qb) ∧ wq.cell? ⟨w2.heap.size, 1, none⟩ = some (.slice qa qn qc)) 13 (by kernel_rfl) (by kernel_rfl) ?_
  refine headH_take (i := 0) (v := ?qv0) (by kernel_rfl) rfl rfl (by kernel_rfl) (by kernel_rfl) (by kernel_rfl) (fun _ _ _ h => h) (Or.inl ⟨by rfl, ?qy0⟩) (by assumption) ?qr0
  case qy0 =>
    intro wq hSw
    try dsimp only at hSw
    go_simp
    try with_reducible rfl
  try simp only [Act.put, List.setIfInBounds_toArray, List.set_cons_zero, List.set_cons_succ]
  refine headH_take (i := 1) (v := ?qv1) (by kernel_rfl) rfl rfl (by kernel_rfl) (by kernel_rfl) (by kernel_rfl) (fun _ _ _ h => h) (Or.inl ⟨by rfl, ?qy1⟩) (by assumption) ?qr1
  case qy1 =>
    intro wq hSw
    try dsimp only at hSw
    go_simp
    try with_reducible rfl
  try simp only [Act.put, List.setIfInBounds_toArray, List.set_cons_zero, List.set_cons_succ]
  refine headH_take (i := 2) (v := ?qv2) (by kernel_rfl) rfl rfl (by kernel_rfl) (by kernel_rfl) (by kernel_rfl) (fun _ _ _ h => h) (Or.inl ⟨by rfl, ?qy2⟩) (by assumption) ?qr2
  case qy2 =>
    intro wq hSw
    try dsimp only at hSw
    go_simp
    try with_reducible rfl
  try simp only [Act.put, List.setIfInBounds_toArray, List.set_cons_zero, List.set_cons_succ]
  refine headH_take (i := 3) (v := ?qv3) (by kernel_rfl) rfl rfl (by kernel_rfl) (by kernel_rfl) (by kernel_rfl) (fun _ _ _ h => h) (Or.inl ⟨by rfl, ?qy3⟩) (by assumption) ?qr3
  case qy3 =>
    intro wq hSw
    try dsimp only at hSw
    go_simp
    try with_reducible rfl
  try simp only [Act.put, List.setIfInBounds_toArray, List.set_cons_zero, List.set_cons_succ]
  refine headH_take (i := 4) (v := ?qv4) (by kernel_rfl) rfl rfl (by kernel_rfl) (by kernel_rfl) (by kernel_rfl) (fun _ _ _ h => h) (Or.inl ⟨by rfl, ?qy4⟩) (by assumption) ?qr4
  case qy4 =>
    intro wq hSw
    try dsimp only at hSw
    go_simp
    try with_reducible rfl
  try simp only [Act.put, List.setIfInBounds_toArray, List.set_cons_zero, List.set_cons_succ]
  refine headH_take (i := 5) (v := ?qv5) (by kernel_rfl) rfl rfl (by kernel_rfl) (by kernel_rfl) (by kernel_rfl) (fun _ _ _ h => h) (Or.inl ⟨by rfl, ?qy5⟩) (by assumption) ?qr5
  case qy5 =>
    intro wq hSw
    try dsimp only at hSw
    go_simp
    try with_reducible rfl
  try simp only [Act.put, List.setIfInBounds_toArray, List.set_cons_zero, List.set_cons_succ]
  refine headH_take (i := 6) (v := ?qv6) (by kernel_rfl) rfl rfl (by kernel_rfl) (by kernel_rfl) (by kernel_rfl) (fun _ _ _ h => h) (Or.inl ⟨by rfl, ?qy6⟩) (by assumption) ?qr6
  case qy6 =>
    intro wq hSw
    try dsimp only at hSw
    go_simp
    try with_reducible rfl
  try simp only [Act.put, List.setIfInBounds_toArray, List.set_cons_zero, List.set_cons_succ]
  refine headH_take (i := 7) (v := ?qv7) (by kernel_rfl) rfl rfl (by kernel_rfl) (by kernel_rfl) (by kernel_rfl) (fun _ _ _ h => h) (Or.inl ⟨by rfl, ?qy7⟩) (by assumption) ?qr7
  case qy7 =>
    intro wq hSw
    try dsimp only at hSw
    go_simp
    try with_reducible rfl
  try simp only [Act.put, List.setIfInBounds_toArray, List.set_cons_zero, List.set_cons_succ]
  refine headH_take (i := 11) (v := ?qv11) (by kernel_rfl) rfl rfl (by kernel_rfl) (by kernel_rfl) (by kernel_rfl) (fun _ _ _ h => h) (Or.inl ⟨by rfl, ?qy11⟩) (by assumption) ?qr11
  case qy11 =>
    intro wq hSw
    try dsimp only at hSw
    go_simp
    try with_reducible rfl
  try simp only [Act.put, List.setIfInBounds_toArray, List.set_cons_zero, List.set_cons_succ]
  refine headH_one (i := 8) rfl rfl (by kernel_rfl) (fun K hK => ?_)
  go_simp
  go_at_call 43
  refine (HSH.out _ (by first | exact B8 | exact bel)).mono ?_
  rintro e w6 ⟨a9, c9, rfl, hx9, b6⟩
  have HX9 := Lib.hid hx9
  have z6 := b6.size
  simp only [World.size_drew] at z6
  have B10 := below2 (w := w) (by first | exact B8 | exact bel) b6
  obtain ⟨hBm6, hBo6, hBw6, hBr6, hBv6, hBl6⟩ : BlockIs w6 w.heap.size [.int .i64 x0, .int .i64 x1, .slice a1 n1 c1, .slice a2 n2 c2, .slice a3 n3 c3, .slice a4 n4 c4] 40 ∧ BlockIs w6 (w.heap.size + 1) [.int .i64 2, .int .i64 n, .int .i64 o.lk, .int .i64 o.ls, .int .i64 o.lt, .int .i64 o.old, .int .i64 o.new, .int .i64 o.vn, .bool o.pe.en.ad.v6, .int .u64 o.pe.en.ad.hi, .int .u64 o.pe.en.ad.lo, .int .i64 o.pe.en.port, .bool o.pe.came, .int .i64 o.pe.since, .int .i64 o.pe.pts, .int .i64 o.pe.at_, .int .i64 o.pe.ping, .int .i64 o.pe.work, .slice oa nb oc, .slice ka nk kc, .bool o.mark] 56 ∧ BlockIs w6 (w.heap.size + 1 + 1) [.int .i64 who] 3 ∧ BlockIs w6 (w.heap.size + 1 + 1 + 1) [.int .i64 0, .int .i64 0, .slice none 0 0, .slice none 0 0, .slice none 0 0, .slice none 0 0] 40 ∧ BlockIs w6 (w.heap.size + 1 + 1 + 1 + 1) [.int .i64 0, .bool false, .int .u64 0, .int .u64 0, .int .i64 0, .bool false, .int .i64 0, .int .i64 0, .int .i64 0, .int .i64 0, .int .i64 0, .slice none 0 0, .slice none 0 0] 54 ∧ BlockIs w6 w2.heap.size [.int .i64 qb, .slice qa qn qc] 90 := ⟨hBm3.drew'.below b6, hBo3.drew'.below b6, hBw3.drew'.below b6, hBr3.drew'.below b6, hBv3.drew'.below b6, hBl3.drew'.below b6⟩
  clear hx9 m0 m1 m2 m3 m4 m5 mf ml o0 o1 k0 l0 l1 lf ll
  have m0 := hBm6.cell (i := 0) rfl; have m1 := hBm6.cell (i := 1) rfl; have m2 := hBm6.cell (i := 2) rfl; have m3 := hBm6.cell (i := 3) rfl; have m4 := hBm6.cell (i := 4) rfl; have m5 := hBm6.cell (i := 5) rfl; have mf := hBm6.frozen; have ml := hBm6.lt; have o0 := hBo6.cell (i := 0) rfl; have o1 := hBo6.cell (i := 1) rfl; have k0 := hBw6.cell (i := 0) rfl; have l0 := hBl6.cell (i := 0) rfl; have l1 := hBl6.cell (i := 1) rfl
  have HKS6 := Lib.hid (rise_firm (w0 := w0) (B := w2.heap.size + 1) HX9.out (by first | omega | (simp; omega)) (fun W hW => (by first | exact HLK.out W hW | (rw [HQN.out, ← EQ.out]; exact HLK.out W hW))))
  generalize hrn : (riseP (lkOf m o.lock).l who).length = rn at HKS6 ⊢
  generalize hrl : riseP (lkOf m o.lock).l who = rls at HKS6 hrn
  have HRL := Lib.hid hrl; have HRN := Lib.hid hrn
  clear hrl hrn HX9
  refine hK.out _ _ ?_ (fun hS8 => ?_)
  · try dsimp only
    (first | go_keep | (simp (disch := omega) [*]; done) | (simp (disch := first | omega | (simp; omega)) [World.cell?_setCell_far, World.cell?_alloc_past, *]; done) | (simp (disch := first | omega | (simp; omega)) [World.cell?_setCell_far, World.cell?_alloc_past, *]; repeat (first | exact rfl | refine ⟨rfl, ?_⟩)))
  clear hK K
  try simp only [Act.put, List.setIfInBounds_toArray, List.set_cons_zero, List.set_cons_succ]
  refine headH_take (i := 9) (v := ?qv9) (by kernel_rfl) rfl rfl (by kernel_rfl) (by kernel_rfl) (by kernel_rfl) (fun _ _ _ h => h) (Or.inl ⟨by rfl, ?qy9⟩) (by assumption) ?qr9
  case qy9 =>
    intro wq hSw
    try dsimp only at hSw
    go_simp
    try with_reducible rfl
  try simp only [Act.put, List.setIfInBounds_toArray, List.set_cons_zero, List.set_cons_succ]
  refine headH_one (i := 10) rfl rfl (by kernel_rfl) (fun K hK => ?_)
  go_simp
  (go_at_call 42; (with_reducible refine (HLD.out (w2.heap.size + 1) _ ⟨qb, .slice a9 rn c9, rls⟩ (by first | omega | (simp; omega)) HKS6.out B10).mono ?_); rintro e w7 ⟨v7, rfl, hM7, b7⟩; have HM7 := Lib.hid hM7; have z7 := b7.size; have B9 := below2 (w := w) B10 b7; obtain ⟨_, a6, c6, e6, _⟩ := lks_open (hM7.now (HG.out _ _ hb0 B9)).2.2.2.1; simp only [List.length_set] at e6; rw [← HN4.out] at e6; have E6 := Lib.hid e6; subst e6; have hBr7 := hBr6.below b7; have hBv7 := hBv6.below b7)
  have hBm7 := hBm6.below b7; have hBo7 := hBo6.below b7; have hBw7 := hBw6.below b7; have hBl7 := hBl6.below b7
  clear m0 m1 m2 m3 m4 m5 mf ml o0 o1 k0 l0 l1
  have m0 := hBm7.cell (i := 0) rfl; have m1 := hBm7.cell (i := 1) rfl; have m2 := hBm7.cell (i := 2) rfl; have m3 := hBm7.cell (i := 3) rfl; have m4 := hBm7.cell (i := 4) rfl; have m5 := hBm7.cell (i := 5) rfl; have mf := hBm7.frozen; have ml := hBm7.lt; have o0 := hBo7.cell (i := 0) rfl; have o1 := hBo7.cell (i := 1) rfl; have k0 := hBw7.cell (i := 0) rfl; have r0 := hBr7.cell (i := 0) rfl; have r1 := hBr7.cell (i := 1) rfl; have r2 := hBr7.cell (i := 2) rfl; have r3 := hBr7.cell (i := 3) rfl; have r4 := hBr7.cell (i := 4) rfl; have r5 := hBr7.cell (i := 5) rfl; have rf := hBr7.frozen; have rl := hBr7.lt; have l0 := hBl7.cell (i := 0) rfl; have l1 := hBl7.cell (i := 1) rfl
  refine hK.out _ _ ?_ (fun hS10 => ?_)
  · try dsimp only
    (first | go_keep | (simp (disch := omega) [*]; done) | (simp (disch := first | omega | (simp; omega)) [World.cell?_setCell_far, World.cell?_alloc_past, *]; done) | (simp (disch := first | omega | (simp; omega)) [World.cell?_setCell_far, World.cell?_alloc_past, *]; repeat (first | exact rfl | refine ⟨rfl, ?_⟩)))
  clear hK K
  try simp only [Act.put, List.setIfInBounds_toArray, List.set_cons_zero, List.set_cons_succ]
  refine headH_one (i := 12) rfl rfl (by kernel_rfl) (fun K hK => ?_)
  go_simp
  refine named_world (K := K) fun w20 h20 => ?_
  have hR20 : BlockIs w20 (w.heap.size + 1 + 1 + 1) [.int .i64 x0, .int .i64 x1, .slice a1 n1 c1, .slice a2 n2 c2, .slice a3 n3 c3, .slice a6 n4 c6] 40 := by subst h20; ((refine RchW.get ?_); (repeat (first | with_reducible refine reach_set ?_ | with_reducible refine reach_other (by first | assumption | omega) ?_ | with_reducible refine reach_alloc ?_ | with_reducible refine reach_drew ?_)); exact reach_at (hBr7) rfl)
  have bw20 : Below w.heap.size w w20 := by subst h20; exact bel
  have hoth20 : ∀ k arr u, k ≠ w.heap.size + 1 + 1 + 1 → BlockIs w7 k arr u → BlockIs w20 k arr u := by
    subst h20
    intro k arr u hk hb
    have hk' := Ne.symm hk
    ((refine RchW.get ?_); (repeat (first | with_reducible refine reach_set ?_ | with_reducible refine reach_other (by first | assumption | omega) ?_ | with_reducible refine reach_alloc ?_ | with_reducible refine reach_drew ?_)); exact reach_at (hb) rfl)
  clear h20
  have hBm20 := hoth20 _ _ _ (by omega) hBm7; have hBo20 := hoth20 _ _ _ (by omega) hBo7; have hBw20 := hoth20 _ _ _ (by omega) hBw7; have hBl20 := hoth20 _ _ _ (by omega) hBl7
  clear m0 m1 m2 m3 m4 m5 mf ml o0 o1 k0 l0 l1 r0 r1 r2 r3 r4 r5 rf rl
  have m0 := hBm20.cell (i := 0) rfl; have m1 := hBm20.cell (i := 1) rfl; have m2 := hBm20.cell (i := 2) rfl; have m3 := hBm20.cell (i := 3) rfl; have m4 := hBm20.cell (i := 4) rfl; have m5 := hBm20.cell (i := 5) rfl; have mf := hBm20.frozen; have ml := hBm20.lt; have o0 := hBo20.cell (i := 0) rfl; have o1 := hBo20.cell (i := 1) rfl; have k0 := hBw20.cell (i := 0) rfl; have l0 := hBl20.cell (i := 0) rfl; have l1 := hBl20.cell (i := 1) rfl
  refine hK.out _ _ ?_ (fun hS12 => ?_)
  · try dsimp only
    (repeat' apply And.intro) <;> assumption
  clear hK K
  try simp only [Act.put, List.setIfInBounds_toArray, List.set_cons_zero, List.set_cons_succ]
  refine headH_done (by kernel_rfl) ?_
  simp only [List.drop_succ_cons, List.drop_zero]
  go_wp2_with (first
    | (refine list_store_blk rfl 54 _ _ rfl (w.heap.size + 1 + 1 + 1 + 1) _ _ 54 (hoth20 _ _ _ (by omega) hBv7) rfl rfl (by kernel_rfl) rfl (by simp [Value.oneCell']) w.heap.size w bw20 (by omega) ?_; intro w21 hV21 hoth21 hsz21 bw21))
  refine NoPanic.normal ?_
  go_wp2_with fail
  have hR21 := hoth21 _ _ _ (by omega) hR20
  have HF := Lib.hid ((Firm.keep HM7.out (fun g arr T h1 hb => hoth21 _ _ _ (by omega) (hoth20 _ _ _ (by omega) hb))).from (by omega : B ≤ w2.heap.size + 1))
  have e90 := hR21.cell (i := 0) rfl; have e91 := hR21.cell (i := 1) rfl; have e92 := hR21.cell (i := 2) rfl; have e93 := hR21.cell (i := 3) rfl; have e94 := hR21.cell (i := 4) rfl; have e95 := hR21.cell (i := 5) rfl; have f90 := hV21.cell (i := 0) rfl; have f91 := hV21.cell (i := 1) rfl; have f92 := hV21.cell (i := 2) rfl; have f93 := hV21.cell (i := 3) rfl; have f94 := hV21.cell (i := 4) rfl; have f95 := hV21.cell (i := 5) rfl; have f96 := hV21.cell (i := 6) rfl; have f97 := hV21.cell (i := 7) rfl; have f98 := hV21.cell (i := 8) rfl; have f99 := hV21.cell (i := 9) rfl; have f910 := hV21.cell (i := 10) rfl; have f911 := hV21.cell (i := 11) rfl; have f912 := hV21.cell (i := 12) rfl
  exact bodyPost_ret (v := .tuple #[.agg #[.int .i64 x0, .int .i64 x1, .slice a1 n1 c1, .slice a2 n2 c2, .slice a3 n3 c3, .slice a6 n4 c6], .agg #[.int .i64 0, .bool false, .int .u64 0, .int .u64 0, .int .i64 0, .bool false, .int .i64 0, .int .i64 0, .int .i64 0, .int .i64 0, .int .i64 0, .slice none 0 0, .slice none 0 0]]) (by simp [results, Tryz.results14, go_sem, e90, e91, e92, e93, e94, e95, f90, f91, f92, f93, f94, f95, f96, f97, f98, f99, f910, f911, f912]) rfl ⟨⟨x0, x1, m.bans, m.book, m.parts, (.slice a6 n4 c6, m.locks.2.set n ⟨qb, .slice a9 rn c9, rls⟩)⟩, zeroVm, (by first | (simp only [E1.out, E2.out, E3.out, ← HN1.out, ← HN2.out, ← HN3.out]; done) | (simp only [E1.out, E2.out, E3.out, ← HN1.out, ← HN2.out, ← HN3.out]; rfl)), (by rw [HX0.out, HX1.out]; exact HF.out), (Firm.old fun W _ => zeroVm_at W), (by rw [← HLN.out, lkOf_pl]; unfold Mm.pl lockedP setAt; simp only [HLN.out, if_pos (Int.natCast_nonneg n), Int.toNat_natCast, List.map_set, HX0.out, HX1.out, HQB.out, ← HRL.out]), rfl, bw21⟩
end Go.Proofs.YtnplgagaoeckoaaGreat
namespace Go.Proofs.YtnplgagaoeckoaaGreat
open Go.RowKit
set_option linter.unusedSimpArgs false
set_option linter.unusedVariables false

set_option maxRecDepth 100000 in
set_option maxHeartbeats 16000000 in
theorem memDo_3y (w0 : World → Prop) (hg : Grows w0) (B : Nat) (m : Mm) (o : Oq) (who : Int) (w : World) (hb0 : w0 w) (hB : B ≤ w.heap.size) (hm : ∀ W, w0 W → MmAt W m) (ho : OqAt w o) (hwho : 0 ≤ who ∧ who ≤ 100) (hmay : mayP m.pl o = true) (hk : o.kind = 3) (hll : m.locks.2.length = m.parts.2.length + 2) (hlen : m.locks.2.length ≤ 1000) (hby : (lkOf m o.lock).b = who + 1) :
    Calls Tryz.prog 14 #[.agg #[.int .i64 m.inn, .int .i64 m.out, m.bans.1, m.book.1, m.parts.1, m.locks.1], .agg #[.int .i64 o.kind, .int .i64 o.lock, .int .i64 o.lk, .int .i64 o.ls, .int .i64 o.lt, .int .i64 o.old, .int .i64 o.new, .int .i64 o.vn, .bool o.pe.en.ad.v6, .int .u64 o.pe.en.ad.hi, .int .u64 o.pe.en.ad.lo, .int .i64 o.pe.en.port, .bool o.pe.came, .int .i64 o.pe.since, .int .i64 o.pe.pts, .int .i64 o.pe.at_, .int .i64 o.pe.ping, .int .i64 o.pe.work, o.bans.1, o.book.1, .bool o.mark], .int .i64 who] w (GivesDo w0 B w (doP m.pl o who)) := by
  have hres : doP m.pl o who = (lockedP m.pl o.lock (0, (lockP m.pl o.lock).2), zeroVp) := by unfold doP; rw [if_neg (by rw [hmay]; simp), if_neg (by omega), if_neg (by omega), if_pos hk, if_pos (by rw [lkOf_pl]; exact hby)]
  rw [hres]
  clear hres
  unfold GivesDo
  have h := hm w hb0
  have HM := Lib.hid hm; have HG := Lib.hid hg
  have HMAY := Lib.hid (fun (W : World) (hb : Below w.heap.size w W) => memMay_any m o who W (h.below hb) (ho.below hb))
  rw [hmay] at HMAY
  have HL := Lib.hid (fun (W : World) (hb : Below w.heap.size w W) => memLock_any m o.lock W (h.below hb))
  have HLK := Lib.hid (fun (W : World) (hW : w0 W) => lkOf_at (hm W hW) o.lock)
  obtain ⟨n, hln, hn⟩ := lock_nat hmay (by omega) hll
  have HLD := Lib.hid (fun (B' : Nat) (W : World) (k : Lk) (hW : B' ≤ W.heap.size) (hK : Firm w0 B' W fun W => ReadsL inV 1 W k.v k.l) (hb : Below w.heap.size w W) => mem_locked_in w0 hg B' m n k W (hg _ _ hb0 hb) hW hm hK hn hlen)
  have HN := Lib.hid hn
  obtain ⟨_, qa, qc, eq, _⟩ := ins_open (lkOf_at h o.lock)
  obtain ⟨a1, a2, a3, a4, c1, c2, c3, c4, e1, e2, e3, e4⟩ := mm_slices h
  obtain ⟨_, oa, oc, eo, _⟩ := ba_open ho.1
  obtain ⟨_, ka, kc, ek, _⟩ := ey_open ho.2
  have hmm : m = ⟨m.inn, m.out, (.slice a1 m.bans.2.length c1, m.bans.2), (.slice a2 m.book.2.length c2, m.book.2), (.slice a3 m.parts.2.length c3, m.parts.2), (.slice a4 m.locks.2.length c4, m.locks.2)⟩ := by rw [← e1, ← e2, ← e3, ← e4]
  have HMM := Lib.hid hmm
  have E1 := Lib.hid e1; have E2 := Lib.hid e2; have E3 := Lib.hid e3; have E4 := Lib.hid e4; have EQ := Lib.hid eq; have EO := Lib.hid eo; have EK := Lib.hid ek
  simp only [e1, e2, e3, e4, eo, ek, eq] at HMAY HL HLD
  rw [e1, e2, e3, e4, eo, ek]
  clear e1 e2 e3 e4 eo ek hmm eq
  obtain ⟨x0, hx0⟩ : ∃ x, x = m.inn := ⟨_, rfl⟩
  obtain ⟨x1, hx1⟩ : ∃ x, x = m.out := ⟨_, rfl⟩
  obtain ⟨n1, hn1⟩ : ∃ n, n = m.bans.2.length := ⟨_, rfl⟩
  obtain ⟨n2, hn2⟩ : ∃ n, n = m.book.2.length := ⟨_, rfl⟩
  obtain ⟨n3, hn3⟩ : ∃ n, n = m.parts.2.length := ⟨_, rfl⟩
  obtain ⟨n4, hn4⟩ : ∃ n, n = m.locks.2.length := ⟨_, rfl⟩
  obtain ⟨nb, hnb⟩ : ∃ n, n = o.bans.2.length := ⟨_, rfl⟩
  obtain ⟨nk, hnk⟩ : ∃ n, n = o.book.2.length := ⟨_, rfl⟩
  obtain ⟨qn, hqn⟩ : ∃ n, n = (lkOf m o.lock).l.length := ⟨_, rfl⟩
  obtain ⟨qb, hqb⟩ : ∃ n, n = (lkOf m o.lock).b := ⟨_, rfl⟩
  simp only [← hx0, ← hx1, ← hn1, ← hn2, ← hn3, ← hn4, ← hnb, ← hnk, ← hqn, ← hqb] at HMAY HL HLD ⊢
  rw [← hx0, ← hx1, ← hn1, ← hn2, ← hn3, ← hn4] at HMM
  simp only [hln, hk] at HMAY HL ⊢
  have HLN := Lib.hid hln
  have hwr : IntKind.i64.wrap (who + 1) = who + 1 := by rw [IntKind.wrap_i64]; omega
  rw [← hqb] at hby
  have f9 : (qb == who + 1) = true := by simpa using hby
  have HX0 := Lib.hid hx0; have HX1 := Lib.hid hx1; have HN1 := Lib.hid hn1; have HN2 := Lib.hid hn2; have HN3 := Lib.hid hn3; have HN4 := Lib.hid hn4; have HNB := Lib.hid hnb; have HNK := Lib.hid hnk; have HQN := Lib.hid hqn; have HQB := Lib.hid hqb
  clear h ho hm hg hmay hx0 hx1 hn1 hn2 hn3 hn4 hnb hnk hqn hqb hk hll hlen hn hln hwho hby
  go_enter Tryz.func14, Tryz.ntmps14
  go_upto_region 1 with fail
  obtain ⟨W5, hW5⟩ : ∃ W5, W5 = ((((w.alloc (.cells #[.int .i64 x0, .int .i64 x1, .slice a1 n1 c1, .slice a2 n2 c2, .slice a3 n3 c3, .slice a4 n4 c4] 40)).alloc (.cells #[.int .i64 3, .int .i64 n, .int .i64 o.lk, .int .i64 o.ls, .int .i64 o.lt, .int .i64 o.old, .int .i64 o.new, .int .i64 o.vn, .bool o.pe.en.ad.v6, .int .u64 o.pe.en.ad.hi, .int .u64 o.pe.en.ad.lo, .int .i64 o.pe.en.port, .bool o.pe.came, .int .i64 o.pe.since, .int .i64 o.pe.pts, .int .i64 o.pe.at_, .int .i64 o.pe.ping, .int .i64 o.pe.work, .slice oa nb oc, .slice ka nk kc, .bool o.mark] 56)).alloc (.cells #[.int .i64 who] 3)).alloc (.cells #[.int .i64 0, .int .i64 0, .slice none 0 0, .slice none 0 0, .slice none 0 0, .slice none 0 0] 40)).alloc (.cells #[.int .i64 0, .bool false, .int .u64 0, .int .u64 0, .int .i64 0, .bool false, .int .i64 0, .int .i64 0, .int .i64 0, .int .i64 0, .int .i64 0, .slice none 0 0, .slice none 0 0] 54) := ⟨_, rfl⟩
  rw [← hW5]
  have B5 : Below w.heap.size w W5 := by subst hW5; exact bel
  have hBm : BlockIs W5 w.heap.size [.int .i64 x0, .int .i64 x1, .slice a1 n1 c1, .slice a2 n2 c2, .slice a3 n3 c3, .slice a4 n4 c4] 40 := by subst hW5; exact ((((BlockIs.new w [.int .i64 x0, .int .i64 x1, .slice a1 n1 c1, .slice a2 n2 c2, .slice a3 n3 c3, .slice a4 n4 c4] _).alloc' _).alloc' _).alloc' _).alloc' _
  have hBo : BlockIs W5 (w.heap.size + 1) [.int .i64 3, .int .i64 n, .int .i64 o.lk, .int .i64 o.ls, .int .i64 o.lt, .int .i64 o.old, .int .i64 o.new, .int .i64 o.vn, .bool o.pe.en.ad.v6, .int .u64 o.pe.en.ad.hi, .int .u64 o.pe.en.ad.lo, .int .i64 o.pe.en.port, .bool o.pe.came, .int .i64 o.pe.since, .int .i64 o.pe.pts, .int .i64 o.pe.at_, .int .i64 o.pe.ping, .int .i64 o.pe.work, .slice oa nb oc, .slice ka nk kc, .bool o.mark] 56 := by subst hW5; exact (((BlockIs.newAt' _ [.int .i64 3, .int .i64 n, .int .i64 o.lk, .int .i64 o.ls, .int .i64 o.lt, .int .i64 o.old, .int .i64 o.new, .int .i64 o.vn, .bool o.pe.en.ad.v6, .int .u64 o.pe.en.ad.hi, .int .u64 o.pe.en.ad.lo, .int .i64 o.pe.en.port, .bool o.pe.came, .int .i64 o.pe.since, .int .i64 o.pe.pts, .int .i64 o.pe.at_, .int .i64 o.pe.ping, .int .i64 o.pe.work, .slice oa nb oc, .slice ka nk kc, .bool o.mark] _ (by simp)).alloc' _).alloc' _).alloc' _
  have hBw : BlockIs W5 (w.heap.size + 1 + 1) [.int .i64 who] 3 := by subst hW5; exact ((BlockIs.newAt' _ [.int .i64 who] _ (by simp)).alloc' _).alloc' _
  have hBr : BlockIs W5 (w.heap.size + 1 + 1 + 1) [.int .i64 0, .int .i64 0, .slice none 0 0, .slice none 0 0, .slice none 0 0, .slice none 0 0] 40 := by subst hW5; exact (BlockIs.newAt' _ [.int .i64 0, .int .i64 0, .slice none 0 0, .slice none 0 0, .slice none 0 0, .slice none 0 0] _ (by simp)).alloc' _
  have hBv : BlockIs W5 (w.heap.size + 1 + 1 + 1 + 1) [.int .i64 0, .bool false, .int .u64 0, .int .u64 0, .int .i64 0, .bool false, .int .i64 0, .int .i64 0, .int .i64 0, .int .i64 0, .int .i64 0, .slice none 0 0, .slice none 0 0] 54 := by subst hW5; exact BlockIs.newAt' _ [.int .i64 0, .bool false, .int .u64 0, .int .u64 0, .int .i64 0, .bool false, .int .i64 0, .int .i64 0, .int .i64 0, .int .i64 0, .int .i64 0, .slice none 0 0, .slice none 0 0] _ (by simp)
  have hs5 : W5.heap.size = w.heap.size + 1 + 1 + 1 + 1 + 1 := by subst hW5; simp
  clear hW5
  have m0 := hBm.cell (i := 0) rfl; have m1 := hBm.cell (i := 1) rfl; have m2 := hBm.cell (i := 2) rfl; have m3 := hBm.cell (i := 3) rfl; have m4 := hBm.cell (i := 4) rfl; have m5 := hBm.cell (i := 5) rfl; have k0 := hBw.cell (i := 0) rfl
  have HBo := Lib.hid hBo
  go_upto_region 4 with (first
    | (refine list_load_blk rfl 56 _ rfl (w.heap.size + 1) [.int .i64 3, .int .i64 n, .int .i64 o.lk, .int .i64 o.ls, .int .i64 o.lt, .int .i64 o.old, .int .i64 o.new, .int .i64 o.vn, .bool o.pe.en.ad.v6, .int .u64 o.pe.en.ad.hi, .int .u64 o.pe.en.ad.lo, .int .i64 o.pe.en.port, .bool o.pe.came, .int .i64 o.pe.since, .int .i64 o.pe.pts, .int .i64 o.pe.at_, .int .i64 o.pe.ping, .int .i64 o.pe.work, .slice oa nb oc, .slice ka nk kc, .bool o.mark] 56 hBo rfl Tryz.underlying56 (by kernel_rfl) ?_)
    | (go_at_call 12; (with_reducible refine (HMAY.out _ B5).mono ?_); rintro e w1 ⟨rfl, b1⟩; have z1 := b1.size; have B6 := below2 B5 b1; have hBm1 := hBm.below b1; have hBo1 := hBo.below b1; have hBw1 := hBw.below b1; have hBr1 := hBr.below b1; have hBv1 := hBv.below b1; clear m0 m1 m2 m3 m4 m5 k0; have m0 := hBm1.cell (i := 0) rfl; have m1 := hBm1.cell (i := 1) rfl; have m2 := hBm1.cell (i := 2) rfl; have m3 := hBm1.cell (i := 3) rfl; have m4 := hBm1.cell (i := 4) rfl; have m5 := hBm1.cell (i := 5) rfl; have mf := hBm1.frozen; have ml := hBm1.lt; have o0 := hBo1.cell (i := 0) rfl; have o1 := hBo1.cell (i := 1) rfl)
    | (go_at_call 39; (with_reducible refine (HL.out _ B6).mono ?_); rintro e w2 ⟨rfl, b2⟩; have z2 := b2.size; have B7 := below2 B6 b2; have hBm2 := hBm1.below b2; have hBo2 := hBo1.below b2; have hBw2 := hBw1.below b2; have hBr2 := hBr1.below b2; have hBv2 := hBv1.below b2; clear m0 m1 m2 m3 m4 m5 mf ml o0 o1))
  obtain ⟨W3, hW3⟩ : ∃ W3, W3 = w2.alloc (.cells #[.int .i64 qb, .slice qa qn qc] 90) := ⟨_, rfl⟩
  rw [← hW3]
  have B8 : Below w.heap.size w W3 := by subst hW3; exact B7.alloc B7.size _
  have hBm3 : BlockIs W3 w.heap.size [.int .i64 x0, .int .i64 x1, .slice a1 n1 c1, .slice a2 n2 c2, .slice a3 n3 c3, .slice a4 n4 c4] 40 := by subst hW3; exact hBm2.alloc' _
  have hBo3 : BlockIs W3 (w.heap.size + 1) [.int .i64 3, .int .i64 n, .int .i64 o.lk, .int .i64 o.ls, .int .i64 o.lt, .int .i64 o.old, .int .i64 o.new, .int .i64 o.vn, .bool o.pe.en.ad.v6, .int .u64 o.pe.en.ad.hi, .int .u64 o.pe.en.ad.lo, .int .i64 o.pe.en.port, .bool o.pe.came, .int .i64 o.pe.since, .int .i64 o.pe.pts, .int .i64 o.pe.at_, .int .i64 o.pe.ping, .int .i64 o.pe.work, .slice oa nb oc, .slice ka nk kc, .bool o.mark] 56 := by subst hW3; exact hBo2.alloc' _
  have hBw3 : BlockIs W3 (w.heap.size + 1 + 1) [.int .i64 who] 3 := by subst hW3; exact hBw2.alloc' _
  have hBr3 : BlockIs W3 (w.heap.size + 1 + 1 + 1) [.int .i64 0, .int .i64 0, .slice none 0 0, .slice none 0 0, .slice none 0 0, .slice none 0 0] 40 := by subst hW3; exact hBr2.alloc' _
  have hBv3 : BlockIs W3 (w.heap.size + 1 + 1 + 1 + 1) [.int .i64 0, .bool false, .int .u64 0, .int .u64 0, .int .i64 0, .bool false, .int .i64 0, .int .i64 0, .int .i64 0, .int .i64 0, .int .i64 0, .slice none 0 0, .slice none 0 0] 54 := by subst hW3; exact hBv2.alloc' _
  have hBl3 : BlockIs W3 w2.heap.size [.int .i64 qb, .slice qa qn qc] 90 := by subst hW3; exact BlockIs.new w2 [.int .i64 qb, .slice qa qn qc] _
  have hs3 : W3.heap.size = w2.heap.size + 1 := by subst hW3; exact World.size_alloc _ _
  have hz3 : w.heap.size + 1 + 1 + 1 + 1 + 1 ≤ w2.heap.size := by omega
  clear hW3 hBm1 hBo1 hBw1 hBr1 hBv1 hBm2 hBo2 hBw2 hBr2 hBv2 hBm hBw hBr hBv hBo
  have m0 := hBm3.cell (i := 0) rfl; have m1 := hBm3.cell (i := 1) rfl; have m2 := hBm3.cell (i := 2) rfl; have m3 := hBm3.cell (i := 3) rfl; have m4 := hBm3.cell (i := 4) rfl; have m5 := hBm3.cell (i := 5) rfl; have mf := hBm3.frozen; have ml := hBm3.lt; have o0 := hBo3.cell (i := 0) rfl; have o1 := hBo3.cell (i := 1) rfl; have k0 := hBw3.cell (i := 0) rfl; have l0 := hBl3.cell (i := 0) rfl; have l1 := hBl3.cell (i := 1) rfl; have lf := hBl3.frozen; have ll := hBl3.lt
  go_wp2_with (first
    | (go_at_call 42; (with_reducible refine (HLD.out (w2.heap.size + 1) _ ⟨0, .slice qa qn qc, (lkOf m o.lock).l⟩ (by first | omega | (simp; omega)) (by rw [HQN.out, ← EQ.out]; exact Firm.old fun W hW => HLK.out W hW) (by exact bel)).mono ?_); rintro e w7 ⟨v7, rfl, hM7, b7⟩; have HM7 := Lib.hid hM7; have z7 := b7.size; have B9 := below2 (w := w) (by exact bel) b7; obtain ⟨_, a6, c6, e6, _⟩ := lks_open (hM7.now (HG.out _ _ hb0 B9)).2.2.2.1; simp only [List.length_set] at e6; rw [← HN4.out] at e6; have E6 := Lib.hid e6; subst e6; have hBr7 := (show BlockIs _ (w.heap.size + 1 + 1 + 1) [.int .i64 0, .int .i64 0, .slice none 0 0, .slice none 0 0, .slice none 0 0, .slice none 0 0] 40 from (by ((refine RchW.get ?_); (repeat (first | with_reducible refine reach_set ?_ | with_reducible refine reach_other (by first | assumption | omega) ?_ | with_reducible refine reach_alloc ?_ | with_reducible refine reach_drew ?_)); exact reach_at (hBr3) rfl))).below b7; have hBv7 := (show BlockIs _ (w.heap.size + 1 + 1 + 1 + 1) [.int .i64 0, .bool false, .int .u64 0, .int .u64 0, .int .i64 0, .bool false, .int .i64 0, .int .i64 0, .int .i64 0, .int .i64 0, .int .i64 0, .slice none 0 0, .slice none 0 0] 54 from (by ((refine RchW.get ?_); (repeat (first | with_reducible refine reach_set ?_ | with_reducible refine reach_other (by first | assumption | omega) ?_ | with_reducible refine reach_alloc ?_ | with_reducible refine reach_drew ?_)); exact reach_at (hBv3) rfl))).below b7)
    | (refine list_store_blk rfl 40 _ _ rfl (w.heap.size + 1 + 1 + 1) _ _ 40 hBr7 rfl rfl (by kernel_rfl) rfl (by simp [Value.oneCell']) w.heap.size w B9 (by omega) ?_; intro w20 hR20 hoth20 hsz20 bw20)
    | (refine list_store_blk rfl 54 _ _ rfl (w.heap.size + 1 + 1 + 1 + 1) _ _ 54 (hoth20 _ _ _ (by omega) hBv7) rfl rfl (by kernel_rfl) rfl (by simp [Value.oneCell']) w.heap.size w bw20 (by omega) ?_; intro w21 hV21 hoth21 hsz21 bw21))
  have hR21 := hoth21 _ _ _ (by omega) hR20
  have HF := Lib.hid ((Firm.keep HM7.out (fun g arr T h1 hb => hoth21 _ _ _ (by omega) (hoth20 _ _ _ (by omega) hb))).from (by omega : B ≤ w2.heap.size + 1))
  have e90 := hR21.cell (i := 0) rfl; have e91 := hR21.cell (i := 1) rfl; have e92 := hR21.cell (i := 2) rfl; have e93 := hR21.cell (i := 3) rfl; have e94 := hR21.cell (i := 4) rfl; have e95 := hR21.cell (i := 5) rfl; have f90 := hV21.cell (i := 0) rfl; have f91 := hV21.cell (i := 1) rfl; have f92 := hV21.cell (i := 2) rfl; have f93 := hV21.cell (i := 3) rfl; have f94 := hV21.cell (i := 4) rfl; have f95 := hV21.cell (i := 5) rfl; have f96 := hV21.cell (i := 6) rfl; have f97 := hV21.cell (i := 7) rfl; have f98 := hV21.cell (i := 8) rfl; have f99 := hV21.cell (i := 9) rfl; have f910 := hV21.cell (i := 10) rfl; have f911 := hV21.cell (i := 11) rfl; have f912 := hV21.cell (i := 12) rfl
  exact bodyPost_ret (v := .tuple #[.agg #[.int .i64 x0, .int .i64 x1, .slice a1 n1 c1, .slice a2 n2 c2, .slice a3 n3 c3, .slice a6 n4 c6], .agg #[.int .i64 0, .bool false, .int .u64 0, .int .u64 0, .int .i64 0, .bool false, .int .i64 0, .int .i64 0, .int .i64 0, .int .i64 0, .int .i64 0, .slice none 0 0, .slice none 0 0]]) (by simp [results, Tryz.results14, go_sem, e90, e91, e92, e93, e94, e95, f90, f91, f92, f93, f94, f95, f96, f97, f98, f99, f910, f911, f912]) rfl ⟨⟨x0, x1, m.bans, m.book, m.parts, (.slice a6 n4 c6, m.locks.2.set n ⟨0, .slice qa qn qc, (lkOf m o.lock).l⟩)⟩, zeroVm, (by first | (simp only [E1.out, E2.out, E3.out, ← HN1.out, ← HN2.out, ← HN3.out]; done) | (simp only [E1.out, E2.out, E3.out, ← HN1.out, ← HN2.out, ← HN3.out]; rfl)), (by rw [HX0.out, HX1.out]; exact HF.out), (Firm.old fun W _ => zeroVm_at W), (by rw [← HLN.out, lkOf_pl]; unfold Mm.pl lockedP setAt; simp only [HLN.out, if_pos (Int.natCast_nonneg n), Int.toNat_natCast, List.map_set, HX0.out, HX1.out, HQB.out]), rfl, bw21⟩
end Go.Proofs.YtnplgagaoeckoaaGreat
namespace Go.Proofs.YtnplgagaoeckoaaGreat
open Go.RowKit

set_option maxRecDepth 100000 in
set_option maxHeartbeats 16000000 in
theorem memDo_3n (w0 : World → Prop) (hg : Grows w0) (B : Nat) (m : Mm) (o : Oq) (who : Int) (w : World) (hb0 : w0 w) (hB : B ≤ w.heap.size) (hm : ∀ W, w0 W → MmAt W m) (ho : OqAt w o) (hwho : 0 ≤ who ∧ who ≤ 100) (hmay : mayP m.pl o = true) (hk : o.kind = 3) (hll : m.locks.2.length = m.parts.2.length + 2) (hlen : m.locks.2.length ≤ 1000) (hby : ¬ (lkOf m o.lock).b = who + 1) :
    Calls Tryz.prog 14 #[.agg #[.int .i64 m.inn, .int .i64 m.out, m.bans.1, m.book.1, m.parts.1, m.locks.1], .agg #[.int .i64 o.kind, .int .i64 o.lock, .int .i64 o.lk, .int .i64 o.ls, .int .i64 o.lt, .int .i64 o.old, .int .i64 o.new, .int .i64 o.vn, .bool o.pe.en.ad.v6, .int .u64 o.pe.en.ad.hi, .int .u64 o.pe.en.ad.lo, .int .i64 o.pe.en.port, .bool o.pe.came, .int .i64 o.pe.since, .int .i64 o.pe.pts, .int .i64 o.pe.at_, .int .i64 o.pe.ping, .int .i64 o.pe.work, o.bans.1, o.book.1, .bool o.mark], .int .i64 who] w (GivesDo w0 B w (doP m.pl o who)) := by
  have hres : doP m.pl o who = (lockedP m.pl o.lock ((lockP m.pl o.lock).1, (lockP m.pl o.lock).2), zeroVp) := by unfold doP; rw [if_neg (by rw [hmay]; simp), if_neg (by omega), if_neg (by omega), if_pos hk, if_neg (by rw [lkOf_pl]; exact hby)]
  rw [hres]
  clear hres
  unfold GivesDo
  have h := hm w hb0
  have HM := Lib.hid hm; have HG := Lib.hid hg
  have HMAY := Lib.hid (fun (W : World) (hb : Below w.heap.size w W) => memMay_any m o who W (h.below hb) (ho.below hb))
  rw [hmay] at HMAY
  have HL := Lib.hid (fun (W : World) (hb : Below w.heap.size w W) => memLock_any m o.lock W (h.below hb))
  have HLK := Lib.hid (fun (W : World) (hW : w0 W) => lkOf_at (hm W hW) o.lock)
  obtain ⟨n, hln, hn⟩ := lock_nat hmay (by omega) hll
  have HLD := Lib.hid (fun (B' : Nat) (W : World) (k : Lk) (hW : B' ≤ W.heap.size) (hK : Firm w0 B' W fun W => ReadsL inV 1 W k.v k.l) (hb : Below w.heap.size w W) => mem_locked_in w0 hg B' m n k W (hg _ _ hb0 hb) hW hm hK hn hlen)
  have HN := Lib.hid hn
  obtain ⟨_, qa, qc, eq, _⟩ := ins_open (lkOf_at h o.lock)
  obtain ⟨a1, a2, a3, a4, c1, c2, c3, c4, e1, e2, e3, e4⟩ := mm_slices h
  obtain ⟨_, oa, oc, eo, _⟩ := ba_open ho.1
  obtain ⟨_, ka, kc, ek, _⟩ := ey_open ho.2
  have hmm : m = ⟨m.inn, m.out, (.slice a1 m.bans.2.length c1, m.bans.2), (.slice a2 m.book.2.length c2, m.book.2), (.slice a3 m.parts.2.length c3, m.parts.2), (.slice a4 m.locks.2.length c4, m.locks.2)⟩ := by rw [← e1, ← e2, ← e3, ← e4]
  have HMM := Lib.hid hmm
  have E1 := Lib.hid e1; have E2 := Lib.hid e2; have E3 := Lib.hid e3; have E4 := Lib.hid e4; have EQ := Lib.hid eq; have EO := Lib.hid eo; have EK := Lib.hid ek
  simp only [e1, e2, e3, e4, eo, ek, eq] at HMAY HL HLD
  rw [e1, e2, e3, e4, eo, ek]
  clear e1 e2 e3 e4 eo ek hmm eq
  obtain ⟨x0, hx0⟩ : ∃ x, x = m.inn := ⟨_, rfl⟩
  obtain ⟨x1, hx1⟩ : ∃ x, x = m.out := ⟨_, rfl⟩
  obtain ⟨n1, hn1⟩ : ∃ n, n = m.bans.2.length := ⟨_, rfl⟩
  obtain ⟨n2, hn2⟩ : ∃ n, n = m.book.2.length := ⟨_, rfl⟩
  obtain ⟨n3, hn3⟩ : ∃ n, n = m.parts.2.length := ⟨_, rfl⟩
  obtain ⟨n4, hn4⟩ : ∃ n, n = m.locks.2.length := ⟨_, rfl⟩
  obtain ⟨nb, hnb⟩ : ∃ n, n = o.bans.2.length := ⟨_, rfl⟩
  obtain ⟨nk, hnk⟩ : ∃ n, n = o.book.2.length := ⟨_, rfl⟩
  obtain ⟨qn, hqn⟩ : ∃ n, n = (lkOf m o.lock).l.length := ⟨_, rfl⟩
  obtain ⟨qb, hqb⟩ : ∃ n, n = (lkOf m o.lock).b := ⟨_, rfl⟩
  simp only [← hx0, ← hx1, ← hn1, ← hn2, ← hn3, ← hn4, ← hnb, ← hnk, ← hqn, ← hqb] at HMAY HL HLD ⊢
  rw [← hx0, ← hx1, ← hn1, ← hn2, ← hn3, ← hn4] at HMM
  simp only [hln, hk] at HMAY HL ⊢
  have HLN := Lib.hid hln
  have hwr : IntKind.i64.wrap (who + 1) = who + 1 := by rw [IntKind.wrap_i64]; omega
  rw [← hqb] at hby
  have f9 : (qb == who + 1) = false := by simpa using hby
  have HX0 := Lib.hid hx0; have HX1 := Lib.hid hx1; have HN1 := Lib.hid hn1; have HN2 := Lib.hid hn2; have HN3 := Lib.hid hn3; have HN4 := Lib.hid hn4; have HNB := Lib.hid hnb; have HNK := Lib.hid hnk; have HQN := Lib.hid hqn; have HQB := Lib.hid hqb
  clear h ho hm hg hmay hx0 hx1 hn1 hn2 hn3 hn4 hnb hnk hqn hqb hk hll hlen hn hln hwho hby
  go_enter Tryz.func14, Tryz.ntmps14
  go_upto_region 1 with fail
  obtain ⟨W5, hW5⟩ : ∃ W5, W5 = ((((w.alloc (.cells #[.int .i64 x0, .int .i64 x1, .slice a1 n1 c1, .slice a2 n2 c2, .slice a3 n3 c3, .slice a4 n4 c4] 40)).alloc (.cells #[.int .i64 3, .int .i64 n, .int .i64 o.lk, .int .i64 o.ls, .int .i64 o.lt, .int .i64 o.old, .int .i64 o.new, .int .i64 o.vn, .bool o.pe.en.ad.v6, .int .u64 o.pe.en.ad.hi, .int .u64 o.pe.en.ad.lo, .int .i64 o.pe.en.port, .bool o.pe.came, .int .i64 o.pe.since, .int .i64 o.pe.pts, .int .i64 o.pe.at_, .int .i64 o.pe.ping, .int .i64 o.pe.work, .slice oa nb oc, .slice ka nk kc, .bool o.mark] 56)).alloc (.cells #[.int .i64 who] 3)).alloc (.cells #[.int .i64 0, .int .i64 0, .slice none 0 0, .slice none 0 0, .slice none 0 0, .slice none 0 0] 40)).alloc (.cells #[.int .i64 0, .bool false, .int .u64 0, .int .u64 0, .int .i64 0, .bool false, .int .i64 0, .int .i64 0, .int .i64 0, .int .i64 0, .int .i64 0, .slice none 0 0, .slice none 0 0] 54) := ⟨_, rfl⟩
  rw [← hW5]
  have B5 : Below w.heap.size w W5 := by subst hW5; exact bel
  have hBm : BlockIs W5 w.heap.size [.int .i64 x0, .int .i64 x1, .slice a1 n1 c1, .slice a2 n2 c2, .slice a3 n3 c3, .slice a4 n4 c4] 40 := by subst hW5; exact ((((BlockIs.new w [.int .i64 x0, .int .i64 x1, .slice a1 n1 c1, .slice a2 n2 c2, .slice a3 n3 c3, .slice a4 n4 c4] _).alloc' _).alloc' _).alloc' _).alloc' _
  have hBo : BlockIs W5 (w.heap.size + 1) [.int .i64 3, .int .i64 n, .int .i64 o.lk, .int .i64 o.ls, .int .i64 o.lt, .int .i64 o.old, .int .i64 o.new, .int .i64 o.vn, .bool o.pe.en.ad.v6, .int .u64 o.pe.en.ad.hi, .int .u64 o.pe.en.ad.lo, .int .i64 o.pe.en.port, .bool o.pe.came, .int .i64 o.pe.since, .int .i64 o.pe.pts, .int .i64 o.pe.at_, .int .i64 o.pe.ping, .int .i64 o.pe.work, .slice oa nb oc, .slice ka nk kc, .bool o.mark] 56 := by subst hW5; exact (((BlockIs.newAt' _ [.int .i64 3, .int .i64 n, .int .i64 o.lk, .int .i64 o.ls, .int .i64 o.lt, .int .i64 o.old, .int .i64 o.new, .int .i64 o.vn, .bool o.pe.en.ad.v6, .int .u64 o.pe.en.ad.hi, .int .u64 o.pe.en.ad.lo, .int .i64 o.pe.en.port, .bool o.pe.came, .int .i64 o.pe.since, .int .i64 o.pe.pts, .int .i64 o.pe.at_, .int .i64 o.pe.ping, .int .i64 o.pe.work, .slice oa nb oc, .slice ka nk kc, .bool o.mark] _ (by simp)).alloc' _).alloc' _).alloc' _
  have hBw : BlockIs W5 (w.heap.size + 1 + 1) [.int .i64 who] 3 := by subst hW5; exact ((BlockIs.newAt' _ [.int .i64 who] _ (by simp)).alloc' _).alloc' _
  have hBr : BlockIs W5 (w.heap.size + 1 + 1 + 1) [.int .i64 0, .int .i64 0, .slice none 0 0, .slice none 0 0, .slice none 0 0, .slice none 0 0] 40 := by subst hW5; exact (BlockIs.newAt' _ [.int .i64 0, .int .i64 0, .slice none 0 0, .slice none 0 0, .slice none 0 0, .slice none 0 0] _ (by simp)).alloc' _
  have hBv : BlockIs W5 (w.heap.size + 1 + 1 + 1 + 1) [.int .i64 0, .bool false, .int .u64 0, .int .u64 0, .int .i64 0, .bool false, .int .i64 0, .int .i64 0, .int .i64 0, .int .i64 0, .int .i64 0, .slice none 0 0, .slice none 0 0] 54 := by subst hW5; exact BlockIs.newAt' _ [.int .i64 0, .bool false, .int .u64 0, .int .u64 0, .int .i64 0, .bool false, .int .i64 0, .int .i64 0, .int .i64 0, .int .i64 0, .int .i64 0, .slice none 0 0, .slice none 0 0] _ (by simp)
  have hs5 : W5.heap.size = w.heap.size + 1 + 1 + 1 + 1 + 1 := by subst hW5; simp
  clear hW5
  have m0 := hBm.cell (i := 0) rfl; have m1 := hBm.cell (i := 1) rfl; have m2 := hBm.cell (i := 2) rfl; have m3 := hBm.cell (i := 3) rfl; have m4 := hBm.cell (i := 4) rfl; have m5 := hBm.cell (i := 5) rfl; have k0 := hBw.cell (i := 0) rfl
  have HBo := Lib.hid hBo
  go_upto_region 4 with (first
    | (refine list_load_blk rfl 56 _ rfl (w.heap.size + 1) [.int .i64 3, .int .i64 n, .int .i64 o.lk, .int .i64 o.ls, .int .i64 o.lt, .int .i64 o.old, .int .i64 o.new, .int .i64 o.vn, .bool o.pe.en.ad.v6, .int .u64 o.pe.en.ad.hi, .int .u64 o.pe.en.ad.lo, .int .i64 o.pe.en.port, .bool o.pe.came, .int .i64 o.pe.since, .int .i64 o.pe.pts, .int .i64 o.pe.at_, .int .i64 o.pe.ping, .int .i64 o.pe.work, .slice oa nb oc, .slice ka nk kc, .bool o.mark] 56 hBo rfl Tryz.underlying56 (by kernel_rfl) ?_)
    | (go_at_call 12; (with_reducible refine (HMAY.out _ B5).mono ?_); rintro e w1 ⟨rfl, b1⟩; have z1 := b1.size; have B6 := below2 B5 b1; have hBm1 := hBm.below b1; have hBo1 := hBo.below b1; have hBw1 := hBw.below b1; have hBr1 := hBr.below b1; have hBv1 := hBv.below b1; clear m0 m1 m2 m3 m4 m5 k0; have m0 := hBm1.cell (i := 0) rfl; have m1 := hBm1.cell (i := 1) rfl; have m2 := hBm1.cell (i := 2) rfl; have m3 := hBm1.cell (i := 3) rfl; have m4 := hBm1.cell (i := 4) rfl; have m5 := hBm1.cell (i := 5) rfl; have mf := hBm1.frozen; have ml := hBm1.lt; have o0 := hBo1.cell (i := 0) rfl; have o1 := hBo1.cell (i := 1) rfl)
    | (go_at_call 39; (with_reducible refine (HL.out _ B6).mono ?_); rintro e w2 ⟨rfl, b2⟩; have z2 := b2.size; have B7 := below2 B6 b2; have hBm2 := hBm1.below b2; have hBo2 := hBo1.below b2; have hBw2 := hBw1.below b2; have hBr2 := hBr1.below b2; have hBv2 := hBv1.below b2; clear m0 m1 m2 m3 m4 m5 mf ml o0 o1))
  obtain ⟨W3, hW3⟩ : ∃ W3, W3 = w2.alloc (.cells #[.int .i64 qb, .slice qa qn qc] 90) := ⟨_, rfl⟩
  rw [← hW3]
  have B8 : Below w.heap.size w W3 := by subst hW3; exact B7.alloc B7.size _
  have hBm3 : BlockIs W3 w.heap.size [.int .i64 x0, .int .i64 x1, .slice a1 n1 c1, .slice a2 n2 c2, .slice a3 n3 c3, .slice a4 n4 c4] 40 := by subst hW3; exact hBm2.alloc' _
  have hBo3 : BlockIs W3 (w.heap.size + 1) [.int .i64 3, .int .i64 n, .int .i64 o.lk, .int .i64 o.ls, .int .i64 o.lt, .int .i64 o.old, .int .i64 o.new, .int .i64 o.vn, .bool o.pe.en.ad.v6, .int .u64 o.pe.en.ad.hi, .int .u64 o.pe.en.ad.lo, .int .i64 o.pe.en.port, .bool o.pe.came, .int .i64 o.pe.since, .int .i64 o.pe.pts, .int .i64 o.pe.at_, .int .i64 o.pe.ping, .int .i64 o.pe.work, .slice oa nb oc, .slice ka nk kc, .bool o.mark] 56 := by subst hW3; exact hBo2.alloc' _
  have hBw3 : BlockIs W3 (w.heap.size + 1 + 1) [.int .i64 who] 3 := by subst hW3; exact hBw2.alloc' _
  have hBr3 : BlockIs W3 (w.heap.size + 1 + 1 + 1) [.int .i64 0, .int .i64 0, .slice none 0 0, .slice none 0 0, .slice none 0 0, .slice none 0 0] 40 := by subst hW3; exact hBr2.alloc' _
  have hBv3 : BlockIs W3 (w.heap.size + 1 + 1 + 1 + 1) [.int .i64 0, .bool false, .int .u64 0, .int .u64 0, .int .i64 0, .bool false, .int .i64 0, .int .i64 0, .int .i64 0, .int .i64 0, .int .i64 0, .slice none 0 0, .slice none 0 0] 54 := by subst hW3; exact hBv2.alloc' _
  have hBl3 : BlockIs W3 w2.heap.size [.int .i64 qb, .slice qa qn qc] 90 := by subst hW3; exact BlockIs.new w2 [.int .i64 qb, .slice qa qn qc] _
  have hs3 : W3.heap.size = w2.heap.size + 1 := by subst hW3; exact World.size_alloc _ _
  have hz3 : w.heap.size + 1 + 1 + 1 + 1 + 1 ≤ w2.heap.size := by omega
  clear hW3 hBm1 hBo1 hBw1 hBr1 hBv1 hBm2 hBo2 hBw2 hBr2 hBv2 hBm hBw hBr hBv hBo
  have m0 := hBm3.cell (i := 0) rfl; have m1 := hBm3.cell (i := 1) rfl; have m2 := hBm3.cell (i := 2) rfl; have m3 := hBm3.cell (i := 3) rfl; have m4 := hBm3.cell (i := 4) rfl; have m5 := hBm3.cell (i := 5) rfl; have mf := hBm3.frozen; have ml := hBm3.lt; have o0 := hBo3.cell (i := 0) rfl; have o1 := hBo3.cell (i := 1) rfl; have k0 := hBw3.cell (i := 0) rfl; have l0 := hBl3.cell (i := 0) rfl; have l1 := hBl3.cell (i := 1) rfl; have lf := hBl3.frozen; have ll := hBl3.lt
  go_wp2_with (first
    | (go_at_call 42; (with_reducible refine (HLD.out (w2.heap.size + 1) _ ⟨qb, .slice qa qn qc, (lkOf m o.lock).l⟩ (by first | omega | (simp; omega)) (by rw [HQN.out, ← EQ.out]; exact Firm.old fun W hW => HLK.out W hW) B8).mono ?_); rintro e w7 ⟨v7, rfl, hM7, b7⟩; have HM7 := Lib.hid hM7; have z7 := b7.size; have B9 := below2 B8 b7; obtain ⟨_, a6, c6, e6, _⟩ := lks_open (hM7.now (HG.out _ _ hb0 B9)).2.2.2.1; simp only [List.length_set] at e6; rw [← HN4.out] at e6; have E6 := Lib.hid e6; subst e6; have hBr7 := hBr3.below b7; have hBv7 := hBv3.below b7)
    | (refine list_store_blk rfl 40 _ _ rfl (w.heap.size + 1 + 1 + 1) _ _ 40 hBr7 rfl rfl (by kernel_rfl) rfl (by simp [Value.oneCell']) w.heap.size w B9 (by omega) ?_; intro w20 hR20 hoth20 hsz20 bw20)
    | (refine list_store_blk rfl 54 _ _ rfl (w.heap.size + 1 + 1 + 1 + 1) _ _ 54 (hoth20 _ _ _ (by omega) hBv7) rfl rfl (by kernel_rfl) rfl (by simp [Value.oneCell']) w.heap.size w bw20 (by omega) ?_; intro w21 hV21 hoth21 hsz21 bw21))
  have hR21 := hoth21 _ _ _ (by omega) hR20
  have HF := Lib.hid ((Firm.keep HM7.out (fun g arr T h1 hb => hoth21 _ _ _ (by omega) (hoth20 _ _ _ (by omega) hb))).from (by omega : B ≤ w2.heap.size + 1))
  have e90 := hR21.cell (i := 0) rfl; have e91 := hR21.cell (i := 1) rfl; have e92 := hR21.cell (i := 2) rfl; have e93 := hR21.cell (i := 3) rfl; have e94 := hR21.cell (i := 4) rfl; have e95 := hR21.cell (i := 5) rfl; have f90 := hV21.cell (i := 0) rfl; have f91 := hV21.cell (i := 1) rfl; have f92 := hV21.cell (i := 2) rfl; have f93 := hV21.cell (i := 3) rfl; have f94 := hV21.cell (i := 4) rfl; have f95 := hV21.cell (i := 5) rfl; have f96 := hV21.cell (i := 6) rfl; have f97 := hV21.cell (i := 7) rfl; have f98 := hV21.cell (i := 8) rfl; have f99 := hV21.cell (i := 9) rfl; have f910 := hV21.cell (i := 10) rfl; have f911 := hV21.cell (i := 11) rfl; have f912 := hV21.cell (i := 12) rfl
  exact bodyPost_ret (v := .tuple #[.agg #[.int .i64 x0, .int .i64 x1, .slice a1 n1 c1, .slice a2 n2 c2, .slice a3 n3 c3, .slice a6 n4 c6], .agg #[.int .i64 0, .bool false, .int .u64 0, .int .u64 0, .int .i64 0, .bool false, .int .i64 0, .int .i64 0, .int .i64 0, .int .i64 0, .int .i64 0, .slice none 0 0, .slice none 0 0]]) (by simp [results, Tryz.results14, go_sem, e90, e91, e92, e93, e94, e95, f90, f91, f92, f93, f94, f95, f96, f97, f98, f99, f910, f911, f912]) rfl ⟨⟨x0, x1, m.bans, m.book, m.parts, (.slice a6 n4 c6, m.locks.2.set n ⟨qb, .slice qa qn qc, (lkOf m o.lock).l⟩)⟩, zeroVm, (by first | (simp only [E1.out, E2.out, E3.out, ← HN1.out, ← HN2.out, ← HN3.out]; done) | (simp only [E1.out, E2.out, E3.out, ← HN1.out, ← HN2.out, ← HN3.out]; rfl)), (by rw [HX0.out, HX1.out]; exact HF.out), (Firm.old fun W _ => zeroVm_at W), (by rw [← HLN.out, lkOf_pl]; unfold Mm.pl lockedP setAt; simp only [HLN.out, if_pos (Int.natCast_nonneg n), Int.toNat_natCast, List.map_set, HX0.out, HX1.out, HQB.out]), rfl, bw21⟩
end Go.Proofs.YtnplgagaoeckoaaGreat
namespace Go.Proofs.YtnplgagaoeckoaaGreat
open Go.RowKit

set_option maxRecDepth 100000 in
set_option maxHeartbeats 16000000 in
theorem memDo_6 (w0 : World → Prop) (hg : Grows w0) (B : Nat) (m : Mm) (o : Oq) (who : Int) (w : World) (hb0 : w0 w) (hB : B ≤ w.heap.size) (hm : ∀ W, w0 W → MmAt W m) (ho : OqAt w o) (hmay : mayP m.pl o = true) (hk : o.kind = 6) (hpl : m.parts.2.length ≤ 1000) (hN : (shOf m o.ls).l.length ≤ 100000) (hbn : o.bans.2.length ≤ 1000) (hbk : o.book.2.length ≤ 1000) :
    Calls Tryz.prog 14 #[.agg #[.int .i64 m.inn, .int .i64 m.out, m.bans.1, m.book.1, m.parts.1, m.locks.1], .agg #[.int .i64 o.kind, .int .i64 o.lock, .int .i64 o.lk, .int .i64 o.ls, .int .i64 o.lt, .int .i64 o.old, .int .i64 o.new, .int .i64 o.vn, .bool o.pe.en.ad.v6, .int .u64 o.pe.en.ad.hi, .int .u64 o.pe.en.ad.lo, .int .i64 o.pe.en.port, .bool o.pe.came, .int .i64 o.pe.since, .int .i64 o.pe.pts, .int .i64 o.pe.at_, .int .i64 o.pe.ping, .int .i64 o.pe.work, o.bans.1, o.book.1, .bool o.mark], .int .i64 who] w (GivesDo w0 B w (doP m.pl o who)) := by
  have hres : doP m.pl o who = (storeP m.pl o.lk o.ls o.lt (valP o), zeroVp) := by unfold doP; rw [if_neg (by rw [hmay]; simp), if_neg (by omega), if_neg (by omega), if_neg (by omega), if_neg (by omega), if_neg (by omega), if_pos hk]
  rw [hres]
  clear hres
  unfold GivesDo
  have h := hm w hb0
  have HM := Lib.hid hm; have HG := Lib.hid hg
  have HMAY := Lib.hid (fun (W : World) (hb : Below w.heap.size w W) => memMay_any m o who W (h.below hb) (ho.below hb))
  rw [hmay] at HMAY
  have HL := Lib.hid (fun (W : World) (hb : Below w.heap.size w W) => memLock_any m o.lock W (h.below hb))
  have HLK := Lib.hid (fun (W : World) (hW : w0 W) => lkOf_at (hm W hW) o.lock)
  have hpr := opRight_load (mayP_right hmay) (Or.inr hk)
  have HST := Lib.hid (fun (B' : Nat) (W : World) (hW : B' ≤ W.heap.size) (hb : Below w.heap.size w W) => memStore_any w0 hg B' m o.lk o.ls o.lt ⟨o.vn, o.pe, o.bans, o.book⟩ W (hg _ _ hb0 hb) hW hm (⟨ReadsL.below ho.1 hb, ReadsL.below ho.2 hb⟩ : VmAt W _) hpl hpr.2.2.1 hpr.2.2.2 hN hbn hbk)
  simp only at HST
  obtain ⟨_, qa, qc, eq, _⟩ := ins_open (lkOf_at h o.lock)
  obtain ⟨a1, a2, a3, a4, c1, c2, c3, c4, e1, e2, e3, e4⟩ := mm_slices h
  obtain ⟨_, oa, oc, eo, _⟩ := ba_open ho.1
  obtain ⟨_, ka, kc, ek, _⟩ := ey_open ho.2
  have hmm : m = ⟨m.inn, m.out, (.slice a1 m.bans.2.length c1, m.bans.2), (.slice a2 m.book.2.length c2, m.book.2), (.slice a3 m.parts.2.length c3, m.parts.2), (.slice a4 m.locks.2.length c4, m.locks.2)⟩ := by rw [← e1, ← e2, ← e3, ← e4]
  have HMM := Lib.hid hmm
  have E1 := Lib.hid e1; have E2 := Lib.hid e2; have E3 := Lib.hid e3; have E4 := Lib.hid e4; have EQ := Lib.hid eq; have EO := Lib.hid eo; have EK := Lib.hid ek
  simp only [e1, e2, e3, e4, eo, ek, eq] at HMAY HL HST
  rw [e1, e2, e3, e4, eo, ek]
  clear e1 e2 e3 e4 eo ek hmm eq
  obtain ⟨x0, hx0⟩ : ∃ x, x = m.inn := ⟨_, rfl⟩
  obtain ⟨x1, hx1⟩ : ∃ x, x = m.out := ⟨_, rfl⟩
  obtain ⟨n1, hn1⟩ : ∃ n, n = m.bans.2.length := ⟨_, rfl⟩
  obtain ⟨n2, hn2⟩ : ∃ n, n = m.book.2.length := ⟨_, rfl⟩
  obtain ⟨n3, hn3⟩ : ∃ n, n = m.parts.2.length := ⟨_, rfl⟩
  obtain ⟨n4, hn4⟩ : ∃ n, n = m.locks.2.length := ⟨_, rfl⟩
  obtain ⟨nb, hnb⟩ : ∃ n, n = o.bans.2.length := ⟨_, rfl⟩
  obtain ⟨nk, hnk⟩ : ∃ n, n = o.book.2.length := ⟨_, rfl⟩
  obtain ⟨qn, hqn⟩ : ∃ n, n = (lkOf m o.lock).l.length := ⟨_, rfl⟩
  obtain ⟨qb, hqb⟩ : ∃ n, n = (lkOf m o.lock).b := ⟨_, rfl⟩
  simp only [← hx0, ← hx1, ← hn1, ← hn2, ← hn3, ← hn4, ← hnb, ← hnk, ← hqn, ← hqb] at HMAY HL HST ⊢
  rw [← hx0, ← hx1, ← hn1, ← hn2, ← hn3, ← hn4] at HMM
  simp only [hk] at HMAY HL ⊢
  have HX0 := Lib.hid hx0; have HX1 := Lib.hid hx1; have HN1 := Lib.hid hn1; have HN2 := Lib.hid hn2; have HN3 := Lib.hid hn3; have HN4 := Lib.hid hn4; have HNB := Lib.hid hnb; have HNK := Lib.hid hnk; have HQN := Lib.hid hqn; have HQB := Lib.hid hqb
  clear h ho hm hg hmay hx0 hx1 hn1 hn2 hn3 hn4 hnb hnk hqn hqb hk hbn hbk hpr hpl hN
  go_enter Tryz.func14, Tryz.ntmps14
  go_upto_region 1 with fail
  obtain ⟨W5, hW5⟩ : ∃ W5, W5 = ((((w.alloc (.cells #[.int .i64 x0, .int .i64 x1, .slice a1 n1 c1, .slice a2 n2 c2, .slice a3 n3 c3, .slice a4 n4 c4] 40)).alloc (.cells #[.int .i64 6, .int .i64 o.lock, .int .i64 o.lk, .int .i64 o.ls, .int .i64 o.lt, .int .i64 o.old, .int .i64 o.new, .int .i64 o.vn, .bool o.pe.en.ad.v6, .int .u64 o.pe.en.ad.hi, .int .u64 o.pe.en.ad.lo, .int .i64 o.pe.en.port, .bool o.pe.came, .int .i64 o.pe.since, .int .i64 o.pe.pts, .int .i64 o.pe.at_, .int .i64 o.pe.ping, .int .i64 o.pe.work, .slice oa nb oc, .slice ka nk kc, .bool o.mark] 56)).alloc (.cells #[.int .i64 who] 3)).alloc (.cells #[.int .i64 0, .int .i64 0, .slice none 0 0, .slice none 0 0, .slice none 0 0, .slice none 0 0] 40)).alloc (.cells #[.int .i64 0, .bool false, .int .u64 0, .int .u64 0, .int .i64 0, .bool false, .int .i64 0, .int .i64 0, .int .i64 0, .int .i64 0, .int .i64 0, .slice none 0 0, .slice none 0 0] 54) := ⟨_, rfl⟩
  rw [← hW5]
  have B5 : Below w.heap.size w W5 := by subst hW5; exact bel
  have hBm : BlockIs W5 w.heap.size [.int .i64 x0, .int .i64 x1, .slice a1 n1 c1, .slice a2 n2 c2, .slice a3 n3 c3, .slice a4 n4 c4] 40 := by subst hW5; exact ((((BlockIs.new w [.int .i64 x0, .int .i64 x1, .slice a1 n1 c1, .slice a2 n2 c2, .slice a3 n3 c3, .slice a4 n4 c4] _).alloc' _).alloc' _).alloc' _).alloc' _
  have hBo : BlockIs W5 (w.heap.size + 1) [.int .i64 6, .int .i64 o.lock, .int .i64 o.lk, .int .i64 o.ls, .int .i64 o.lt, .int .i64 o.old, .int .i64 o.new, .int .i64 o.vn, .bool o.pe.en.ad.v6, .int .u64 o.pe.en.ad.hi, .int .u64 o.pe.en.ad.lo, .int .i64 o.pe.en.port, .bool o.pe.came, .int .i64 o.pe.since, .int .i64 o.pe.pts, .int .i64 o.pe.at_, .int .i64 o.pe.ping, .int .i64 o.pe.work, .slice oa nb oc, .slice ka nk kc, .bool o.mark] 56 := by subst hW5; exact (((BlockIs.newAt' _ [.int .i64 6, .int .i64 o.lock, .int .i64 o.lk, .int .i64 o.ls, .int .i64 o.lt, .int .i64 o.old, .int .i64 o.new, .int .i64 o.vn, .bool o.pe.en.ad.v6, .int .u64 o.pe.en.ad.hi, .int .u64 o.pe.en.ad.lo, .int .i64 o.pe.en.port, .bool o.pe.came, .int .i64 o.pe.since, .int .i64 o.pe.pts, .int .i64 o.pe.at_, .int .i64 o.pe.ping, .int .i64 o.pe.work, .slice oa nb oc, .slice ka nk kc, .bool o.mark] _ (by simp)).alloc' _).alloc' _).alloc' _
  have hBw : BlockIs W5 (w.heap.size + 1 + 1) [.int .i64 who] 3 := by subst hW5; exact ((BlockIs.newAt' _ [.int .i64 who] _ (by simp)).alloc' _).alloc' _
  have hBr : BlockIs W5 (w.heap.size + 1 + 1 + 1) [.int .i64 0, .int .i64 0, .slice none 0 0, .slice none 0 0, .slice none 0 0, .slice none 0 0] 40 := by subst hW5; exact (BlockIs.newAt' _ [.int .i64 0, .int .i64 0, .slice none 0 0, .slice none 0 0, .slice none 0 0, .slice none 0 0] _ (by simp)).alloc' _
  have hBv : BlockIs W5 (w.heap.size + 1 + 1 + 1 + 1) [.int .i64 0, .bool false, .int .u64 0, .int .u64 0, .int .i64 0, .bool false, .int .i64 0, .int .i64 0, .int .i64 0, .int .i64 0, .int .i64 0, .slice none 0 0, .slice none 0 0] 54 := by subst hW5; exact BlockIs.newAt' _ [.int .i64 0, .bool false, .int .u64 0, .int .u64 0, .int .i64 0, .bool false, .int .i64 0, .int .i64 0, .int .i64 0, .int .i64 0, .int .i64 0, .slice none 0 0, .slice none 0 0] _ (by simp)
  have hs5 : W5.heap.size = w.heap.size + 1 + 1 + 1 + 1 + 1 := by subst hW5; simp
  clear hW5
  have m0 := hBm.cell (i := 0) rfl; have m1 := hBm.cell (i := 1) rfl; have m2 := hBm.cell (i := 2) rfl; have m3 := hBm.cell (i := 3) rfl; have m4 := hBm.cell (i := 4) rfl; have m5 := hBm.cell (i := 5) rfl; have k0 := hBw.cell (i := 0) rfl
  have HBo := Lib.hid hBo
  go_upto_region 4 with (first
    | (refine list_load_blk rfl 56 _ rfl (w.heap.size + 1) [.int .i64 6, .int .i64 o.lock, .int .i64 o.lk, .int .i64 o.ls, .int .i64 o.lt, .int .i64 o.old, .int .i64 o.new, .int .i64 o.vn, .bool o.pe.en.ad.v6, .int .u64 o.pe.en.ad.hi, .int .u64 o.pe.en.ad.lo, .int .i64 o.pe.en.port, .bool o.pe.came, .int .i64 o.pe.since, .int .i64 o.pe.pts, .int .i64 o.pe.at_, .int .i64 o.pe.ping, .int .i64 o.pe.work, .slice oa nb oc, .slice ka nk kc, .bool o.mark] 56 hBo rfl Tryz.underlying56 (by kernel_rfl) ?_)
    | (go_at_call 12; (with_reducible refine (HMAY.out _ B5).mono ?_); rintro e w1 ⟨rfl, b1⟩; have z1 := b1.size; have B6 := below2 B5 b1; have hBm1 := hBm.below b1; have hBo1 := hBo.below b1; have hBw1 := hBw.below b1; have hBr1 := hBr.below b1; have hBv1 := hBv.below b1; clear m0 m1 m2 m3 m4 m5 k0; have m0 := hBm1.cell (i := 0) rfl; have m1 := hBm1.cell (i := 1) rfl; have m2 := hBm1.cell (i := 2) rfl; have m3 := hBm1.cell (i := 3) rfl; have m4 := hBm1.cell (i := 4) rfl; have m5 := hBm1.cell (i := 5) rfl; have mf := hBm1.frozen; have ml := hBm1.lt; have o0 := hBo1.cell (i := 0) rfl; have o1 := hBo1.cell (i := 1) rfl)
    | (go_at_call 39; (with_reducible refine (HL.out _ B6).mono ?_); rintro e w2 ⟨rfl, b2⟩; have z2 := b2.size; have B7 := below2 B6 b2; have hBm2 := hBm1.below b2; have hBo2 := hBo1.below b2; have hBw2 := hBw1.below b2; have hBr2 := hBr1.below b2; have hBv2 := hBv1.below b2; clear m0 m1 m2 m3 m4 m5 mf ml o0 o1))
  obtain ⟨W3, hW3⟩ : ∃ W3, W3 = w2.alloc (.cells #[.int .i64 qb, .slice qa qn qc] 90) := ⟨_, rfl⟩
  rw [← hW3]
  have B8 : Below w.heap.size w W3 := by subst hW3; exact B7.alloc B7.size _
  have hBm3 : BlockIs W3 w.heap.size [.int .i64 x0, .int .i64 x1, .slice a1 n1 c1, .slice a2 n2 c2, .slice a3 n3 c3, .slice a4 n4 c4] 40 := by subst hW3; exact hBm2.alloc' _
  have hBo3 : BlockIs W3 (w.heap.size + 1) [.int .i64 6, .int .i64 o.lock, .int .i64 o.lk, .int .i64 o.ls, .int .i64 o.lt, .int .i64 o.old, .int .i64 o.new, .int .i64 o.vn, .bool o.pe.en.ad.v6, .int .u64 o.pe.en.ad.hi, .int .u64 o.pe.en.ad.lo, .int .i64 o.pe.en.port, .bool o.pe.came, .int .i64 o.pe.since, .int .i64 o.pe.pts, .int .i64 o.pe.at_, .int .i64 o.pe.ping, .int .i64 o.pe.work, .slice oa nb oc, .slice ka nk kc, .bool o.mark] 56 := by subst hW3; exact hBo2.alloc' _
  have hBw3 : BlockIs W3 (w.heap.size + 1 + 1) [.int .i64 who] 3 := by subst hW3; exact hBw2.alloc' _
  have hBr3 : BlockIs W3 (w.heap.size + 1 + 1 + 1) [.int .i64 0, .int .i64 0, .slice none 0 0, .slice none 0 0, .slice none 0 0, .slice none 0 0] 40 := by subst hW3; exact hBr2.alloc' _
  have hBv3 : BlockIs W3 (w.heap.size + 1 + 1 + 1 + 1) [.int .i64 0, .bool false, .int .u64 0, .int .u64 0, .int .i64 0, .bool false, .int .i64 0, .int .i64 0, .int .i64 0, .int .i64 0, .int .i64 0, .slice none 0 0, .slice none 0 0] 54 := by subst hW3; exact hBv2.alloc' _
  have hBl3 : BlockIs W3 w2.heap.size [.int .i64 qb, .slice qa qn qc] 90 := by subst hW3; exact BlockIs.new w2 [.int .i64 qb, .slice qa qn qc] _
  have hs3 : W3.heap.size = w2.heap.size + 1 := by subst hW3; exact World.size_alloc _ _
  have hz3 : w.heap.size + 1 + 1 + 1 + 1 + 1 ≤ w2.heap.size := by omega
  clear hW3 hBm1 hBo1 hBw1 hBr1 hBv1 hBm2 hBo2 hBw2 hBr2 hBv2 hBm hBw hBr hBv hBo
  have m0 := hBm3.cell (i := 0) rfl; have m1 := hBm3.cell (i := 1) rfl; have m2 := hBm3.cell (i := 2) rfl; have m3 := hBm3.cell (i := 3) rfl; have m4 := hBm3.cell (i := 4) rfl; have m5 := hBm3.cell (i := 5) rfl; have mf := hBm3.frozen; have ml := hBm3.lt; have o0 := hBo3.cell (i := 0) rfl; have o2 := hBo3.cell (i := 2) rfl; have o3 := hBo3.cell (i := 3) rfl; have o4 := hBo3.cell (i := 4) rfl; have o7 := hBo3.cell (i := 7) rfl; have o8 := hBo3.cell (i := 8) rfl; have o9 := hBo3.cell (i := 9) rfl; have o10 := hBo3.cell (i := 10) rfl; have o11 := hBo3.cell (i := 11) rfl; have o12 := hBo3.cell (i := 12) rfl; have o13 := hBo3.cell (i := 13) rfl; have o14 := hBo3.cell (i := 14) rfl; have o15 := hBo3.cell (i := 15) rfl; have o16 := hBo3.cell (i := 16) rfl; have o17 := hBo3.cell (i := 17) rfl; have o18 := hBo3.cell (i := 18) rfl; have o19 := hBo3.cell (i := 19) rfl; have k0 := hBw3.cell (i := 0) rfl; have l0 := hBl3.cell (i := 0) rfl; have l1 := hBl3.cell (i := 1) rfl; have lf := hBl3.frozen; have ll := hBl3.lt
  go_wp2_with (first
    | (go_at_call 48; (with_reducible refine (HST.out (w2.heap.size + 1) _ (by omega) B8).mono ?_); unfold GivesMm; rintro e w7 ⟨m7, rfl, hM7, hp7, b7⟩; have z7 := b7.size; have B9 := below2 (w := w) B8 b7; have hm9 := hM7.now (HG.out _ _ hb0 B9); obtain ⟨d1, d2, d3, d4, g1, g2, g3, g4, u1, u2, u3, u4⟩ := mm_slices hm9; obtain ⟨y0, y1, ⟨y2, l2⟩, ⟨y3, l3⟩, ⟨y4, l4⟩, ⟨y5, l5⟩⟩ := m7; simp only at u1 u2 u3 u4; subst u1 u2 u3 u4; have HM7 := Lib.hid hM7; have HP7 := Lib.hid hp7; have hBr7 := hBr3.below b7; have hBv7 := hBv3.below b7; clear hM7 hp7 hm9)
    | (refine list_store_blk rfl 40 _ _ rfl (w.heap.size + 1 + 1 + 1) _ _ 40 hBr7 rfl rfl (by kernel_rfl) rfl (by simp [Value.oneCell']) w.heap.size w B9 (by omega) ?_; intro w20 hR20 hoth20 hsz20 bw20)
    | (refine list_store_blk rfl 54 _ _ rfl (w.heap.size + 1 + 1 + 1 + 1) _ _ 54 (hoth20 _ _ _ (by omega) hBv7) rfl rfl (by kernel_rfl) rfl (by simp [Value.oneCell']) w.heap.size w bw20 (by omega) ?_; intro w21 hV21 hoth21 hsz21 bw21))
  have hR21 := hoth21 _ _ _ (by omega) hR20
  have e90 := hR21.cell (i := 0) rfl; have e91 := hR21.cell (i := 1) rfl; have e92 := hR21.cell (i := 2) rfl; have e93 := hR21.cell (i := 3) rfl; have e94 := hR21.cell (i := 4) rfl; have e95 := hR21.cell (i := 5) rfl; have f90 := hV21.cell (i := 0) rfl; have f91 := hV21.cell (i := 1) rfl; have f92 := hV21.cell (i := 2) rfl; have f93 := hV21.cell (i := 3) rfl; have f94 := hV21.cell (i := 4) rfl; have f95 := hV21.cell (i := 5) rfl; have f96 := hV21.cell (i := 6) rfl; have f97 := hV21.cell (i := 7) rfl; have f98 := hV21.cell (i := 8) rfl; have f99 := hV21.cell (i := 9) rfl; have f910 := hV21.cell (i := 10) rfl; have f911 := hV21.cell (i := 11) rfl; have f912 := hV21.cell (i := 12) rfl
  exact bodyPost_ret (v := .tuple #[.agg #[.int .i64 y0, .int .i64 y1, .slice d1 l2.length g1, .slice d2 l3.length g2, .slice d3 l4.length g3, .slice d4 l5.length g4], .agg #[.int .i64 0, .bool false, .int .u64 0, .int .u64 0, .int .i64 0, .bool false, .int .i64 0, .int .i64 0, .int .i64 0, .int .i64 0, .int .i64 0, .slice none 0 0, .slice none 0 0]]) (by simp [results, Tryz.results14, go_sem, e90, e91, e92, e93, e94, e95, f90, f91, f92, f93, f94, f95, f96, f97, f98, f99, f910, f911, f912]) rfl ⟨⟨y0, y1, (.slice d1 l2.length g1, l2), (.slice d2 l3.length g2, l3), (.slice d3 l4.length g3, l4), (.slice d4 l5.length g4, l5)⟩, zeroVm, rfl, ((Firm.keep HM7.out (fun g arr T h1 hb => hoth21 _ _ _ (by omega) (hoth20 _ _ _ (by omega) hb))).from (by omega : B ≤ w2.heap.size + 1)), (Firm.old fun W _ => zeroVm_at W), HP7.out, rfl, bw21⟩
end Go.Proofs.YtnplgagaoeckoaaGreat
