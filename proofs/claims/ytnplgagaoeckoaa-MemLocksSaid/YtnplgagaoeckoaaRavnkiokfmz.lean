/- Texts put together: MemL5. No condition. -/
import Derived.Test.YtnplgagaoeckoaaRfnrrpvjbvm
import Derived.Test.YtnplgagaoeckoaaRwioubrlxuu
namespace Go.Proofs.Ytnplgagaoeckoaa
open Go.RowKit
set_option linter.unusedSimpArgs false
set_option linter.unusedVariables false

set_option maxRecDepth 100000 in
set_option maxHeartbeats 16000000 in
theorem memDo_5 (w0 : World → Prop) (hg : Grows w0) (B : Nat) (m : Mm) (o : Oq) (who : Int) (w : World) (hb0 : w0 w) (hB : B ≤ w.heap.size) (hm : ∀ W, w0 W → MmAt W m) (ho : OqAt w o) (hmay : mayP m.pl o = true) (hk : o.kind = 5) (hbn : m.bans.2.length ≤ 1000) (hbk : m.book.2.length ≤ 1000) :
    Calls Try.prog 10 #[.agg #[.int .i64 m.inn, .int .i64 m.out, m.bans.1, m.book.1, m.parts.1, m.locks.1], .agg #[.int .i64 o.kind, .int .i64 o.lock, .int .i64 o.lk, .int .i64 o.ls, .int .i64 o.lt, .int .i64 o.old, .int .i64 o.new, .int .i64 o.vn, .bool o.pe.en.ad.v6, .int .u64 o.pe.en.ad.hi, .int .u64 o.pe.en.ad.lo, .int .i64 o.pe.en.port, .bool o.pe.came, .int .i64 o.pe.since, .int .i64 o.pe.pts, .int .i64 o.pe.at_, .int .i64 o.pe.ping, .int .i64 o.pe.work, o.bans.1, o.book.1, .bool o.mark], .int .i64 who] w (GivesDo w0 B w (doP m.pl o who)) := by
  have hres : doP m.pl o who = (m.pl, loadP m.pl o.lk o.ls o.lt) := by unfold doP; rw [if_neg (by rw [hmay]; simp), if_neg (by omega), if_neg (by omega), if_neg (by omega), if_neg (by omega), if_pos hk]
  rw [hres]
  clear hres
  unfold GivesDo
  have h := hm w hb0
  have HM := Lib.hid hm; have HG := Lib.hid hg
  have HMAY := Lib.hid (fun (W : World) (hb : Below w.heap.size w W) => memMay_any m o who W (h.below hb) (ho.below hb))
  rw [hmay] at HMAY
  have HL := Lib.hid (fun (W : World) (hb : Below w.heap.size w W) => memLock_any m o.lock W (h.below hb))
  have HLK := Lib.hid (fun (W : World) (hW : w0 W) => lkOf_at (hm W hW) o.lock)
  have hpr := opRight_load (mayP_right hmay) (Or.inl hk)
  have HLO := Lib.hid (fun (W : World) (hb : Below w.heap.size w W) => memLoad_any m o.lk o.ls o.lt W (h.below hb) hbn hbk ⟨hpr.1, hpr.2.1⟩ hpr.2.2.1 hpr.2.2.2)
  obtain ⟨_, qa, qc, eq, _⟩ := ins_open (lkOf_at h o.lock)
  obtain ⟨a1, a2, a3, a4, c1, c2, c3, c4, e1, e2, e3, e4⟩ := mm_slices h
  obtain ⟨_, oa, oc, eo, _⟩ := ba_open ho.1
  obtain ⟨_, ka, kc, ek, _⟩ := ey_open ho.2
  have hmm : m = ⟨m.inn, m.out, (.slice a1 m.bans.2.length c1, m.bans.2), (.slice a2 m.book.2.length c2, m.book.2), (.slice a3 m.parts.2.length c3, m.parts.2), (.slice a4 m.locks.2.length c4, m.locks.2)⟩ := by rw [← e1, ← e2, ← e3, ← e4]
  have HMM := Lib.hid hmm
  have E1 := Lib.hid e1; have E2 := Lib.hid e2; have E3 := Lib.hid e3; have E4 := Lib.hid e4; have EQ := Lib.hid eq; have EO := Lib.hid eo; have EK := Lib.hid ek
  simp only [e1, e2, e3, e4, eo, ek, eq] at HMAY HL HLO
  rw [e1, e2, e3, e4, eo, ek]
  clear e1 e2 e3 e4 eo ek hmm eq
  obtain ⟨x0, hx0⟩ : ∃ x, x = m.inn := ⟨_, rfl⟩
  obtain ⟨x1, hx1⟩ : ∃ x, x = m.out := ⟨_, rfl⟩
  obtain ⟨n1, hn1⟩ : ∃ n, n = m.bans.2.length := ⟨_, rfl⟩
  obtain ⟨n2, hn2⟩ : ∃ n, n = m.book.2.length := ⟨_, rfl⟩
  obtain ⟨n3, hn3⟩ : ∃ n, n = m.parts.2.length := ⟨_, rfl⟩
  obtain ⟨n4, hn4⟩ : ∃ n, n = m.locks.2.length := ⟨_, rfl⟩
  obtain ⟨nb, hnb⟩ : ∃ n, n = o.bans.2.length := ⟨_, rfl⟩
  obtain ⟨nk, hnk⟩ : ∃ n, n = o.book.2.length := ⟨_, rfl⟩
  obtain ⟨qn, hqn⟩ : ∃ n, n = (lkOf m o.lock).l.length := ⟨_, rfl⟩
  obtain ⟨qb, hqb⟩ : ∃ n, n = (lkOf m o.lock).b := ⟨_, rfl⟩
  simp only [← hx0, ← hx1, ← hn1, ← hn2, ← hn3, ← hn4, ← hnb, ← hnk, ← hqn, ← hqb] at HMAY HL HLO ⊢
  rw [← hx0, ← hx1, ← hn1, ← hn2, ← hn3, ← hn4] at HMM
  simp only [hk] at HMAY HL ⊢
  have HX0 := Lib.hid hx0; have HX1 := Lib.hid hx1; have HN1 := Lib.hid hn1; have HN2 := Lib.hid hn2; have HN3 := Lib.hid hn3; have HN4 := Lib.hid hn4; have HNB := Lib.hid hnb; have HNK := Lib.hid hnk; have HQN := Lib.hid hqn; have HQB := Lib.hid hqb
  clear h ho hm hg hmay hx0 hx1 hn1 hn2 hn3 hn4 hnb hnk hqn hqb hk hbn hbk hpr
  go_enter Try.func10, Try.ntmps10
  go_upto_region 1 with fail
  obtain ⟨W5, hW5⟩ : ∃ W5, W5 = ((((w.alloc (.cells #[.int .i64 x0, .int .i64 x1, .slice a1 n1 c1, .slice a2 n2 c2, .slice a3 n3 c3, .slice a4 n4 c4] 36)).alloc (.cells #[.int .i64 5, .int .i64 o.lock, .int .i64 o.lk, .int .i64 o.ls, .int .i64 o.lt, .int .i64 o.old, .int .i64 o.new, .int .i64 o.vn, .bool o.pe.en.ad.v6, .int .u64 o.pe.en.ad.hi, .int .u64 o.pe.en.ad.lo, .int .i64 o.pe.en.port, .bool o.pe.came, .int .i64 o.pe.since, .int .i64 o.pe.pts, .int .i64 o.pe.at_, .int .i64 o.pe.ping, .int .i64 o.pe.work, .slice oa nb oc, .slice ka nk kc, .bool o.mark] 54)).alloc (.cells #[.int .i64 who] 3)).alloc (.cells #[.int .i64 0, .int .i64 0, .slice none 0 0, .slice none 0 0, .slice none 0 0, .slice none 0 0] 36)).alloc (.cells #[.int .i64 0, .bool false, .int .u64 0, .int .u64 0, .int .i64 0, .bool false, .int .i64 0, .int .i64 0, .int .i64 0, .int .i64 0, .int .i64 0, .slice none 0 0, .slice none 0 0] 52) := ⟨_, rfl⟩
  rw [← hW5]
  have B5 : Below w.heap.size w W5 := by subst hW5; (repeat (first | with_reducible assumption | with_reducible exact Below.refl _ _ | with_reducible refine Below.setCell ?_ (by first | omega | (simp; done) | (simp; omega)) _ | with_reducible refine Below.alloc ?_ (by first | omega | (simp; done) | (simp; omega)) _ | with_reducible refine Below.drew ?_ | (with_reducible refine Below.trans ?_ (Below.mono (by with_reducible assumption) (by first | omega | (simp; done) | (simp; omega)))) | (refine Below.trans ?_ (Below.mono (by assumption) (by first | omega | (simp; done) | (simp; omega))))))
  have hBm : BlockIs W5 w.heap.size [.int .i64 x0, .int .i64 x1, .slice a1 n1 c1, .slice a2 n2 c2, .slice a3 n3 c3, .slice a4 n4 c4] 36 := by subst hW5; exact ((((BlockIs.new w [.int .i64 x0, .int .i64 x1, .slice a1 n1 c1, .slice a2 n2 c2, .slice a3 n3 c3, .slice a4 n4 c4] _).alloc' _).alloc' _).alloc' _).alloc' _
  have hBo : BlockIs W5 (w.heap.size + 1) [.int .i64 5, .int .i64 o.lock, .int .i64 o.lk, .int .i64 o.ls, .int .i64 o.lt, .int .i64 o.old, .int .i64 o.new, .int .i64 o.vn, .bool o.pe.en.ad.v6, .int .u64 o.pe.en.ad.hi, .int .u64 o.pe.en.ad.lo, .int .i64 o.pe.en.port, .bool o.pe.came, .int .i64 o.pe.since, .int .i64 o.pe.pts, .int .i64 o.pe.at_, .int .i64 o.pe.ping, .int .i64 o.pe.work, .slice oa nb oc, .slice ka nk kc, .bool o.mark] 54 := by subst hW5; exact (((BlockIs.newAt' _ [.int .i64 5, .int .i64 o.lock, .int .i64 o.lk, .int .i64 o.ls, .int .i64 o.lt, .int .i64 o.old, .int .i64 o.new, .int .i64 o.vn, .bool o.pe.en.ad.v6, .int .u64 o.pe.en.ad.hi, .int .u64 o.pe.en.ad.lo, .int .i64 o.pe.en.port, .bool o.pe.came, .int .i64 o.pe.since, .int .i64 o.pe.pts, .int .i64 o.pe.at_, .int .i64 o.pe.ping, .int .i64 o.pe.work, .slice oa nb oc, .slice ka nk kc, .bool o.mark] _ (by simp)).alloc' _).alloc' _).alloc' _
  have hBw : BlockIs W5 (w.heap.size + 1 + 1) [.int .i64 who] 3 := by subst hW5; exact ((BlockIs.newAt' _ [.int .i64 who] _ (by simp)).alloc' _).alloc' _
  have hBr : BlockIs W5 (w.heap.size + 1 + 1 + 1) [.int .i64 0, .int .i64 0, .slice none 0 0, .slice none 0 0, .slice none 0 0, .slice none 0 0] 36 := by subst hW5; exact (BlockIs.newAt' _ [.int .i64 0, .int .i64 0, .slice none 0 0, .slice none 0 0, .slice none 0 0, .slice none 0 0] _ (by simp)).alloc' _
  have hBv : BlockIs W5 (w.heap.size + 1 + 1 + 1 + 1) [.int .i64 0, .bool false, .int .u64 0, .int .u64 0, .int .i64 0, .bool false, .int .i64 0, .int .i64 0, .int .i64 0, .int .i64 0, .int .i64 0, .slice none 0 0, .slice none 0 0] 52 := by subst hW5; exact BlockIs.newAt' _ [.int .i64 0, .bool false, .int .u64 0, .int .u64 0, .int .i64 0, .bool false, .int .i64 0, .int .i64 0, .int .i64 0, .int .i64 0, .int .i64 0, .slice none 0 0, .slice none 0 0] _ (by simp)
  have hs5 : W5.heap.size = w.heap.size + 1 + 1 + 1 + 1 + 1 := by subst hW5; simp
  clear hW5
  have m0 := hBm.cell (i := 0) rfl; have m1 := hBm.cell (i := 1) rfl; have m2 := hBm.cell (i := 2) rfl; have m3 := hBm.cell (i := 3) rfl; have m4 := hBm.cell (i := 4) rfl; have m5 := hBm.cell (i := 5) rfl; have k0 := hBw.cell (i := 0) rfl
  have HBo := Lib.hid hBo
  go_upto_region 4 with (first
    | (refine list_load_blk rfl 54 _ rfl (w.heap.size + 1) [.int .i64 5, .int .i64 o.lock, .int .i64 o.lk, .int .i64 o.ls, .int .i64 o.lt, .int .i64 o.old, .int .i64 o.new, .int .i64 o.vn, .bool o.pe.en.ad.v6, .int .u64 o.pe.en.ad.hi, .int .u64 o.pe.en.ad.lo, .int .i64 o.pe.en.port, .bool o.pe.came, .int .i64 o.pe.since, .int .i64 o.pe.pts, .int .i64 o.pe.at_, .int .i64 o.pe.ping, .int .i64 o.pe.work, .slice oa nb oc, .slice ka nk kc, .bool o.mark] 54 hBo rfl Try.underlying54 (by kernel_rfl) ?_)
    | (go_at_call 9; (with_reducible refine (HMAY.out _ B5).mono ?_); rintro e w1 ⟨rfl, b1⟩; have z1 := b1.size; have B6 := below2 B5 b1; have hBm1 := hBm.below b1; have hBo1 := hBo.below b1; have hBw1 := hBw.below b1; have hBr1 := hBr.below b1; have hBv1 := hBv.below b1; clear m0 m1 m2 m3 m4 m5 k0; have m0 := hBm1.cell (i := 0) rfl; have m1 := hBm1.cell (i := 1) rfl; have m2 := hBm1.cell (i := 2) rfl; have m3 := hBm1.cell (i := 3) rfl; have m4 := hBm1.cell (i := 4) rfl; have m5 := hBm1.cell (i := 5) rfl; have mf := hBm1.frozen; have ml := hBm1.lt; have o0 := hBo1.cell (i := 0) rfl; have o1 := hBo1.cell (i := 1) rfl)
    | (go_at_call 20; (with_reducible refine (HL.out _ B6).mono ?_); rintro e w2 ⟨rfl, b2⟩; have z2 := b2.size; have B7 := below2 B6 b2; have hBm2 := hBm1.below b2; have hBo2 := hBo1.below b2; have hBw2 := hBw1.below b2; have hBr2 := hBr1.below b2; have hBv2 := hBv1.below b2; clear m0 m1 m2 m3 m4 m5 mf ml o0 o1))
  obtain ⟨W3, hW3⟩ : ∃ W3, W3 = w2.alloc (.cells #[.int .i64 qb, .slice qa qn qc] 63) := ⟨_, rfl⟩
  rw [← hW3]
  have B8 : Below w.heap.size w W3 := by subst hW3; exact B7.alloc B7.size _
  have hBm3 : BlockIs W3 w.heap.size [.int .i64 x0, .int .i64 x1, .slice a1 n1 c1, .slice a2 n2 c2, .slice a3 n3 c3, .slice a4 n4 c4] 36 := by subst hW3; exact hBm2.alloc' _
  have hBo3 : BlockIs W3 (w.heap.size + 1) [.int .i64 5, .int .i64 o.lock, .int .i64 o.lk, .int .i64 o.ls, .int .i64 o.lt, .int .i64 o.old, .int .i64 o.new, .int .i64 o.vn, .bool o.pe.en.ad.v6, .int .u64 o.pe.en.ad.hi, .int .u64 o.pe.en.ad.lo, .int .i64 o.pe.en.port, .bool o.pe.came, .int .i64 o.pe.since, .int .i64 o.pe.pts, .int .i64 o.pe.at_, .int .i64 o.pe.ping, .int .i64 o.pe.work, .slice oa nb oc, .slice ka nk kc, .bool o.mark] 54 := by subst hW3; exact hBo2.alloc' _
  have hBw3 : BlockIs W3 (w.heap.size + 1 + 1) [.int .i64 who] 3 := by subst hW3; exact hBw2.alloc' _
  have hBr3 : BlockIs W3 (w.heap.size + 1 + 1 + 1) [.int .i64 0, .int .i64 0, .slice none 0 0, .slice none 0 0, .slice none 0 0, .slice none 0 0] 36 := by subst hW3; exact hBr2.alloc' _
  have hBv3 : BlockIs W3 (w.heap.size + 1 + 1 + 1 + 1) [.int .i64 0, .bool false, .int .u64 0, .int .u64 0, .int .i64 0, .bool false, .int .i64 0, .int .i64 0, .int .i64 0, .int .i64 0, .int .i64 0, .slice none 0 0, .slice none 0 0] 52 := by subst hW3; exact hBv2.alloc' _
  have hBl3 : BlockIs W3 w2.heap.size [.int .i64 qb, .slice qa qn qc] 63 := by subst hW3; exact BlockIs.new w2 [.int .i64 qb, .slice qa qn qc] _
  have hs3 : W3.heap.size = w2.heap.size + 1 := by subst hW3; exact World.size_alloc _ _
  have hz3 : w.heap.size + 1 + 1 + 1 + 1 + 1 ≤ w2.heap.size := by omega
  clear hW3 hBm1 hBo1 hBw1 hBr1 hBv1 hBm2 hBo2 hBw2 hBr2 hBv2 hBm hBw hBr hBv hBo
  have m0 := hBm3.cell (i := 0) rfl; have m1 := hBm3.cell (i := 1) rfl; have m2 := hBm3.cell (i := 2) rfl; have m3 := hBm3.cell (i := 3) rfl; have m4 := hBm3.cell (i := 4) rfl; have m5 := hBm3.cell (i := 5) rfl; have mf := hBm3.frozen; have ml := hBm3.lt; have o0 := hBo3.cell (i := 0) rfl; have o2 := hBo3.cell (i := 2) rfl; have o3 := hBo3.cell (i := 3) rfl; have o4 := hBo3.cell (i := 4) rfl; have k0 := hBw3.cell (i := 0) rfl; have l0 := hBl3.cell (i := 0) rfl; have l1 := hBl3.cell (i := 1) rfl; have lf := hBl3.frozen; have ll := hBl3.lt
  go_upto_region 17 with fail
  refine wp_region_noPanic ?_
  have hS0 : (fun wq => wq.cell? ⟨w.heap.size, 0, none⟩ = some (.int .i64 x0) ∧ wq.cell? ⟨w.heap.size, 1, none⟩ = some (.int .i64 x1) ∧ wq.cell? ⟨w.heap.size, 2, none⟩ = some (.slice a1 n1 c1) ∧ wq.cell? ⟨w.heap.size, 3, none⟩ = some (.slice a2 n2 c2) ∧ wq.cell? ⟨w.heap.size, 4, none⟩ = some (.slice a3 n3 c3) ∧ wq.cell? ⟨w.heap.size, 5, none⟩ = some (.slice a4 n4 c4) ∧ wq.cell? ⟨w.heap.size + 1, 2, none⟩ = some (.int .i64 o.lk) ∧ wq.cell? ⟨w.heap.size + 1, 3, none⟩ = some (.int .i64 o.ls) ∧ wq.cell? ⟨w.heap.size + 1, 4, none⟩ = some (.int .i64 o.lt)) W3.drew := by
    dsimp only
    (first | go_keep | (simp (disch := omega) [*]; done) | (simp (disch := first | omega | (simp; omega)) [World.cell?_setCell_far, World.cell?_alloc_past, *]; done) | (simp (disch := first | omega | (simp; omega)) [World.cell?_setCell_far, World.cell?_alloc_past, *]; repeat (first | exact rfl | refine ⟨rfl, ?_⟩)))
  refine wp_region_headH (fun wq => wq.cell? ⟨w.heap.size, 0, none⟩ = some (.int .i64 x0) ∧ wq.cell? ⟨w.heap.size, 1, none⟩ = some (.int .i64 x1) ∧ wq.cell? ⟨w.heap.size, 2, none⟩ = some (.slice a1 n1 c1) ∧ wq.cell? ⟨w.heap.size, 3, none⟩ = some (.slice a2 n2 c2) ∧ wq.cell? ⟨w.heap.size, 4, none⟩ = some (.slice a3 n3 c3) ∧ wq.cell? ⟨w.heap.size, 5, none⟩ = some (.slice a4 n4 c4) ∧ wq.cell? ⟨w.heap.size + 1, 2, none⟩ = some (.int .i64 o.lk) ∧ wq.cell? ⟨w.heap.size + 1, 3, none⟩ = some (.int .i64 o.ls) ∧ wq.cell? ⟨w.heap.size + 1, 4, none⟩ = some (.int .i64 o.lt)) 5 (by kernel_rfl) (by kernel_rfl) ?_
  refine headH_take (i := 0) (v := ?qv0) (by kernel_rfl) rfl rfl (by kernel_rfl) (by kernel_rfl) (by kernel_rfl) (fun _ _ _ h => h) (Or.inl ⟨by rfl, ?qy0⟩) (by assumption) ?qr0
  case qy0 =>
    intro wq hSw
    try dsimp only at hSw
    go_simp
    try with_reducible rfl
  try simp only [Act.put, List.setIfInBounds_toArray, List.set_cons_zero, List.set_cons_succ]
  refine headH_take (i := 1) (v := ?qv1) (by kernel_rfl) rfl rfl (by kernel_rfl) (by kernel_rfl) (by kernel_rfl) (fun _ _ _ h => h) (Or.inl ⟨by rfl, ?qy1⟩) (by assumption) ?qr1
  case qy1 =>
    intro wq hSw
    try dsimp only at hSw
    go_simp
    try with_reducible rfl
  try simp only [Act.put, List.setIfInBounds_toArray, List.set_cons_zero, List.set_cons_succ]
  refine headH_take (i := 2) (v := ?qv2) (by kernel_rfl) rfl rfl (by kernel_rfl) (by kernel_rfl) (by kernel_rfl) (fun _ _ _ h => h) (Or.inl ⟨by rfl, ?qy2⟩) (by assumption) ?qr2
  case qy2 =>
    intro wq hSw
    try dsimp only at hSw
    go_simp
    try with_reducible rfl
  try simp only [Act.put, List.setIfInBounds_toArray, List.set_cons_zero, List.set_cons_succ]
  refine headH_take (i := 3) (v := ?qv3) (by kernel_rfl) rfl rfl (by kernel_rfl) (by kernel_rfl) (by kernel_rfl) (fun _ _ _ h => h) (Or.inl ⟨by rfl, ?qy3⟩) (by assumption) ?qr3
  case qy3 =>
    intro wq hSw
    try dsimp only at hSw
    go_simp
    try with_reducible rfl
  try simp only [Act.put, List.setIfInBounds_toArray, List.set_cons_zero, List.set_cons_succ]
  refine headH_one (i := 4) rfl rfl (by kernel_rfl) (fun K hK => ?_)
  go_simp
  go_at_call 26
  refine (HLO.out _ (by first | exact B8 | (repeat (first | with_reducible assumption | with_reducible exact Below.refl _ _ | with_reducible refine Below.setCell ?_ (by first | omega | (simp; done) | (simp; omega)) _ | with_reducible refine Below.alloc ?_ (by first | omega | (simp; done) | (simp; omega)) _ | with_reducible refine Below.drew ?_ | (with_reducible refine Below.trans ?_ (Below.mono (by with_reducible assumption) (by first | omega | (simp; done) | (simp; omega)))) | (refine Below.trans ?_ (Below.mono (by assumption) (by first | omega | (simp; done) | (simp; omega)))))))).mono ?_
  unfold GivesVm
  rintro e w7 ⟨v7, rfl, hF7, hv7, b7⟩
  have hv9 := (hF7 (fun _ => True) _ (Nat.le_refl _)).now trivial
  obtain ⟨_, a8, c8, e8, _⟩ := ba_open hv9.1
  obtain ⟨_, a9, c9, e9, _⟩ := ey_open hv9.2
  obtain ⟨vn, vp, ⟨vb, vbl⟩, ⟨vk, vkl⟩⟩ := v7
  simp only at e8 e9
  subst e8 e9
  have HF7 := Lib.hid (hF7 w0 (w2.heap.size + 1) (by simp only [World.size_drew]; omega)); have HV7 := Lib.hid hv7
  have z7 := b7.size
  simp only [World.size_drew] at z7
  have B9 := below2 (w := w) (by first | exact B8 | (repeat (first | with_reducible assumption | with_reducible exact Below.refl _ _ | with_reducible refine Below.setCell ?_ (by first | omega | (simp; done) | (simp; omega)) _ | with_reducible refine Below.alloc ?_ (by first | omega | (simp; done) | (simp; omega)) _ | with_reducible refine Below.drew ?_ | (with_reducible refine Below.trans ?_ (Below.mono (by with_reducible assumption) (by first | omega | (simp; done) | (simp; omega)))) | (refine Below.trans ?_ (Below.mono (by assumption) (by first | omega | (simp; done) | (simp; omega))))))) b7
  have hBm7 := hBm3.drew'.below b7; have hBo7 := hBo3.drew'.below b7; have hBr7 := hBr3.drew'.below b7; have hBv7 := hBv3.drew'.below b7
  clear hF7 hv7 hv9 m0 m1 m2 m3 m4 m5 mf ml o2 o3 o4 k0 l0 l1 lf ll
  have m0 := hBm7.cell (i := 0) rfl; have m1 := hBm7.cell (i := 1) rfl; have m2 := hBm7.cell (i := 2) rfl; have m3 := hBm7.cell (i := 3) rfl; have m4 := hBm7.cell (i := 4) rfl; have m5 := hBm7.cell (i := 5) rfl; have mf := hBm7.frozen; have ml := hBm7.lt; have o2 := hBo7.cell (i := 2) rfl; have o3 := hBo7.cell (i := 3) rfl; have o4 := hBo7.cell (i := 4) rfl
  refine hK.out _ _ ?_ (fun hS4 => ?_)
  · try dsimp only
    (first | go_keep | (simp (disch := omega) [*]; done) | (simp (disch := first | omega | (simp; omega)) [World.cell?_setCell_far, World.cell?_alloc_past, *]; done) | (simp (disch := first | omega | (simp; omega)) [World.cell?_setCell_far, World.cell?_alloc_past, *]; repeat (first | exact rfl | refine ⟨rfl, ?_⟩)))
  clear hK K
  try simp only [Act.put, List.setIfInBounds_toArray, List.set_cons_zero, List.set_cons_succ]
  refine headH_done (by kernel_rfl) ?_
  simp only [List.drop_succ_cons, List.drop_zero]
  go_wp2_with (first
    | (refine list_store_blk rfl 36 _ _ rfl (w.heap.size + 1 + 1 + 1) _ _ 36 hBr7 rfl rfl (by kernel_rfl) rfl (by simp [Value.oneCell']) w.heap.size w B9 (by omega) ?_; intro w20 hR20 hoth20 hsz20 bw20)
    | (refine list_store_blk rfl 52 _ _ rfl (w.heap.size + 1 + 1 + 1 + 1) _ _ 52 (hoth20 _ _ _ (by omega) hBv7) rfl rfl (by kernel_rfl) rfl (by simp [Value.oneCell']) w.heap.size w bw20 (by omega) ?_; intro w21 hV21 hoth21 hsz21 bw21))
  refine NoPanic.normal ?_
  go_wp2_with fail
  have hR21 := hoth21 _ _ _ (by omega) hR20
  have e90 := hR21.cell (i := 0) rfl; have e91 := hR21.cell (i := 1) rfl; have e92 := hR21.cell (i := 2) rfl; have e93 := hR21.cell (i := 3) rfl; have e94 := hR21.cell (i := 4) rfl; have e95 := hR21.cell (i := 5) rfl; have f90 := hV21.cell (i := 0) rfl; have f91 := hV21.cell (i := 1) rfl; have f92 := hV21.cell (i := 2) rfl; have f93 := hV21.cell (i := 3) rfl; have f94 := hV21.cell (i := 4) rfl; have f95 := hV21.cell (i := 5) rfl; have f96 := hV21.cell (i := 6) rfl; have f97 := hV21.cell (i := 7) rfl; have f98 := hV21.cell (i := 8) rfl; have f99 := hV21.cell (i := 9) rfl; have f910 := hV21.cell (i := 10) rfl; have f911 := hV21.cell (i := 11) rfl; have f912 := hV21.cell (i := 12) rfl
  exact bodyPost_ret (v := .tuple #[.agg #[.int .i64 x0, .int .i64 x1, .slice a1 n1 c1, .slice a2 n2 c2, .slice a3 n3 c3, .slice a4 n4 c4], .agg #[.int .i64 vn, .bool vp.en.ad.v6, .int .u64 vp.en.ad.hi, .int .u64 vp.en.ad.lo, .int .i64 vp.en.port, .bool vp.came, .int .i64 vp.since, .int .i64 vp.pts, .int .i64 vp.at_, .int .i64 vp.ping, .int .i64 vp.work, .slice a8 vbl.length c8, .slice a9 vkl.length c9]]) (by simp [results, Try.results10, go_sem, e90, e91, e92, e93, e94, e95, f90, f91, f92, f93, f94, f95, f96, f97, f98, f99, f910, f911, f912]) rfl ⟨m, ⟨vn, vp, (.slice a8 vbl.length c8, vbl), (.slice a9 vkl.length c9, vkl)⟩, (by rw [HMM.out]), (Firm.old HM.out), ((Firm.keep HF7.out (fun g arr T h1 hb => hoth21 _ _ _ (by omega) (hoth20 _ _ _ (by omega) hb))).from (by omega : B ≤ w2.heap.size + 1)), rfl, HV7.out, bw21⟩
end Go.Proofs.Ytnplgagaoeckoaa
