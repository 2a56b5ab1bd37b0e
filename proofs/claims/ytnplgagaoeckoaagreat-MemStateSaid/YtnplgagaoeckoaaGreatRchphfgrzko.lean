/- Texts put together: MemL4, MemL5, MemL7, MemL8, MemM, Book, StA, StB, New, Held, MmOff, StD, AcV. No condition. -/
import Derived.Test.YtnplgagaoeckoaaGreatRzcxxnqqyxl
import Derived.Test.YtnplgagaoeckoaaGreatRzqhmawytif
import Derived.Test.YtnplgagaoeckoaaGreatRngqlbtqdzu
import Derived.Test.YtnplgagaoeckoaaGreatRhdezyeoumd
import Derived.Test.YtnplgagaoeckoaaGreatRixznyryfjf
import Derived.Test.YtnplgagaoeckoaaGreatRyixibntrkb
import Derived.Test.YtnplgagaoeckoaaGreatRiqzrrrcefq
import Derived.Test.YtnplgagaoeckoaaGreatRhshflinjux
import Derived.Test.YtnplgagaoeckoaaGreatRxzjjbatyix
import Derived.Test.YtnplgagaoeckoaaGreatRwziyrduvnt
import Derived.Test.YtnplgagaoeckoaaGreatRnpousohjol
import Derived.Test.YtnplgagaoeckoaaGreatRypywmygvkt
import Derived.Test.YtnplgagaoeckoaaGreatRrwpejfwmem
import Derived.Test.YtnplgagaoeckoaaGreatRslantadajh
namespace Go.Proofs.YtnplgagaoeckoaaGreat
open Go.RowKit
set_option linter.unusedSimpArgs false
set_option linter.unusedVariables false

set_option maxRecDepth 100000 in
set_option maxHeartbeats 16000000 in
theorem memDo_4 (w0 : World → Prop) (hg : Grows w0) (B : Nat) (m : Mm) (o : Oq) (who : Int) (w : World) (hb0 : w0 w) (hB : B ≤ w.heap.size) (hm : ∀ W, w0 W → MmAt W m) (ho : OqAt w o) (hwho : 0 ≤ who ∧ who ≤ 100) (hmay : mayP m.pl o = true) (hk : o.kind = 4) (hll : m.locks.2.length = m.parts.2.length + 2) (hlen : m.locks.2.length ≤ 1000) (hql : (lkOf m o.lock).l.length ≤ 1000) :
    Calls Tryz.prog 14 #[.agg #[.int .i64 m.inn, .int .i64 m.out, m.bans.1, m.book.1, m.parts.1, m.locks.1], .agg #[.int .i64 o.kind, .int .i64 o.lock, .int .i64 o.lk, .int .i64 o.ls, .int .i64 o.lt, .int .i64 o.old, .int .i64 o.new, .int .i64 o.vn, .bool o.pe.en.ad.v6, .int .u64 o.pe.en.ad.hi, .int .u64 o.pe.en.ad.lo, .int .i64 o.pe.en.port, .bool o.pe.came, .int .i64 o.pe.since, .int .i64 o.pe.pts, .int .i64 o.pe.at_, .int .i64 o.pe.ping, .int .i64 o.pe.work, o.bans.1, o.book.1, .bool o.mark], .int .i64 who] w (GivesDo w0 B w (doP m.pl o who)) := by
  have hres : doP m.pl o who = (lockedP m.pl o.lock ((lockP m.pl o.lock).1, (lockP m.pl o.lock).2.filter fun x => !decide (x = who)), zeroVp) := by unfold doP; rw [if_neg (by rw [hmay]; simp), if_neg (by omega), if_neg (by omega), if_neg (by omega), if_pos hk]
  rw [hres]
  clear hres
  unfold GivesDo
  have h := hm w hb0
  have HM := Lib.hid hm; have HG := Lib.hid hg
  have HMAY := Lib.hid (fun (W : World) (hb : Below w.heap.size w W) => memMay_any m o who W (h.below hb) (ho.below hb))
  rw [hmay] at HMAY
  have HL := Lib.hid (fun (W : World) (hb : Below w.heap.size w W) => memLock_any m o.lock W (h.below hb))
  have HLK := Lib.hid (fun (W : World) (hW : w0 W) => lkOf_at (hm W hW) o.lock)
  obtain ⟨n, hln, hn⟩ := lock_nat hmay (by omega) hll
  have HLD := Lib.hid (fun (B' : Nat) (W : World) (k : Lk) (hW : B' ≤ W.heap.size) (hK : Firm w0 B' W fun W => ReadsL inV 1 W k.v k.l) (hb : Below w.heap.size w W) => mem_locked_in w0 hg B' m n k W (hg _ _ hb0 hb) hW hm hK hn hlen)
  have HN := Lib.hid hn
  have HCL := Lib.hid (fun (W : World) (hb : Below w.heap.size w W) => cloneI (lkOf m o.lock).v (lkOf m o.lock).l.length ((lkOf m o.lock).l.flatMap inV) W (ReadsL.below (lkOf_at h o.lock) hb) (inV_ones _) (by omega))
  have HDF := Lib.hid (fun (v : Value) (base : Nat) (W : World) (hown : W.ownsRow base 3 1 v (lkOf m o.lock).l.length ((lkOf m o.lock).l.flatMap inV)) (hbase : base ≤ W.heap.size) (hc : W.cell? ⟨w.heap.size + 1 + 1, 0, none⟩ = some (.int .i64 who)) (hlt : w.heap.size + 1 + 1 < base) => intDeleteFunc 46 #[.pointer (some ⟨w.heap.size + 1 + 1, 0, none⟩)] (fun x => decide (x = who)) v (lkOf m o.lock).l base W hown hbase (by omega) (fun W' x hb => memDo_clo x who _ W' (keep hb hlt hc) (by have := hb.size; omega)) (enters_of Tryz.func46 (by kernel_rfl) rfl))
  obtain ⟨_, qa, qc, eq, _⟩ := ins_open (lkOf_at h o.lock)
  obtain ⟨a1, a2, a3, a4, c1, c2, c3, c4, e1, e2, e3, e4⟩ := mm_slices h
  obtain ⟨_, oa, oc, eo, _⟩ := ba_open ho.1
  obtain ⟨_, ka, kc, ek, _⟩ := ey_open ho.2
  have hmm : m = ⟨m.inn, m.out, (.slice a1 m.bans.2.length c1, m.bans.2), (.slice a2 m.book.2.length c2, m.book.2), (.slice a3 m.parts.2.length c3, m.parts.2), (.slice a4 m.locks.2.length c4, m.locks.2)⟩ := by rw [← e1, ← e2, ← e3, ← e4]
  have HMM := Lib.hid hmm
  have E1 := Lib.hid e1; have E2 := Lib.hid e2; have E3 := Lib.hid e3; have E4 := Lib.hid e4; have EQ := Lib.hid eq; have EO := Lib.hid eo; have EK := Lib.hid ek
  simp only [e1, e2, e3, e4, eo, ek, eq] at HMAY HL HLD HCL
  rw [e1, e2, e3, e4, eo, ek]
  clear e1 e2 e3 e4 eo ek hmm eq
  obtain ⟨x0, hx0⟩ : ∃ x, x = m.inn := ⟨_, rfl⟩
  obtain ⟨x1, hx1⟩ : ∃ x, x = m.out := ⟨_, rfl⟩
  obtain ⟨n1, hn1⟩ : ∃ n, n = m.bans.2.length := ⟨_, rfl⟩
  obtain ⟨n2, hn2⟩ : ∃ n, n = m.book.2.length := ⟨_, rfl⟩
  obtain ⟨n3, hn3⟩ : ∃ n, n = m.parts.2.length := ⟨_, rfl⟩
  obtain ⟨n4, hn4⟩ : ∃ n, n = m.locks.2.length := ⟨_, rfl⟩
  obtain ⟨nb, hnb⟩ : ∃ n, n = o.bans.2.length := ⟨_, rfl⟩
  obtain ⟨nk, hnk⟩ : ∃ n, n = o.book.2.length := ⟨_, rfl⟩
  obtain ⟨qn, hqn⟩ : ∃ n, n = (lkOf m o.lock).l.length := ⟨_, rfl⟩
  obtain ⟨qb, hqb⟩ : ∃ n, n = (lkOf m o.lock).b := ⟨_, rfl⟩
  simp only [← hx0, ← hx1, ← hn1, ← hn2, ← hn3, ← hn4, ← hnb, ← hnk, ← hqn, ← hqb] at HMAY HL HLD HCL ⊢
  rw [← hx0, ← hx1, ← hn1, ← hn2, ← hn3, ← hn4] at HMM
  simp only [hln, hk] at HMAY HL ⊢
  have HLN := Lib.hid hln
  have hwr : IntKind.i64.wrap (who + 1) = who + 1 := by rw [IntKind.wrap_i64]; omega
  have HX0 := Lib.hid hx0; have HX1 := Lib.hid hx1; have HN1 := Lib.hid hn1; have HN2 := Lib.hid hn2; have HN3 := Lib.hid hn3; have HN4 := Lib.hid hn4; have HNB := Lib.hid hnb; have HNK := Lib.hid hnk; have HQN := Lib.hid hqn; have HQB := Lib.hid hqb
  clear h ho hm hg hmay hx0 hx1 hn1 hn2 hn3 hn4 hnb hnk hqn hqb hk hll hlen hn hln hwho hql
  go_enter Tryz.func14, Tryz.ntmps14
  go_upto_region 1 with fail
  obtain ⟨W5, hW5⟩ : ∃ W5, W5 = ((((w.alloc (.cells #[.int .i64 x0, .int .i64 x1, .slice a1 n1 c1, .slice a2 n2 c2, .slice a3 n3 c3, .slice a4 n4 c4] 40)).alloc (.cells #[.int .i64 4, .int .i64 n, .int .i64 o.lk, .int .i64 o.ls, .int .i64 o.lt, .int .i64 o.old, .int .i64 o.new, .int .i64 o.vn, .bool o.pe.en.ad.v6, .int .u64 o.pe.en.ad.hi, .int .u64 o.pe.en.ad.lo, .int .i64 o.pe.en.port, .bool o.pe.came, .int .i64 o.pe.since, .int .i64 o.pe.pts, .int .i64 o.pe.at_, .int .i64 o.pe.ping, .int .i64 o.pe.work, .slice oa nb oc, .slice ka nk kc, .bool o.mark] 56)).alloc (.cells #[.int .i64 who] 3)).alloc (.cells #[.int .i64 0, .int .i64 0, .slice none 0 0, .slice none 0 0, .slice none 0 0, .slice none 0 0] 40)).alloc (.cells #[.int .i64 0, .bool false, .int .u64 0, .int .u64 0, .int .i64 0, .bool false, .int .i64 0, .int .i64 0, .int .i64 0, .int .i64 0, .int .i64 0, .slice none 0 0, .slice none 0 0] 54) := ⟨_, rfl⟩
  rw [← hW5]
  have B5 : Below w.heap.size w W5 := by subst hW5; exact bel
  have hBm : BlockIs W5 w.heap.size [.int .i64 x0, .int .i64 x1, .slice a1 n1 c1, .slice a2 n2 c2, .slice a3 n3 c3, .slice a4 n4 c4] 40 := by subst hW5; exact ((((BlockIs.new w [.int .i64 x0, .int .i64 x1, .slice a1 n1 c1, .slice a2 n2 c2, .slice a3 n3 c3, .slice a4 n4 c4] _).alloc' _).alloc' _).alloc' _).alloc' _
  have hBo : BlockIs W5 (w.heap.size + 1) [.int .i64 4, .int .i64 n, .int .i64 o.lk, .int .i64 o.ls, .int .i64 o.lt, .int .i64 o.old, .int .i64 o.new, .int .i64 o.vn, .bool o.pe.en.ad.v6, .int .u64 o.pe.en.ad.hi, .int .u64 o.pe.en.ad.lo, .int .i64 o.pe.en.port, .bool o.pe.came, .int .i64 o.pe.since, .int .i64 o.pe.pts, .int .i64 o.pe.at_, .int .i64 o.pe.ping, .int .i64 o.pe.work, .slice oa nb oc, .slice ka nk kc, .bool o.mark] 56 := by subst hW5; exact (((BlockIs.newAt' _ [.int .i64 4, .int .i64 n, .int .i64 o.lk, .int .i64 o.ls, .int .i64 o.lt, .int .i64 o.old, .int .i64 o.new, .int .i64 o.vn, .bool o.pe.en.ad.v6, .int .u64 o.pe.en.ad.hi, .int .u64 o.pe.en.ad.lo, .int .i64 o.pe.en.port, .bool o.pe.came, .int .i64 o.pe.since, .int .i64 o.pe.pts, .int .i64 o.pe.at_, .int .i64 o.pe.ping, .int .i64 o.pe.work, .slice oa nb oc, .slice ka nk kc, .bool o.mark] _ (by simp)).alloc' _).alloc' _).alloc' _
  have hBw : BlockIs W5 (w.heap.size + 1 + 1) [.int .i64 who] 3 := by subst hW5; exact ((BlockIs.newAt' _ [.int .i64 who] _ (by simp)).alloc' _).alloc' _
  have hBr : BlockIs W5 (w.heap.size + 1 + 1 + 1) [.int .i64 0, .int .i64 0, .slice none 0 0, .slice none 0 0, .slice none 0 0, .slice none 0 0] 40 := by subst hW5; exact (BlockIs.newAt' _ [.int .i64 0, .int .i64 0, .slice none 0 0, .slice none 0 0, .slice none 0 0, .slice none 0 0] _ (by simp)).alloc' _
  have hBv : BlockIs W5 (w.heap.size + 1 + 1 + 1 + 1) [.int .i64 0, .bool false, .int .u64 0, .int .u64 0, .int .i64 0, .bool false, .int .i64 0, .int .i64 0, .int .i64 0, .int .i64 0, .int .i64 0, .slice none 0 0, .slice none 0 0] 54 := by subst hW5; exact BlockIs.newAt' _ [.int .i64 0, .bool false, .int .u64 0, .int .u64 0, .int .i64 0, .bool false, .int .i64 0, .int .i64 0, .int .i64 0, .int .i64 0, .int .i64 0, .slice none 0 0, .slice none 0 0] _ (by simp)
  have hs5 : W5.heap.size = w.heap.size + 1 + 1 + 1 + 1 + 1 := by subst hW5; simp
  clear hW5
  have m0 := hBm.cell (i := 0) rfl; have m1 := hBm.cell (i := 1) rfl; have m2 := hBm.cell (i := 2) rfl; have m3 := hBm.cell (i := 3) rfl; have m4 := hBm.cell (i := 4) rfl; have m5 := hBm.cell (i := 5) rfl; have k0 := hBw.cell (i := 0) rfl
  have HBo := Lib.hid hBo
  go_upto_region 4 with (first
    | (refine list_load_blk rfl 56 _ rfl (w.heap.size + 1) [.int .i64 4, .int .i64 n, .int .i64 o.lk, .int .i64 o.ls, .int .i64 o.lt, .int .i64 o.old, .int .i64 o.new, .int .i64 o.vn, .bool o.pe.en.ad.v6, .int .u64 o.pe.en.ad.hi, .int .u64 o.pe.en.ad.lo, .int .i64 o.pe.en.port, .bool o.pe.came, .int .i64 o.pe.since, .int .i64 o.pe.pts, .int .i64 o.pe.at_, .int .i64 o.pe.ping, .int .i64 o.pe.work, .slice oa nb oc, .slice ka nk kc, .bool o.mark] 56 hBo rfl Tryz.underlying56 (by kernel_rfl) ?_)
    | (go_at_call 12; (with_reducible refine (HMAY.out _ B5).mono ?_); rintro e w1 ⟨rfl, b1⟩; have z1 := b1.size; have B6 := below2 B5 b1; have hBm1 := hBm.below b1; have hBo1 := hBo.below b1; have hBw1 := hBw.below b1; have hBr1 := hBr.below b1; have hBv1 := hBv.below b1; clear m0 m1 m2 m3 m4 m5 k0; have m0 := hBm1.cell (i := 0) rfl; have m1 := hBm1.cell (i := 1) rfl; have m2 := hBm1.cell (i := 2) rfl; have m3 := hBm1.cell (i := 3) rfl; have m4 := hBm1.cell (i := 4) rfl; have m5 := hBm1.cell (i := 5) rfl; have mf := hBm1.frozen; have ml := hBm1.lt; have o0 := hBo1.cell (i := 0) rfl; have o1 := hBo1.cell (i := 1) rfl)
    | (go_at_call 39; (with_reducible refine (HL.out _ B6).mono ?_); rintro e w2 ⟨rfl, b2⟩; have z2 := b2.size; have B7 := below2 B6 b2; have hBm2 := hBm1.below b2; have hBo2 := hBo1.below b2; have hBw2 := hBw1.below b2; have hBr2 := hBr1.below b2; have hBv2 := hBv1.below b2; clear m0 m1 m2 m3 m4 m5 mf ml o0 o1))
  obtain ⟨W3, hW3⟩ : ∃ W3, W3 = w2.alloc (.cells #[.int .i64 qb, .slice qa qn qc] 90) := ⟨_, rfl⟩
  rw [← hW3]
  have B8 : Below w.heap.size w W3 := by subst hW3; exact B7.alloc B7.size _
  have hBm3 : BlockIs W3 w.heap.size [.int .i64 x0, .int .i64 x1, .slice a1 n1 c1, .slice a2 n2 c2, .slice a3 n3 c3, .slice a4 n4 c4] 40 := by subst hW3; exact hBm2.alloc' _
  have hBo3 : BlockIs W3 (w.heap.size + 1) [.int .i64 4, .int .i64 n, .int .i64 o.lk, .int .i64 o.ls, .int .i64 o.lt, .int .i64 o.old, .int .i64 o.new, .int .i64 o.vn, .bool o.pe.en.ad.v6, .int .u64 o.pe.en.ad.hi, .int .u64 o.pe.en.ad.lo, .int .i64 o.pe.en.port, .bool o.pe.came, .int .i64 o.pe.since, .int .i64 o.pe.pts, .int .i64 o.pe.at_, .int .i64 o.pe.ping, .int .i64 o.pe.work, .slice oa nb oc, .slice ka nk kc, .bool o.mark] 56 := by subst hW3; exact hBo2.alloc' _
  have hBw3 : BlockIs W3 (w.heap.size + 1 + 1) [.int .i64 who] 3 := by subst hW3; exact hBw2.alloc' _
  have hBr3 : BlockIs W3 (w.heap.size + 1 + 1 + 1) [.int .i64 0, .int .i64 0, .slice none 0 0, .slice none 0 0, .slice none 0 0, .slice none 0 0] 40 := by subst hW3; exact hBr2.alloc' _
  have hBv3 : BlockIs W3 (w.heap.size + 1 + 1 + 1 + 1) [.int .i64 0, .bool false, .int .u64 0, .int .u64 0, .int .i64 0, .bool false, .int .i64 0, .int .i64 0, .int .i64 0, .int .i64 0, .int .i64 0, .slice none 0 0, .slice none 0 0] 54 := by subst hW3; exact hBv2.alloc' _
  have hBl3 : BlockIs W3 w2.heap.size [.int .i64 qb, .slice qa qn qc] 90 := by subst hW3; exact BlockIs.new w2 [.int .i64 qb, .slice qa qn qc] _
  have hs3 : W3.heap.size = w2.heap.size + 1 := by subst hW3; exact World.size_alloc _ _
  have hz3 : w.heap.size + 1 + 1 + 1 + 1 + 1 ≤ w2.heap.size := by omega
  clear hW3 hBm1 hBo1 hBw1 hBr1 hBv1 hBm2 hBo2 hBw2 hBr2 hBv2 hBm hBw hBr hBv hBo
  have m0 := hBm3.cell (i := 0) rfl; have m1 := hBm3.cell (i := 1) rfl; have m2 := hBm3.cell (i := 2) rfl; have m3 := hBm3.cell (i := 3) rfl; have m4 := hBm3.cell (i := 4) rfl; have m5 := hBm3.cell (i := 5) rfl; have mf := hBm3.frozen; have ml := hBm3.lt; have o0 := hBo3.cell (i := 0) rfl; have o1 := hBo3.cell (i := 1) rfl; have k0 := hBw3.cell (i := 0) rfl; have l0 := hBl3.cell (i := 0) rfl; have l1 := hBl3.cell (i := 1) rfl; have lf := hBl3.frozen; have ll := hBl3.lt
  go_upto_region 15 with (first
    | (go_at_call 45; (with_reducible refine (HCL.out _ B8).mono ?_); rintro e w5 ⟨r5, rfl, own5, b5⟩; rw [HQN.out] at own5; have HO5 := Lib.hid own5; clear own5; have z5 := b5.size; have B9a := below2 B8 b5; have hBw5 := hBw3.below b5; have kk0 := hBw5.cell (i := 0) rfl)
    | (go_at_call 44; (with_reducible refine (HDF.out _ _ _ HO5.out z5 kk0 (by omega)).mono ?_); rintro e w6 ⟨r6, rfl, own6, b6⟩; obtain ⟨a9, c9, e9⟩ := owns_slice own6; subst e9; have HO6 := Lib.hid own6; clear own6; have b6' := Below.trans b5 b6; have z6 := b6'.size; have B10 := below2 B8 b6'; have hBm6 := hBm3.below b6'; have hBo6 := hBo3.below b6'; have hBr6 := hBr3.below b6'; have hBv6 := hBv3.below b6'; have hBl6 := hBl3.below b6'; clear m0 m1 m2 m3 m4 m5 mf ml o0 o1 k0 l0 l1 lf ll kk0; have m0 := hBm6.cell (i := 0) rfl; have m1 := hBm6.cell (i := 1) rfl; have m2 := hBm6.cell (i := 2) rfl; have m3 := hBm6.cell (i := 3) rfl; have m4 := hBm6.cell (i := 4) rfl; have m5 := hBm6.cell (i := 5) rfl; have mf := hBm6.frozen; have ml := hBm6.lt; have o0 := hBo6.cell (i := 0) rfl; have o1 := hBo6.cell (i := 1) rfl; have l0 := hBl6.cell (i := 0) rfl; have l1 := hBl6.cell (i := 1) rfl; have lf := hBl6.frozen; have ll := hBl6.lt; generalize hrn : ((lkOf m o.lock).l.filter fun x => !decide (x = who)).length = rn at HO6 ⊢; generalize hrl : ((lkOf m o.lock).l.filter fun x => !decide (x = who)) = rls at HO6 hrn; have HRL := Lib.hid hrl; have HRN := Lib.hid hrn; clear hrl hrn))
  go_wp2_with (first
    | (go_at_call 42; (with_reducible refine (HLD.out (w2.heap.size + 1) _ ⟨qb, .slice a9 rn c9, rls⟩ (by first | omega | (simp; omega)) (Firm.keep ((Firm.own HO6.out (by omega : w2.heap.size + 1 ≤ W3.heap.size)).map (fun W h => (by (unfold ReadsL; rw [HRN.out]; exact owns_reads h)))) (fun g arr T h1 hb => (by (have nB1 : g ≠ w2.heap.size := (by omega); have nB2 : w2.heap.size ≠ g := (by omega); ((refine RchW.get ?_); (repeat (first | with_reducible refine reach_set ?_ | with_reducible refine reach_other (by first | assumption | omega) ?_ | with_reducible refine reach_alloc ?_ | with_reducible refine reach_drew ?_)); exact reach_at (hb) rfl))))) (by exact bel)).mono ?_); rintro e w7 ⟨v7, rfl, hM7, b7⟩; have HM7 := Lib.hid hM7; have z7 := b7.size; have B9 := below2 (w := w) (by exact bel) b7; obtain ⟨_, a6, c6, e6, _⟩ := lks_open (hM7.now (HG.out _ _ hb0 B9)).2.2.2.1; simp only [List.length_set] at e6; rw [← HN4.out] at e6; have E6 := Lib.hid e6; subst e6; have hBr7 := (show BlockIs _ (w.heap.size + 1 + 1 + 1) [.int .i64 0, .int .i64 0, .slice none 0 0, .slice none 0 0, .slice none 0 0, .slice none 0 0] 40 from (by ((refine RchW.get ?_); (repeat (first | with_reducible refine reach_set ?_ | with_reducible refine reach_other (by first | assumption | omega) ?_ | with_reducible refine reach_alloc ?_ | with_reducible refine reach_drew ?_)); exact reach_at (hBr6) rfl))).below b7; have hBv7 := (show BlockIs _ (w.heap.size + 1 + 1 + 1 + 1) [.int .i64 0, .bool false, .int .u64 0, .int .u64 0, .int .i64 0, .bool false, .int .i64 0, .int .i64 0, .int .i64 0, .int .i64 0, .int .i64 0, .slice none 0 0, .slice none 0 0] 54 from (by ((refine RchW.get ?_); (repeat (first | with_reducible refine reach_set ?_ | with_reducible refine reach_other (by first | assumption | omega) ?_ | with_reducible refine reach_alloc ?_ | with_reducible refine reach_drew ?_)); exact reach_at (hBv6) rfl))).below b7)
    | (refine list_store_blk rfl 40 _ _ rfl (w.heap.size + 1 + 1 + 1) _ _ 40 hBr7 rfl rfl (by kernel_rfl) rfl (by simp [Value.oneCell']) w.heap.size w B9 (by omega) ?_; intro w20 hR20 hoth20 hsz20 bw20)
    | (refine list_store_blk rfl 54 _ _ rfl (w.heap.size + 1 + 1 + 1 + 1) _ _ 54 (hoth20 _ _ _ (by omega) hBv7) rfl rfl (by kernel_rfl) rfl (by simp [Value.oneCell']) w.heap.size w bw20 (by omega) ?_; intro w21 hV21 hoth21 hsz21 bw21))
  have hR21 := hoth21 _ _ _ (by omega) hR20
  have HF := Lib.hid ((Firm.keep HM7.out (fun g arr T h1 hb => hoth21 _ _ _ (by omega) (hoth20 _ _ _ (by omega) hb))).from (by omega : B ≤ w2.heap.size + 1))
  have e90 := hR21.cell (i := 0) rfl; have e91 := hR21.cell (i := 1) rfl; have e92 := hR21.cell (i := 2) rfl; have e93 := hR21.cell (i := 3) rfl; have e94 := hR21.cell (i := 4) rfl; have e95 := hR21.cell (i := 5) rfl; have f90 := hV21.cell (i := 0) rfl; have f91 := hV21.cell (i := 1) rfl; have f92 := hV21.cell (i := 2) rfl; have f93 := hV21.cell (i := 3) rfl; have f94 := hV21.cell (i := 4) rfl; have f95 := hV21.cell (i := 5) rfl; have f96 := hV21.cell (i := 6) rfl; have f97 := hV21.cell (i := 7) rfl; have f98 := hV21.cell (i := 8) rfl; have f99 := hV21.cell (i := 9) rfl; have f910 := hV21.cell (i := 10) rfl; have f911 := hV21.cell (i := 11) rfl; have f912 := hV21.cell (i := 12) rfl
  exact bodyPost_ret (v := .tuple #[.agg #[.int .i64 x0, .int .i64 x1, .slice a1 n1 c1, .slice a2 n2 c2, .slice a3 n3 c3, .slice a6 n4 c6], .agg #[.int .i64 0, .bool false, .int .u64 0, .int .u64 0, .int .i64 0, .bool false, .int .i64 0, .int .i64 0, .int .i64 0, .int .i64 0, .int .i64 0, .slice none 0 0, .slice none 0 0]]) (by simp [results, Tryz.results14, go_sem, e90, e91, e92, e93, e94, e95, f90, f91, f92, f93, f94, f95, f96, f97, f98, f99, f910, f911, f912]) rfl ⟨⟨x0, x1, m.bans, m.book, m.parts, (.slice a6 n4 c6, m.locks.2.set n ⟨qb, .slice a9 rn c9, rls⟩)⟩, zeroVm, (by first | (simp only [E1.out, E2.out, E3.out, ← HN1.out, ← HN2.out, ← HN3.out]; done) | (simp only [E1.out, E2.out, E3.out, ← HN1.out, ← HN2.out, ← HN3.out]; rfl)), (by rw [HX0.out, HX1.out]; exact HF.out), (Firm.old fun W _ => zeroVm_at W), (by rw [← HLN.out, lkOf_pl]; unfold Mm.pl lockedP setAt; simp only [HLN.out, if_pos (Int.natCast_nonneg n), Int.toNat_natCast, List.map_set, HX0.out, HX1.out, HQB.out, ← HRL.out]), rfl, bw21⟩
end Go.Proofs.YtnplgagaoeckoaaGreat
namespace Go.Proofs.YtnplgagaoeckoaaGreat
open Go.RowKit
set_option linter.unusedSimpArgs false
set_option linter.unusedVariables false

set_option maxRecDepth 100000 in
set_option maxHeartbeats 16000000 in
theorem memDo_5 (w0 : World → Prop) (hg : Grows w0) (B : Nat) (m : Mm) (o : Oq) (who : Int) (w : World) (hb0 : w0 w) (hB : B ≤ w.heap.size) (hm : ∀ W, w0 W → MmAt W m) (ho : OqAt w o) (hmay : mayP m.pl o = true) (hk : o.kind = 5) (hbn : m.bans.2.length ≤ 1000) (hbk : m.book.2.length ≤ 1000) :
    Calls Tryz.prog 14 #[.agg #[.int .i64 m.inn, .int .i64 m.out, m.bans.1, m.book.1, m.parts.1, m.locks.1], .agg #[.int .i64 o.kind, .int .i64 o.lock, .int .i64 o.lk, .int .i64 o.ls, .int .i64 o.lt, .int .i64 o.old, .int .i64 o.new, .int .i64 o.vn, .bool o.pe.en.ad.v6, .int .u64 o.pe.en.ad.hi, .int .u64 o.pe.en.ad.lo, .int .i64 o.pe.en.port, .bool o.pe.came, .int .i64 o.pe.since, .int .i64 o.pe.pts, .int .i64 o.pe.at_, .int .i64 o.pe.ping, .int .i64 o.pe.work, o.bans.1, o.book.1, .bool o.mark], .int .i64 who] w (GivesDo w0 B w (doP m.pl o who)) := by
  have hres : doP m.pl o who = (m.pl, loadP m.pl o.lk o.ls o.lt) := by unfold doP; rw [if_neg (by rw [hmay]; simp), if_neg (by omega), if_neg (by omega), if_neg (by omega), if_neg (by omega), if_pos hk]
  rw [hres]
  clear hres
  unfold GivesDo
  have h := hm w hb0
  have HM := Lib.hid hm; have HG := Lib.hid hg
  have HMAY := Lib.hid (fun (W : World) (hb : Below w.heap.size w W) => memMay_any m o who W (h.below hb) (ho.below hb))
  rw [hmay] at HMAY
  have HL := Lib.hid (fun (W : World) (hb : Below w.heap.size w W) => memLock_any m o.lock W (h.below hb))
  have HLK := Lib.hid (fun (W : World) (hW : w0 W) => lkOf_at (hm W hW) o.lock)
  have hpr := opRight_load (mayP_right hmay) (Or.inl hk)
  have HLO := Lib.hid (fun (W : World) (hb : Below w.heap.size w W) => memLoad_any m o.lk o.ls o.lt W (h.below hb) hbn hbk ⟨hpr.1, hpr.2.1⟩ hpr.2.2.1 hpr.2.2.2)
  obtain ⟨_, qa, qc, eq, _⟩ := ins_open (lkOf_at h o.lock)
  obtain ⟨a1, a2, a3, a4, c1, c2, c3, c4, e1, e2, e3, e4⟩ := mm_slices h
  obtain ⟨_, oa, oc, eo, _⟩ := ba_open ho.1
  obtain ⟨_, ka, kc, ek, _⟩ := ey_open ho.2
  have hmm : m = ⟨m.inn, m.out, (.slice a1 m.bans.2.length c1, m.bans.2), (.slice a2 m.book.2.length c2, m.book.2), (.slice a3 m.parts.2.length c3, m.parts.2), (.slice a4 m.locks.2.length c4, m.locks.2)⟩ := by rw [← e1, ← e2, ← e3, ← e4]
  have HMM := Lib.hid hmm
  have E1 := Lib.hid e1; have E2 := Lib.hid e2; have E3 := Lib.hid e3; have E4 := Lib.hid e4; have EQ := Lib.hid eq; have EO := Lib.hid eo; have EK := Lib.hid ek
  simp only [e1, e2, e3, e4, eo, ek, eq] at HMAY HL HLO
  rw [e1, e2, e3, e4, eo, ek]
  clear e1 e2 e3 e4 eo ek hmm eq
  obtain ⟨x0, hx0⟩ : ∃ x, x = m.inn := ⟨_, rfl⟩
  obtain ⟨x1, hx1⟩ : ∃ x, x = m.out := ⟨_, rfl⟩
  obtain ⟨n1, hn1⟩ : ∃ n, n = m.bans.2.length := ⟨_, rfl⟩
  obtain ⟨n2, hn2⟩ : ∃ n, n = m.book.2.length := ⟨_, rfl⟩
  obtain ⟨n3, hn3⟩ : ∃ n, n = m.parts.2.length := ⟨_, rfl⟩
  obtain ⟨n4, hn4⟩ : ∃ n, n = m.locks.2.length := ⟨_, rfl⟩
  obtain ⟨nb, hnb⟩ : ∃ n, n = o.bans.2.length := ⟨_, rfl⟩
  obtain ⟨nk, hnk⟩ : ∃ n, n = o.book.2.length := ⟨_, rfl⟩
  obtain ⟨qn, hqn⟩ : ∃ n, n = (lkOf m o.lock).l.length := ⟨_, rfl⟩
  obtain ⟨qb, hqb⟩ : ∃ n, n = (lkOf m o.lock).b := ⟨_, rfl⟩
  simp only [← hx0, ← hx1, ← hn1, ← hn2, ← hn3, ← hn4, ← hnb, ← hnk, ← hqn, ← hqb] at HMAY HL HLO ⊢
  rw [← hx0, ← hx1, ← hn1, ← hn2, ← hn3, ← hn4] at HMM
  simp only [hk] at HMAY HL ⊢
  have HX0 := Lib.hid hx0; have HX1 := Lib.hid hx1; have HN1 := Lib.hid hn1; have HN2 := Lib.hid hn2; have HN3 := Lib.hid hn3; have HN4 := Lib.hid hn4; have HNB := Lib.hid hnb; have HNK := Lib.hid hnk; have HQN := Lib.hid hqn; have HQB := Lib.hid hqb
  clear h ho hm hg hmay hx0 hx1 hn1 hn2 hn3 hn4 hnb hnk hqn hqb hk hbn hbk hpr
  go_enter Tryz.func14, Tryz.ntmps14
  go_upto_region 1 with fail
  obtain ⟨W5, hW5⟩ : ∃ W5, W5 = ((((w.alloc (.cells #[.int .i64 x0, .int .i64 x1, .slice a1 n1 c1, .slice a2 n2 c2, .slice a3 n3 c3, .slice a4 n4 c4] 40)).alloc (.cells #[.int .i64 5, .int .i64 o.lock, .int .i64 o.lk, .int .i64 o.ls, .int .i64 o.lt, .int .i64 o.old, .int .i64 o.new, .int .i64 o.vn, .bool o.pe.en.ad.v6, .int .u64 o.pe.en.ad.hi, .int .u64 o.pe.en.ad.lo, .int .i64 o.pe.en.port, .bool o.pe.came, .int .i64 o.pe.since, .int .i64 o.pe.pts, .int .i64 o.pe.at_, .int .i64 o.pe.ping, .int .i64 o.pe.work, .slice oa nb oc, .slice ka nk kc, .bool o.mark] 56)).alloc (.cells #[.int .i64 who] 3)).alloc (.cells #[.int .i64 0, .int .i64 0, .slice none 0 0, .slice none 0 0, .slice none 0 0, .slice none 0 0] 40)).alloc (.cells #[.int .i64 0, .bool false, .int .u64 0, .int .u64 0, .int .i64 0, .bool false, .int .i64 0, .int .i64 0, .int .i64 0, .int .i64 0, .int .i64 0, .slice none 0 0, .slice none 0 0] 54) := ⟨_, rfl⟩
  rw [← hW5]
  have B5 : Below w.heap.size w W5 := by subst hW5; exact bel
  have hBm : BlockIs W5 w.heap.size [.int .i64 x0, .int .i64 x1, .slice a1 n1 c1, .slice a2 n2 c2, .slice a3 n3 c3, .slice a4 n4 c4] 40 := by subst hW5; exact ((((BlockIs.new w [.int .i64 x0, .int .i64 x1, .slice a1 n1 c1, .slice a2 n2 c2, .slice a3 n3 c3, .slice a4 n4 c4] _).alloc' _).alloc' _).alloc' _).alloc' _
  have hBo : BlockIs W5 (w.heap.size + 1) [.int .i64 5, .int .i64 o.lock, .int .i64 o.lk, .int .i64 o.ls, .int .i64 o.lt, .int .i64 o.old, .int .i64 o.new, .int .i64 o.vn, .bool o.pe.en.ad.v6, .int .u64 o.pe.en.ad.hi, .int .u64 o.pe.en.ad.lo, .int .i64 o.pe.en.port, .bool o.pe.came, .int .i64 o.pe.since, .int .i64 o.pe.pts, .int .i64 o.pe.at_, .int .i64 o.pe.ping, .int .i64 o.pe.work, .slice oa nb oc, .slice ka nk kc, .bool o.mark] 56 := by subst hW5; exact (((BlockIs.newAt' _ [.int .i64 5, .int .i64 o.lock, .int .i64 o.lk, .int .i64 o.ls, .int .i64 o.lt, .int .i64 o.old, .int .i64 o.new, .int .i64 o.vn, .bool o.pe.en.ad.v6, .int .u64 o.pe.en.ad.hi, .int .u64 o.pe.en.ad.lo, .int .i64 o.pe.en.port, .bool o.pe.came, .int .i64 o.pe.since, .int .i64 o.pe.pts, .int .i64 o.pe.at_, .int .i64 o.pe.ping, .int .i64 o.pe.work, .slice oa nb oc, .slice ka nk kc, .bool o.mark] _ (by simp)).alloc' _).alloc' _).alloc' _
  have hBw : BlockIs W5 (w.heap.size + 1 + 1) [.int .i64 who] 3 := by subst hW5; exact ((BlockIs.newAt' _ [.int .i64 who] _ (by simp)).alloc' _).alloc' _
  have hBr : BlockIs W5 (w.heap.size + 1 + 1 + 1) [.int .i64 0, .int .i64 0, .slice none 0 0, .slice none 0 0, .slice none 0 0, .slice none 0 0] 40 := by subst hW5; exact (BlockIs.newAt' _ [.int .i64 0, .int .i64 0, .slice none 0 0, .slice none 0 0, .slice none 0 0, .slice none 0 0] _ (by simp)).alloc' _
  have hBv : BlockIs W5 (w.heap.size + 1 + 1 + 1 + 1) [.int .i64 0, .bool false, .int .u64 0, .int .u64 0, .int .i64 0, .bool false, .int .i64 0, .int .i64 0, .int .i64 0, .int .i64 0, .int .i64 0, .slice none 0 0, .slice none 0 0] 54 := by subst hW5; exact BlockIs.newAt' _ [.int .i64 0, .bool false, .int .u64 0, .int .u64 0, .int .i64 0, .bool false, .int .i64 0, .int .i64 0, .int .i64 0, .int .i64 0, .int .i64 0, .slice none 0 0, .slice none 0 0] _ (by simp)
  have hs5 : W5.heap.size = w.heap.size + 1 + 1 + 1 + 1 + 1 := by subst hW5; simp
  clear hW5
  have m0 := hBm.cell (i := 0) rfl; have m1 := hBm.cell (i := 1) rfl; have m2 := hBm.cell (i := 2) rfl; have m3 := hBm.cell (i := 3) rfl; have m4 := hBm.cell (i := 4) rfl; have m5 := hBm.cell (i := 5) rfl; have k0 := hBw.cell (i := 0) rfl
  have HBo := Lib.hid hBo
  go_upto_region 4 with (first
    | (refine list_load_blk rfl 56 _ rfl (w.heap.size + 1) [.int .i64 5, .int .i64 o.lock, .int .i64 o.lk, .int .i64 o.ls, .int .i64 o.lt, .int .i64 o.old, .int .i64 o.new, .int .i64 o.vn, .bool o.pe.en.ad.v6, .int .u64 o.pe.en.ad.hi, .int .u64 o.pe.en.ad.lo, .int .i64 o.pe.en.port, .bool o.pe.came, .int .i64 o.pe.since, .int .i64 o.pe.pts, .int .i64 o.pe.at_, .int .i64 o.pe.ping, .int .i64 o.pe.work, .slice oa nb oc, .slice ka nk kc, .bool o.mark] 56 hBo rfl Tryz.underlying56 (by kernel_rfl) ?_)
    | (go_at_call 12; (with_reducible refine (HMAY.out _ B5).mono ?_); rintro e w1 ⟨rfl, b1⟩; have z1 := b1.size; have B6 := below2 B5 b1; have hBm1 := hBm.below b1; have hBo1 := hBo.below b1; have hBw1 := hBw.below b1; have hBr1 := hBr.below b1; have hBv1 := hBv.below b1; clear m0 m1 m2 m3 m4 m5 k0; have m0 := hBm1.cell (i := 0) rfl; have m1 := hBm1.cell (i := 1) rfl; have m2 := hBm1.cell (i := 2) rfl; have m3 := hBm1.cell (i := 3) rfl; have m4 := hBm1.cell (i := 4) rfl; have m5 := hBm1.cell (i := 5) rfl; have mf := hBm1.frozen; have ml := hBm1.lt; have o0 := hBo1.cell (i := 0) rfl; have o1 := hBo1.cell (i := 1) rfl)
    | (go_at_call 39; (with_reducible refine (HL.out _ B6).mono ?_); rintro e w2 ⟨rfl, b2⟩; have z2 := b2.size; have B7 := below2 B6 b2; have hBm2 := hBm1.below b2; have hBo2 := hBo1.below b2; have hBw2 := hBw1.below b2; have hBr2 := hBr1.below b2; have hBv2 := hBv1.below b2; clear m0 m1 m2 m3 m4 m5 mf ml o0 o1))
  obtain ⟨W3, hW3⟩ : ∃ W3, W3 = w2.alloc (.cells #[.int .i64 qb, .slice qa qn qc] 90) := ⟨_, rfl⟩
  rw [← hW3]
  have B8 : Below w.heap.size w W3 := by subst hW3; exact B7.alloc B7.size _
  have hBm3 : BlockIs W3 w.heap.size [.int .i64 x0, .int .i64 x1, .slice a1 n1 c1, .slice a2 n2 c2, .slice a3 n3 c3, .slice a4 n4 c4] 40 := by subst hW3; exact hBm2.alloc' _
  have hBo3 : BlockIs W3 (w.heap.size + 1) [.int .i64 5, .int .i64 o.lock, .int .i64 o.lk, .int .i64 o.ls, .int .i64 o.lt, .int .i64 o.old, .int .i64 o.new, .int .i64 o.vn, .bool o.pe.en.ad.v6, .int .u64 o.pe.en.ad.hi, .int .u64 o.pe.en.ad.lo, .int .i64 o.pe.en.port, .bool o.pe.came, .int .i64 o.pe.since, .int .i64 o.pe.pts, .int .i64 o.pe.at_, .int .i64 o.pe.ping, .int .i64 o.pe.work, .slice oa nb oc, .slice ka nk kc, .bool o.mark] 56 := by subst hW3; exact hBo2.alloc' _
  have hBw3 : BlockIs W3 (w.heap.size + 1 + 1) [.int .i64 who] 3 := by subst hW3; exact hBw2.alloc' _
  have hBr3 : BlockIs W3 (w.heap.size + 1 + 1 + 1) [.int .i64 0, .int .i64 0, .slice none 0 0, .slice none 0 0, .slice none 0 0, .slice none 0 0] 40 := by subst hW3; exact hBr2.alloc' _
  have hBv3 : BlockIs W3 (w.heap.size + 1 + 1 + 1 + 1) [.int .i64 0, .bool false, .int .u64 0, .int .u64 0, .int .i64 0, .bool false, .int .i64 0, .int .i64 0, .int .i64 0, .int .i64 0, .int .i64 0, .slice none 0 0, .slice none 0 0] 54 := by subst hW3; exact hBv2.alloc' _
  have hBl3 : BlockIs W3 w2.heap.size [.int .i64 qb, .slice qa qn qc] 90 := by subst hW3; exact BlockIs.new w2 [.int .i64 qb, .slice qa qn qc] _
  have hs3 : W3.heap.size = w2.heap.size + 1 := by subst hW3; exact World.size_alloc _ _
  have hz3 : w.heap.size + 1 + 1 + 1 + 1 + 1 ≤ w2.heap.size := by omega
  clear hW3 hBm1 hBo1 hBw1 hBr1 hBv1 hBm2 hBo2 hBw2 hBr2 hBv2 hBm hBw hBr hBv hBo
  have m0 := hBm3.cell (i := 0) rfl; have m1 := hBm3.cell (i := 1) rfl; have m2 := hBm3.cell (i := 2) rfl; have m3 := hBm3.cell (i := 3) rfl; have m4 := hBm3.cell (i := 4) rfl; have m5 := hBm3.cell (i := 5) rfl; have mf := hBm3.frozen; have ml := hBm3.lt; have o0 := hBo3.cell (i := 0) rfl; have o2 := hBo3.cell (i := 2) rfl; have o3 := hBo3.cell (i := 3) rfl; have o4 := hBo3.cell (i := 4) rfl; have k0 := hBw3.cell (i := 0) rfl; have l0 := hBl3.cell (i := 0) rfl; have l1 := hBl3.cell (i := 1) rfl; have lf := hBl3.frozen; have ll := hBl3.lt
  go_upto_region 17 with fail
  refine wp_region_noPanic ?_
  have hS0 : (fun wq => wq.cell? ⟨w.heap.size, 0, none⟩ = some (.int .i64 x0) ∧ wq.cell? ⟨w.heap.size, 1, none⟩ = some (.int .i64 x1) ∧ wq.cell? ⟨w.heap.size, 2, none⟩ = some (.slice a1 n1 c1) ∧ wq.cell? ⟨w.heap.size, 3, none⟩ = some (.slice a2 n2 c2) ∧ wq.cell? ⟨w.heap.size, 4, none⟩ = some (.slice a3 n3 c3) ∧ wq.cell? ⟨w.heap.size, 5, none⟩ = some (.slice a4 n4 c4) ∧ wq.cell? ⟨w.heap.size + 1, 2, none⟩ = some (.int .i64 o.lk) ∧ wq.cell? ⟨w.heap.size + 1, 3, none⟩ = some (.int .i64 o.ls) ∧ wq.cell? ⟨w.heap.size + 1, 4, none⟩ = some (.int .i64 o.lt)) W3.drew := by
    dsimp only
    (first | go_keep | (simp (disch := omega) [*]; done) | (simp (disch := first | omega | (simp; omega)) [World.cell?_setCell_far, World.cell?_alloc_past, *]; done) | (simp (disch := first | omega | (simp; omega)) [World.cell?_setCell_far, World.cell?_alloc_past, *]; repeat (first | exact rfl | refine ⟨rfl, ?_⟩)))
  refine wp_region_headH (fun wq => wq.cell? ⟨w.heap.size, 0, none⟩ = some (.int .i64 x0) ∧ wq.cell? ⟨w.heap.size, 1, none⟩ = some (.int .i64 x1) ∧ wq.cell? ⟨w.heap.size, 2, none⟩ = some (.slice a1 n1 c1) ∧ wq.cell? ⟨w.heap.size, 3, none⟩ = some (.slice a2 n2 c2) ∧ wq.cell? ⟨w.heap.size, 4, none⟩ = some (.slice a3 n3 c3) ∧ wq.cell? ⟨w.heap.size, 5, none⟩ = some (.slice a4 n4 c4) ∧ wq.cell? ⟨w.heap.size + 1, 2, none⟩ = some (.int .i64 o.lk) ∧ wq.cell? ⟨w.heap.size + 1, 3, none⟩ = some (.int .i64 o.ls) ∧ wq.cell? ⟨w.heap.size + 1, 4, none⟩ = some (.int .i64 o.lt)) 5 (by kernel_rfl) (by kernel_rfl) ?_
  refine headH_take (i := 0) (v := ?qv0) (by kernel_rfl) rfl rfl (by kernel_rfl) (by kernel_rfl) (by kernel_rfl) (fun _ _ _ h => h) (Or.inl ⟨by rfl, ?qy0⟩) (by assumption) ?qr0
  case qy0 =>
    intro wq hSw
    try dsimp only at hSw
    go_simp
    try with_reducible rfl
  try simp only [Act.put, List.setIfInBounds_toArray, List.set_cons_zero, List.set_cons_succ]
  refine headH_take (i := 1) (v := ?qv1) (by kernel_rfl) rfl rfl (by kernel_rfl) (by kernel_rfl) (by kernel_rfl) (fun _ _ _ h => h) (Or.inl ⟨by rfl, ?qy1⟩) (by assumption) ?qr1
  case qy1 =>
    intro wq hSw
    try dsimp only at hSw
    go_simp
    try with_reducible rfl
  try simp only [Act.put, List.setIfInBounds_toArray, List.set_cons_zero, List.set_cons_succ]
  refine headH_take (i := 2) (v := ?qv2) (by kernel_rfl) rfl rfl (by kernel_rfl) (by kernel_rfl) (by kernel_rfl) (fun _ _ _ h => h) (Or.inl ⟨by rfl, ?qy2⟩) (by assumption) ?qr2
  case qy2 =>
    intro wq hSw
    try dsimp only at hSw
    go_simp
    try with_reducible rfl
  try simp only [Act.put, List.setIfInBounds_toArray, List.set_cons_zero, List.set_cons_succ]
  refine headH_take (i := 3) (v := ?qv3) (by kernel_rfl) rfl rfl (by kernel_rfl) (by kernel_rfl) (by kernel_rfl) (fun _ _ _ h => h) (Or.inl ⟨by rfl, ?qy3⟩) (by assumption) ?qr3
  case qy3 =>
    intro wq hSw
    try dsimp only at hSw
    go_simp
    try with_reducible rfl
  try simp only [Act.put, List.setIfInBounds_toArray, List.set_cons_zero, List.set_cons_succ]
  refine headH_one (i := 4) rfl rfl (by kernel_rfl) (fun K hK => ?_)
  go_simp
  go_at_call 47
  refine (HLO.out _ (by first | exact B8 | exact bel)).mono ?_
  unfold GivesVm
  rintro e w7 ⟨v7, rfl, hF7, hv7, b7⟩
  have hv9 := (hF7 (fun _ => True) _ (Nat.le_refl _)).now trivial
  obtain ⟨_, a8, c8, e8, _⟩ := ba_open hv9.1
  obtain ⟨_, a9, c9, e9, _⟩ := ey_open hv9.2
  obtain ⟨vn, vp, ⟨vb, vbl⟩, ⟨vk, vkl⟩⟩ := v7
  simp only at e8 e9
  subst e8 e9
  have HF7 := Lib.hid (hF7 w0 (w2.heap.size + 1) (by simp only [World.size_drew]; omega)); have HV7 := Lib.hid hv7
  have z7 := b7.size
  simp only [World.size_drew] at z7
  have B9 := below2 (w := w) (by first | exact B8 | exact bel) b7
  have hBm7 := hBm3.drew'.below b7; have hBo7 := hBo3.drew'.below b7; have hBr7 := hBr3.drew'.below b7; have hBv7 := hBv3.drew'.below b7
  clear hF7 hv7 hv9 m0 m1 m2 m3 m4 m5 mf ml o2 o3 o4 k0 l0 l1 lf ll
  have m0 := hBm7.cell (i := 0) rfl; have m1 := hBm7.cell (i := 1) rfl; have m2 := hBm7.cell (i := 2) rfl; have m3 := hBm7.cell (i := 3) rfl; have m4 := hBm7.cell (i := 4) rfl; have m5 := hBm7.cell (i := 5) rfl; have mf := hBm7.frozen; have ml := hBm7.lt; have o2 := hBo7.cell (i := 2) rfl; have o3 := hBo7.cell (i := 3) rfl; have o4 := hBo7.cell (i := 4) rfl
  refine hK.out _ _ ?_ (fun hS4 => ?_)
  · try dsimp only
    (first | go_keep | (simp (disch := omega) [*]; done) | (simp (disch := first | omega | (simp; omega)) [World.cell?_setCell_far, World.cell?_alloc_past, *]; done) | (simp (disch := first | omega | (simp; omega)) [World.cell?_setCell_far, World.cell?_alloc_past, *]; repeat (first | exact rfl | refine ⟨rfl, ?_⟩)))
  clear hK K
  try simp only [Act.put, List.setIfInBounds_toArray, List.set_cons_zero, List.set_cons_succ]
  refine headH_done (by kernel_rfl) ?_
  simp only [List.drop_succ_cons, List.drop_zero]
  go_wp2_with (first
    | (refine list_store_blk rfl 40 _ _ rfl (w.heap.size + 1 + 1 + 1) _ _ 40 hBr7 rfl rfl (by kernel_rfl) rfl (by simp [Value.oneCell']) w.heap.size w B9 (by omega) ?_; intro w20 hR20 hoth20 hsz20 bw20)
    | (refine list_store_blk rfl 54 _ _ rfl (w.heap.size + 1 + 1 + 1 + 1) _ _ 54 (hoth20 _ _ _ (by omega) hBv7) rfl rfl (by kernel_rfl) rfl (by simp [Value.oneCell']) w.heap.size w bw20 (by omega) ?_; intro w21 hV21 hoth21 hsz21 bw21))
  refine NoPanic.normal ?_
  go_wp2_with fail
  have hR21 := hoth21 _ _ _ (by omega) hR20
  have e90 := hR21.cell (i := 0) rfl; have e91 := hR21.cell (i := 1) rfl; have e92 := hR21.cell (i := 2) rfl; have e93 := hR21.cell (i := 3) rfl; have e94 := hR21.cell (i := 4) rfl; have e95 := hR21.cell (i := 5) rfl; have f90 := hV21.cell (i := 0) rfl; have f91 := hV21.cell (i := 1) rfl; have f92 := hV21.cell (i := 2) rfl; have f93 := hV21.cell (i := 3) rfl; have f94 := hV21.cell (i := 4) rfl; have f95 := hV21.cell (i := 5) rfl; have f96 := hV21.cell (i := 6) rfl; have f97 := hV21.cell (i := 7) rfl; have f98 := hV21.cell (i := 8) rfl; have f99 := hV21.cell (i := 9) rfl; have f910 := hV21.cell (i := 10) rfl; have f911 := hV21.cell (i := 11) rfl; have f912 := hV21.cell (i := 12) rfl
  exact bodyPost_ret (v := .tuple #[.agg #[.int .i64 x0, .int .i64 x1, .slice a1 n1 c1, .slice a2 n2 c2, .slice a3 n3 c3, .slice a4 n4 c4], .agg #[.int .i64 vn, .bool vp.en.ad.v6, .int .u64 vp.en.ad.hi, .int .u64 vp.en.ad.lo, .int .i64 vp.en.port, .bool vp.came, .int .i64 vp.since, .int .i64 vp.pts, .int .i64 vp.at_, .int .i64 vp.ping, .int .i64 vp.work, .slice a8 vbl.length c8, .slice a9 vkl.length c9]]) (by simp [results, Tryz.results14, go_sem, e90, e91, e92, e93, e94, e95, f90, f91, f92, f93, f94, f95, f96, f97, f98, f99, f910, f911, f912]) rfl ⟨m, ⟨vn, vp, (.slice a8 vbl.length c8, vbl), (.slice a9 vkl.length c9, vkl)⟩, (by rw [HMM.out]), (Firm.old HM.out), ((Firm.keep HF7.out (fun g arr T h1 hb => hoth21 _ _ _ (by omega) (hoth20 _ _ _ (by omega) hb))).from (by omega : B ≤ w2.heap.size + 1)), rfl, HV7.out, bw21⟩
end Go.Proofs.YtnplgagaoeckoaaGreat
namespace Go.Proofs.YtnplgagaoeckoaaGreat
open Go.RowKit

set_option maxRecDepth 100000 in
set_option maxHeartbeats 16000000 in
theorem memDo_7 (w0 : World → Prop) (hg : Grows w0) (B : Nat) (m : Mm) (o : Oq) (who : Int) (w : World) (hb0 : w0 w) (hB : B ≤ w.heap.size) (hm : ∀ W, w0 W → MmAt W m) (ho : OqAt w o) (hmay : mayP m.pl o = true) (hk : o.kind = 7) :
    Calls Tryz.prog 14 #[.agg #[.int .i64 m.inn, .int .i64 m.out, m.bans.1, m.book.1, m.parts.1, m.locks.1], .agg #[.int .i64 o.kind, .int .i64 o.lock, .int .i64 o.lk, .int .i64 o.ls, .int .i64 o.lt, .int .i64 o.old, .int .i64 o.new, .int .i64 o.vn, .bool o.pe.en.ad.v6, .int .u64 o.pe.en.ad.hi, .int .u64 o.pe.en.ad.lo, .int .i64 o.pe.en.port, .bool o.pe.came, .int .i64 o.pe.since, .int .i64 o.pe.pts, .int .i64 o.pe.at_, .int .i64 o.pe.ping, .int .i64 o.pe.work, o.bans.1, o.book.1, .bool o.mark], .int .i64 who] w (GivesDo w0 B w (doP m.pl o who)) := by
  have hres : doP m.pl o who = swapP m.pl o.lk o.old o.new := by unfold doP; rw [if_neg (by rw [hmay]; simp), if_neg (by omega), if_neg (by omega), if_neg (by omega), if_neg (by omega), if_neg (by omega), if_neg (by omega), if_pos hk]
  rw [hres]
  clear hres
  unfold GivesDo
  have h := hm w hb0
  have HM := Lib.hid hm; have HG := Lib.hid hg
  have HMAY := Lib.hid (fun (W : World) (hb : Below w.heap.size w W) => memMay_any m o who W (h.below hb) (ho.below hb))
  rw [hmay] at HMAY
  have HL := Lib.hid (fun (W : World) (hb : Below w.heap.size w W) => memLock_any m o.lock W (h.below hb))
  have HLK := Lib.hid (fun (W : World) (hW : w0 W) => lkOf_at (hm W hW) o.lock)
  have HSW := Lib.hid (fun (W : World) (hb : Below w.heap.size w W) => memSwap_any m o W (h.below hb) (ho.below hb))
  obtain ⟨_, qa, qc, eq, _⟩ := ins_open (lkOf_at h o.lock)
  obtain ⟨a1, a2, a3, a4, c1, c2, c3, c4, e1, e2, e3, e4⟩ := mm_slices h
  obtain ⟨_, oa, oc, eo, _⟩ := ba_open ho.1
  obtain ⟨_, ka, kc, ek, _⟩ := ey_open ho.2
  have hmm : m = ⟨m.inn, m.out, (.slice a1 m.bans.2.length c1, m.bans.2), (.slice a2 m.book.2.length c2, m.book.2), (.slice a3 m.parts.2.length c3, m.parts.2), (.slice a4 m.locks.2.length c4, m.locks.2)⟩ := by rw [← e1, ← e2, ← e3, ← e4]
  have HMM := Lib.hid hmm
  have E1 := Lib.hid e1; have E2 := Lib.hid e2; have E3 := Lib.hid e3; have E4 := Lib.hid e4; have EQ := Lib.hid eq; have EO := Lib.hid eo; have EK := Lib.hid ek
  simp only [e1, e2, e3, e4, eo, ek, eq] at HMAY HL HSW
  rw [e1, e2, e3, e4, eo, ek]
  clear e1 e2 e3 e4 eo ek hmm eq
  obtain ⟨x0, hx0⟩ : ∃ x, x = m.inn := ⟨_, rfl⟩
  obtain ⟨x1, hx1⟩ : ∃ x, x = m.out := ⟨_, rfl⟩
  obtain ⟨n1, hn1⟩ : ∃ n, n = m.bans.2.length := ⟨_, rfl⟩
  obtain ⟨n2, hn2⟩ : ∃ n, n = m.book.2.length := ⟨_, rfl⟩
  obtain ⟨n3, hn3⟩ : ∃ n, n = m.parts.2.length := ⟨_, rfl⟩
  obtain ⟨n4, hn4⟩ : ∃ n, n = m.locks.2.length := ⟨_, rfl⟩
  obtain ⟨nb, hnb⟩ : ∃ n, n = o.bans.2.length := ⟨_, rfl⟩
  obtain ⟨nk, hnk⟩ : ∃ n, n = o.book.2.length := ⟨_, rfl⟩
  obtain ⟨qn, hqn⟩ : ∃ n, n = (lkOf m o.lock).l.length := ⟨_, rfl⟩
  obtain ⟨qb, hqb⟩ : ∃ n, n = (lkOf m o.lock).b := ⟨_, rfl⟩
  simp only [← hx0, ← hx1, ← hn1, ← hn2, ← hn3, ← hn4, ← hnb, ← hnk, ← hqn, ← hqb] at HMAY HL HSW ⊢
  rw [← hx0, ← hx1, ← hn1, ← hn2, ← hn3, ← hn4] at HMM
  simp only [hk] at HMAY HL HSW ⊢
  have HX0 := Lib.hid hx0; have HX1 := Lib.hid hx1; have HN1 := Lib.hid hn1; have HN2 := Lib.hid hn2; have HN3 := Lib.hid hn3; have HN4 := Lib.hid hn4; have HNB := Lib.hid hnb; have HNK := Lib.hid hnk; have HQN := Lib.hid hqn; have HQB := Lib.hid hqb
  clear h ho hm hg hmay hx0 hx1 hn1 hn2 hn3 hn4 hnb hnk hqn hqb hk
  go_enter Tryz.func14, Tryz.ntmps14
  go_upto_region 1 with fail
  obtain ⟨W5, hW5⟩ : ∃ W5, W5 = ((((w.alloc (.cells #[.int .i64 x0, .int .i64 x1, .slice a1 n1 c1, .slice a2 n2 c2, .slice a3 n3 c3, .slice a4 n4 c4] 40)).alloc (.cells #[.int .i64 7, .int .i64 o.lock, .int .i64 o.lk, .int .i64 o.ls, .int .i64 o.lt, .int .i64 o.old, .int .i64 o.new, .int .i64 o.vn, .bool o.pe.en.ad.v6, .int .u64 o.pe.en.ad.hi, .int .u64 o.pe.en.ad.lo, .int .i64 o.pe.en.port, .bool o.pe.came, .int .i64 o.pe.since, .int .i64 o.pe.pts, .int .i64 o.pe.at_, .int .i64 o.pe.ping, .int .i64 o.pe.work, .slice oa nb oc, .slice ka nk kc, .bool o.mark] 56)).alloc (.cells #[.int .i64 who] 3)).alloc (.cells #[.int .i64 0, .int .i64 0, .slice none 0 0, .slice none 0 0, .slice none 0 0, .slice none 0 0] 40)).alloc (.cells #[.int .i64 0, .bool false, .int .u64 0, .int .u64 0, .int .i64 0, .bool false, .int .i64 0, .int .i64 0, .int .i64 0, .int .i64 0, .int .i64 0, .slice none 0 0, .slice none 0 0] 54) := ⟨_, rfl⟩
  rw [← hW5]
  have B5 : Below w.heap.size w W5 := by subst hW5; exact bel
  have hBm : BlockIs W5 w.heap.size [.int .i64 x0, .int .i64 x1, .slice a1 n1 c1, .slice a2 n2 c2, .slice a3 n3 c3, .slice a4 n4 c4] 40 := by subst hW5; exact ((((BlockIs.new w [.int .i64 x0, .int .i64 x1, .slice a1 n1 c1, .slice a2 n2 c2, .slice a3 n3 c3, .slice a4 n4 c4] _).alloc' _).alloc' _).alloc' _).alloc' _
  have hBo : BlockIs W5 (w.heap.size + 1) [.int .i64 7, .int .i64 o.lock, .int .i64 o.lk, .int .i64 o.ls, .int .i64 o.lt, .int .i64 o.old, .int .i64 o.new, .int .i64 o.vn, .bool o.pe.en.ad.v6, .int .u64 o.pe.en.ad.hi, .int .u64 o.pe.en.ad.lo, .int .i64 o.pe.en.port, .bool o.pe.came, .int .i64 o.pe.since, .int .i64 o.pe.pts, .int .i64 o.pe.at_, .int .i64 o.pe.ping, .int .i64 o.pe.work, .slice oa nb oc, .slice ka nk kc, .bool o.mark] 56 := by subst hW5; exact (((BlockIs.newAt' _ [.int .i64 7, .int .i64 o.lock, .int .i64 o.lk, .int .i64 o.ls, .int .i64 o.lt, .int .i64 o.old, .int .i64 o.new, .int .i64 o.vn, .bool o.pe.en.ad.v6, .int .u64 o.pe.en.ad.hi, .int .u64 o.pe.en.ad.lo, .int .i64 o.pe.en.port, .bool o.pe.came, .int .i64 o.pe.since, .int .i64 o.pe.pts, .int .i64 o.pe.at_, .int .i64 o.pe.ping, .int .i64 o.pe.work, .slice oa nb oc, .slice ka nk kc, .bool o.mark] _ (by simp)).alloc' _).alloc' _).alloc' _
  have hBw : BlockIs W5 (w.heap.size + 1 + 1) [.int .i64 who] 3 := by subst hW5; exact ((BlockIs.newAt' _ [.int .i64 who] _ (by simp)).alloc' _).alloc' _
  have hBr : BlockIs W5 (w.heap.size + 1 + 1 + 1) [.int .i64 0, .int .i64 0, .slice none 0 0, .slice none 0 0, .slice none 0 0, .slice none 0 0] 40 := by subst hW5; exact (BlockIs.newAt' _ [.int .i64 0, .int .i64 0, .slice none 0 0, .slice none 0 0, .slice none 0 0, .slice none 0 0] _ (by simp)).alloc' _
  have hBv : BlockIs W5 (w.heap.size + 1 + 1 + 1 + 1) [.int .i64 0, .bool false, .int .u64 0, .int .u64 0, .int .i64 0, .bool false, .int .i64 0, .int .i64 0, .int .i64 0, .int .i64 0, .int .i64 0, .slice none 0 0, .slice none 0 0] 54 := by subst hW5; exact BlockIs.newAt' _ [.int .i64 0, .bool false, .int .u64 0, .int .u64 0, .int .i64 0, .bool false, .int .i64 0, .int .i64 0, .int .i64 0, .int .i64 0, .int .i64 0, .slice none 0 0, .slice none 0 0] _ (by simp)
  have hs5 : W5.heap.size = w.heap.size + 1 + 1 + 1 + 1 + 1 := by subst hW5; simp
  clear hW5
  have m0 := hBm.cell (i := 0) rfl; have m1 := hBm.cell (i := 1) rfl; have m2 := hBm.cell (i := 2) rfl; have m3 := hBm.cell (i := 3) rfl; have m4 := hBm.cell (i := 4) rfl; have m5 := hBm.cell (i := 5) rfl; have k0 := hBw.cell (i := 0) rfl
  have HBo := Lib.hid hBo
  go_upto_region 4 with (first
    | (refine list_load_blk rfl 56 _ rfl (w.heap.size + 1) [.int .i64 7, .int .i64 o.lock, .int .i64 o.lk, .int .i64 o.ls, .int .i64 o.lt, .int .i64 o.old, .int .i64 o.new, .int .i64 o.vn, .bool o.pe.en.ad.v6, .int .u64 o.pe.en.ad.hi, .int .u64 o.pe.en.ad.lo, .int .i64 o.pe.en.port, .bool o.pe.came, .int .i64 o.pe.since, .int .i64 o.pe.pts, .int .i64 o.pe.at_, .int .i64 o.pe.ping, .int .i64 o.pe.work, .slice oa nb oc, .slice ka nk kc, .bool o.mark] 56 hBo rfl Tryz.underlying56 (by kernel_rfl) ?_)
    | (go_at_call 12; (with_reducible refine (HMAY.out _ B5).mono ?_); rintro e w1 ⟨rfl, b1⟩; have z1 := b1.size; have B6 := below2 B5 b1; have hBm1 := hBm.below b1; have hBo1 := hBo.below b1; have hBw1 := hBw.below b1; have hBr1 := hBr.below b1; have hBv1 := hBv.below b1; clear m0 m1 m2 m3 m4 m5 k0; have m0 := hBm1.cell (i := 0) rfl; have m1 := hBm1.cell (i := 1) rfl; have m2 := hBm1.cell (i := 2) rfl; have m3 := hBm1.cell (i := 3) rfl; have m4 := hBm1.cell (i := 4) rfl; have m5 := hBm1.cell (i := 5) rfl; have mf := hBm1.frozen; have ml := hBm1.lt; have o0 := hBo1.cell (i := 0) rfl; have o1 := hBo1.cell (i := 1) rfl)
    | (go_at_call 39; (with_reducible refine (HL.out _ B6).mono ?_); rintro e w2 ⟨rfl, b2⟩; have z2 := b2.size; have B7 := below2 B6 b2; have hBm2 := hBm1.below b2; have hBo2 := hBo1.below b2; have hBw2 := hBw1.below b2; have hBr2 := hBr1.below b2; have hBv2 := hBv1.below b2; clear m0 m1 m2 m3 m4 m5 mf ml o0 o1))
  obtain ⟨W3, hW3⟩ : ∃ W3, W3 = w2.alloc (.cells #[.int .i64 qb, .slice qa qn qc] 90) := ⟨_, rfl⟩
  rw [← hW3]
  have B8 : Below w.heap.size w W3 := by subst hW3; exact B7.alloc B7.size _
  have hBm3 : BlockIs W3 w.heap.size [.int .i64 x0, .int .i64 x1, .slice a1 n1 c1, .slice a2 n2 c2, .slice a3 n3 c3, .slice a4 n4 c4] 40 := by subst hW3; exact hBm2.alloc' _
  have hBo3 : BlockIs W3 (w.heap.size + 1) [.int .i64 7, .int .i64 o.lock, .int .i64 o.lk, .int .i64 o.ls, .int .i64 o.lt, .int .i64 o.old, .int .i64 o.new, .int .i64 o.vn, .bool o.pe.en.ad.v6, .int .u64 o.pe.en.ad.hi, .int .u64 o.pe.en.ad.lo, .int .i64 o.pe.en.port, .bool o.pe.came, .int .i64 o.pe.since, .int .i64 o.pe.pts, .int .i64 o.pe.at_, .int .i64 o.pe.ping, .int .i64 o.pe.work, .slice oa nb oc, .slice ka nk kc, .bool o.mark] 56 := by subst hW3; exact hBo2.alloc' _
  have hBw3 : BlockIs W3 (w.heap.size + 1 + 1) [.int .i64 who] 3 := by subst hW3; exact hBw2.alloc' _
  have hBr3 : BlockIs W3 (w.heap.size + 1 + 1 + 1) [.int .i64 0, .int .i64 0, .slice none 0 0, .slice none 0 0, .slice none 0 0, .slice none 0 0] 40 := by subst hW3; exact hBr2.alloc' _
  have hBv3 : BlockIs W3 (w.heap.size + 1 + 1 + 1 + 1) [.int .i64 0, .bool false, .int .u64 0, .int .u64 0, .int .i64 0, .bool false, .int .i64 0, .int .i64 0, .int .i64 0, .int .i64 0, .int .i64 0, .slice none 0 0, .slice none 0 0] 54 := by subst hW3; exact hBv2.alloc' _
  have hBl3 : BlockIs W3 w2.heap.size [.int .i64 qb, .slice qa qn qc] 90 := by subst hW3; exact BlockIs.new w2 [.int .i64 qb, .slice qa qn qc] _
  have hs3 : W3.heap.size = w2.heap.size + 1 := by subst hW3; exact World.size_alloc _ _
  have hz3 : w.heap.size + 1 + 1 + 1 + 1 + 1 ≤ w2.heap.size := by omega
  clear hW3 hBm1 hBo1 hBw1 hBr1 hBv1 hBm2 hBo2 hBw2 hBr2 hBv2 hBm hBw hBr hBv hBo
  have m0 := hBm3.cell (i := 0) rfl; have m1 := hBm3.cell (i := 1) rfl; have m2 := hBm3.cell (i := 2) rfl; have m3 := hBm3.cell (i := 3) rfl; have m4 := hBm3.cell (i := 4) rfl; have m5 := hBm3.cell (i := 5) rfl; have mf := hBm3.frozen; have ml := hBm3.lt; have o0 := hBo3.cell (i := 0) rfl; have o1 := hBo3.cell (i := 1) rfl; have k0 := hBw3.cell (i := 0) rfl; have l0 := hBl3.cell (i := 0) rfl; have l1 := hBl3.cell (i := 1) rfl; have lf := hBl3.frozen; have ll := hBl3.lt
  go_wp2_with (first
    | (refine list_load_blk rfl 56 _ rfl (w.heap.size + 1) [.int .i64 7, .int .i64 o.lock, .int .i64 o.lk, .int .i64 o.ls, .int .i64 o.lt, .int .i64 o.old, .int .i64 o.new, .int .i64 o.vn, .bool o.pe.en.ad.v6, .int .u64 o.pe.en.ad.hi, .int .u64 o.pe.en.ad.lo, .int .i64 o.pe.en.port, .bool o.pe.came, .int .i64 o.pe.since, .int .i64 o.pe.pts, .int .i64 o.pe.at_, .int .i64 o.pe.ping, .int .i64 o.pe.work, .slice oa nb oc, .slice ka nk kc, .bool o.mark] 56 hBo3 rfl Tryz.underlying56 (by kernel_rfl) ?_)
    | (go_at_call 49; (with_reducible refine (HSW.out _ B8).mono ?_); unfold GivesMv; rintro e w7 ⟨m7, v7, rfl, hM7, hV7, p1, p2, b7⟩; have z7 := b7.size; have B9 := below2 (w := w) B8 b7; have hm9 := hM7 _ (HM.out _ (HG.out _ _ hb0 B9)); obtain ⟨d1, d2, d3, d4, g1, g2, g3, g4, u1, u2, u3, u4⟩ := mm_slices hm9; obtain ⟨y0, y1, ⟨y2, l2⟩, ⟨y3, l3⟩, ⟨y4, l4⟩, ⟨y5, l5⟩⟩ := m7; simp only at u1 u2 u3 u4; subst u1 u2 u3 u4; have hv9 := hV7 w7; obtain ⟨_, a8, c8, e8, _⟩ := ba_open hv9.1; obtain ⟨_, a9, c9, e9, _⟩ := ey_open hv9.2; obtain ⟨vn, vp, ⟨vb, vbl⟩, ⟨vk, vkl⟩⟩ := v7; simp only at e8 e9; subst e8 e9; have HM7 := Lib.hid hM7; have HV7 := Lib.hid hV7; have HP1 := Lib.hid p1; have HP2 := Lib.hid p2; have hBr7 := hBr3.below b7; have hBv7 := hBv3.below b7; clear hM7 hV7 p1 p2 hm9 hv9)
    | (refine list_store_blk rfl 40 _ _ rfl (w.heap.size + 1 + 1 + 1) _ _ 40 hBr7 rfl rfl (by kernel_rfl) rfl (by simp [Value.oneCell']) w.heap.size w B9 (by omega) ?_; intro w20 hR20 hoth20 hsz20 bw20)
    | (refine list_store_blk rfl 54 _ _ rfl (w.heap.size + 1 + 1 + 1 + 1) _ _ 54 (hoth20 _ _ _ (by omega) hBv7) rfl rfl (by kernel_rfl) rfl (by simp [Value.oneCell']) w.heap.size w bw20 (by omega) ?_; intro w21 hV21 hoth21 hsz21 bw21))
  have hR21 := hoth21 _ _ _ (by omega) hR20
  have e90 := hR21.cell (i := 0) rfl; have e91 := hR21.cell (i := 1) rfl; have e92 := hR21.cell (i := 2) rfl; have e93 := hR21.cell (i := 3) rfl; have e94 := hR21.cell (i := 4) rfl; have e95 := hR21.cell (i := 5) rfl; have f90 := hV21.cell (i := 0) rfl; have f91 := hV21.cell (i := 1) rfl; have f92 := hV21.cell (i := 2) rfl; have f93 := hV21.cell (i := 3) rfl; have f94 := hV21.cell (i := 4) rfl; have f95 := hV21.cell (i := 5) rfl; have f96 := hV21.cell (i := 6) rfl; have f97 := hV21.cell (i := 7) rfl; have f98 := hV21.cell (i := 8) rfl; have f99 := hV21.cell (i := 9) rfl; have f910 := hV21.cell (i := 10) rfl; have f911 := hV21.cell (i := 11) rfl; have f912 := hV21.cell (i := 12) rfl
  exact bodyPost_ret (v := .tuple #[.agg #[.int .i64 y0, .int .i64 y1, .slice d1 l2.length g1, .slice d2 l3.length g2, .slice d3 l4.length g3, .slice d4 l5.length g4], .agg #[.int .i64 vn, .bool vp.en.ad.v6, .int .u64 vp.en.ad.hi, .int .u64 vp.en.ad.lo, .int .i64 vp.en.port, .bool vp.came, .int .i64 vp.since, .int .i64 vp.pts, .int .i64 vp.at_, .int .i64 vp.ping, .int .i64 vp.work, .slice a8 vbl.length c8, .slice a9 vkl.length c9]]) (by simp [results, Tryz.results14, go_sem, e90, e91, e92, e93, e94, e95, f90, f91, f92, f93, f94, f95, f96, f97, f98, f99, f910, f911, f912]) rfl ⟨⟨y0, y1, (.slice d1 l2.length g1, l2), (.slice d2 l3.length g2, l3), (.slice d3 l4.length g3, l4), (.slice d4 l5.length g4, l5)⟩, ⟨vn, vp, (.slice a8 vbl.length c8, vbl), (.slice a9 vkl.length c9, vkl)⟩, rfl, (Firm.old fun W hW => HM7.out W (HM.out W hW)), (Firm.old fun W _ => HV7.out W), HP1.out, HP2.out, bw21⟩
end Go.Proofs.YtnplgagaoeckoaaGreat
namespace Go.Proofs.YtnplgagaoeckoaaGreat
open Go.RowKit

set_option maxRecDepth 100000 in
set_option maxHeartbeats 16000000 in
theorem memDo_8 (w0 : World → Prop) (hg : Grows w0) (B : Nat) (m : Mm) (o : Oq) (who : Int) (w : World) (hb0 : w0 w) (hB : B ≤ w.heap.size) (hm : ∀ W, w0 W → MmAt W m) (ho : OqAt w o) (hmay : mayP m.pl o = true) (hk : 1 ≤ o.kind → 8 ≤ o.kind) :
    Calls Tryz.prog 14 #[.agg #[.int .i64 m.inn, .int .i64 m.out, m.bans.1, m.book.1, m.parts.1, m.locks.1], .agg #[.int .i64 o.kind, .int .i64 o.lock, .int .i64 o.lk, .int .i64 o.ls, .int .i64 o.lt, .int .i64 o.old, .int .i64 o.new, .int .i64 o.vn, .bool o.pe.en.ad.v6, .int .u64 o.pe.en.ad.hi, .int .u64 o.pe.en.ad.lo, .int .i64 o.pe.en.port, .bool o.pe.came, .int .i64 o.pe.since, .int .i64 o.pe.pts, .int .i64 o.pe.at_, .int .i64 o.pe.ping, .int .i64 o.pe.work, o.bans.1, o.book.1, .bool o.mark], .int .i64 who] w (GivesDo w0 B w (doP m.pl o who)) := by
  have hres : doP m.pl o who = (m.pl, zeroVp) := by unfold doP; rw [if_neg (by rw [hmay]; simp), if_neg (by omega), if_neg (by omega), if_neg (by omega), if_neg (by omega), if_neg (by omega), if_neg (by omega), if_neg (by omega)]
  rw [hres]
  clear hres
  unfold GivesDo
  have h := hm w hb0
  have HM := Lib.hid hm; have HG := Lib.hid hg
  have HMAY := Lib.hid (fun (W : World) (hb : Below w.heap.size w W) => memMay_any m o who W (h.below hb) (ho.below hb))
  rw [hmay] at HMAY
  have HL := Lib.hid (fun (W : World) (hb : Below w.heap.size w W) => memLock_any m o.lock W (h.below hb))
  have HLK := Lib.hid (fun (W : World) (hW : w0 W) => lkOf_at (hm W hW) o.lock)
  have hk1 : o.kind ≠ 1 := (by omega); have hk2 : o.kind ≠ 2 := (by omega); have hk3 : o.kind ≠ 3 := (by omega); have hk4 : o.kind ≠ 4 := (by omega); have hk5 : o.kind ≠ 5 := (by omega); have hk6 : o.kind ≠ 6 := (by omega); have hk7 : o.kind ≠ 7 := (by omega)
  obtain ⟨_, qa, qc, eq, _⟩ := ins_open (lkOf_at h o.lock)
  obtain ⟨a1, a2, a3, a4, c1, c2, c3, c4, e1, e2, e3, e4⟩ := mm_slices h
  obtain ⟨_, oa, oc, eo, _⟩ := ba_open ho.1
  obtain ⟨_, ka, kc, ek, _⟩ := ey_open ho.2
  have hmm : m = ⟨m.inn, m.out, (.slice a1 m.bans.2.length c1, m.bans.2), (.slice a2 m.book.2.length c2, m.book.2), (.slice a3 m.parts.2.length c3, m.parts.2), (.slice a4 m.locks.2.length c4, m.locks.2)⟩ := by rw [← e1, ← e2, ← e3, ← e4]
  have HMM := Lib.hid hmm
  have E1 := Lib.hid e1; have E2 := Lib.hid e2; have E3 := Lib.hid e3; have E4 := Lib.hid e4; have EQ := Lib.hid eq; have EO := Lib.hid eo; have EK := Lib.hid ek
  simp only [e1, e2, e3, e4, eo, ek, eq] at HMAY HL 
  rw [e1, e2, e3, e4, eo, ek]
  clear e1 e2 e3 e4 eo ek hmm eq
  obtain ⟨x0, hx0⟩ : ∃ x, x = m.inn := ⟨_, rfl⟩
  obtain ⟨x1, hx1⟩ : ∃ x, x = m.out := ⟨_, rfl⟩
  obtain ⟨n1, hn1⟩ : ∃ n, n = m.bans.2.length := ⟨_, rfl⟩
  obtain ⟨n2, hn2⟩ : ∃ n, n = m.book.2.length := ⟨_, rfl⟩
  obtain ⟨n3, hn3⟩ : ∃ n, n = m.parts.2.length := ⟨_, rfl⟩
  obtain ⟨n4, hn4⟩ : ∃ n, n = m.locks.2.length := ⟨_, rfl⟩
  obtain ⟨nb, hnb⟩ : ∃ n, n = o.bans.2.length := ⟨_, rfl⟩
  obtain ⟨nk, hnk⟩ : ∃ n, n = o.book.2.length := ⟨_, rfl⟩
  obtain ⟨qn, hqn⟩ : ∃ n, n = (lkOf m o.lock).l.length := ⟨_, rfl⟩
  obtain ⟨qb, hqb⟩ : ∃ n, n = (lkOf m o.lock).b := ⟨_, rfl⟩
  simp only [← hx0, ← hx1, ← hn1, ← hn2, ← hn3, ← hn4, ← hnb, ← hnk, ← hqn, ← hqb] at HMAY HL  ⊢
  rw [← hx0, ← hx1, ← hn1, ← hn2, ← hn3, ← hn4] at HMM
  have f1 : (o.kind == 1) = false := beq_eq_false_iff_ne.2 hk1
  have f2 : (o.kind == 2) = false := beq_eq_false_iff_ne.2 hk2
  have f3 : (o.kind == 3) = false := beq_eq_false_iff_ne.2 hk3
  have f4 : (o.kind == 4) = false := beq_eq_false_iff_ne.2 hk4
  have f5 : (o.kind == 5) = false := beq_eq_false_iff_ne.2 hk5
  have f6 : (o.kind == 6) = false := beq_eq_false_iff_ne.2 hk6
  have f7 : (o.kind == 7) = false := beq_eq_false_iff_ne.2 hk7
  have HX0 := Lib.hid hx0; have HX1 := Lib.hid hx1; have HN1 := Lib.hid hn1; have HN2 := Lib.hid hn2; have HN3 := Lib.hid hn3; have HN4 := Lib.hid hn4; have HNB := Lib.hid hnb; have HNK := Lib.hid hnk; have HQN := Lib.hid hqn; have HQB := Lib.hid hqb
  clear h ho hm hg hmay hx0 hx1 hn1 hn2 hn3 hn4 hnb hnk hqn hqb hk hk1 hk2 hk3 hk4 hk5 hk6 hk7
  go_enter Tryz.func14, Tryz.ntmps14
  go_upto_region 1 with fail
  obtain ⟨W5, hW5⟩ : ∃ W5, W5 = ((((w.alloc (.cells #[.int .i64 x0, .int .i64 x1, .slice a1 n1 c1, .slice a2 n2 c2, .slice a3 n3 c3, .slice a4 n4 c4] 40)).alloc (.cells #[.int .i64 o.kind, .int .i64 o.lock, .int .i64 o.lk, .int .i64 o.ls, .int .i64 o.lt, .int .i64 o.old, .int .i64 o.new, .int .i64 o.vn, .bool o.pe.en.ad.v6, .int .u64 o.pe.en.ad.hi, .int .u64 o.pe.en.ad.lo, .int .i64 o.pe.en.port, .bool o.pe.came, .int .i64 o.pe.since, .int .i64 o.pe.pts, .int .i64 o.pe.at_, .int .i64 o.pe.ping, .int .i64 o.pe.work, .slice oa nb oc, .slice ka nk kc, .bool o.mark] 56)).alloc (.cells #[.int .i64 who] 3)).alloc (.cells #[.int .i64 0, .int .i64 0, .slice none 0 0, .slice none 0 0, .slice none 0 0, .slice none 0 0] 40)).alloc (.cells #[.int .i64 0, .bool false, .int .u64 0, .int .u64 0, .int .i64 0, .bool false, .int .i64 0, .int .i64 0, .int .i64 0, .int .i64 0, .int .i64 0, .slice none 0 0, .slice none 0 0] 54) := ⟨_, rfl⟩
  rw [← hW5]
  have B5 : Below w.heap.size w W5 := by subst hW5; exact bel
  have hBm : BlockIs W5 w.heap.size [.int .i64 x0, .int .i64 x1, .slice a1 n1 c1, .slice a2 n2 c2, .slice a3 n3 c3, .slice a4 n4 c4] 40 := by subst hW5; exact ((((BlockIs.new w [.int .i64 x0, .int .i64 x1, .slice a1 n1 c1, .slice a2 n2 c2, .slice a3 n3 c3, .slice a4 n4 c4] _).alloc' _).alloc' _).alloc' _).alloc' _
  have hBo : BlockIs W5 (w.heap.size + 1) [.int .i64 o.kind, .int .i64 o.lock, .int .i64 o.lk, .int .i64 o.ls, .int .i64 o.lt, .int .i64 o.old, .int .i64 o.new, .int .i64 o.vn, .bool o.pe.en.ad.v6, .int .u64 o.pe.en.ad.hi, .int .u64 o.pe.en.ad.lo, .int .i64 o.pe.en.port, .bool o.pe.came, .int .i64 o.pe.since, .int .i64 o.pe.pts, .int .i64 o.pe.at_, .int .i64 o.pe.ping, .int .i64 o.pe.work, .slice oa nb oc, .slice ka nk kc, .bool o.mark] 56 := by subst hW5; exact (((BlockIs.newAt' _ [.int .i64 o.kind, .int .i64 o.lock, .int .i64 o.lk, .int .i64 o.ls, .int .i64 o.lt, .int .i64 o.old, .int .i64 o.new, .int .i64 o.vn, .bool o.pe.en.ad.v6, .int .u64 o.pe.en.ad.hi, .int .u64 o.pe.en.ad.lo, .int .i64 o.pe.en.port, .bool o.pe.came, .int .i64 o.pe.since, .int .i64 o.pe.pts, .int .i64 o.pe.at_, .int .i64 o.pe.ping, .int .i64 o.pe.work, .slice oa nb oc, .slice ka nk kc, .bool o.mark] _ (by simp)).alloc' _).alloc' _).alloc' _
  have hBw : BlockIs W5 (w.heap.size + 1 + 1) [.int .i64 who] 3 := by subst hW5; exact ((BlockIs.newAt' _ [.int .i64 who] _ (by simp)).alloc' _).alloc' _
  have hBr : BlockIs W5 (w.heap.size + 1 + 1 + 1) [.int .i64 0, .int .i64 0, .slice none 0 0, .slice none 0 0, .slice none 0 0, .slice none 0 0] 40 := by subst hW5; exact (BlockIs.newAt' _ [.int .i64 0, .int .i64 0, .slice none 0 0, .slice none 0 0, .slice none 0 0, .slice none 0 0] _ (by simp)).alloc' _
  have hBv : BlockIs W5 (w.heap.size + 1 + 1 + 1 + 1) [.int .i64 0, .bool false, .int .u64 0, .int .u64 0, .int .i64 0, .bool false, .int .i64 0, .int .i64 0, .int .i64 0, .int .i64 0, .int .i64 0, .slice none 0 0, .slice none 0 0] 54 := by subst hW5; exact BlockIs.newAt' _ [.int .i64 0, .bool false, .int .u64 0, .int .u64 0, .int .i64 0, .bool false, .int .i64 0, .int .i64 0, .int .i64 0, .int .i64 0, .int .i64 0, .slice none 0 0, .slice none 0 0] _ (by simp)
  have hs5 : W5.heap.size = w.heap.size + 1 + 1 + 1 + 1 + 1 := by subst hW5; simp
  clear hW5
  have m0 := hBm.cell (i := 0) rfl; have m1 := hBm.cell (i := 1) rfl; have m2 := hBm.cell (i := 2) rfl; have m3 := hBm.cell (i := 3) rfl; have m4 := hBm.cell (i := 4) rfl; have m5 := hBm.cell (i := 5) rfl; have k0 := hBw.cell (i := 0) rfl
  have HBo := Lib.hid hBo
  go_upto_region 4 with (first
    | (refine list_load_blk rfl 56 _ rfl (w.heap.size + 1) [.int .i64 o.kind, .int .i64 o.lock, .int .i64 o.lk, .int .i64 o.ls, .int .i64 o.lt, .int .i64 o.old, .int .i64 o.new, .int .i64 o.vn, .bool o.pe.en.ad.v6, .int .u64 o.pe.en.ad.hi, .int .u64 o.pe.en.ad.lo, .int .i64 o.pe.en.port, .bool o.pe.came, .int .i64 o.pe.since, .int .i64 o.pe.pts, .int .i64 o.pe.at_, .int .i64 o.pe.ping, .int .i64 o.pe.work, .slice oa nb oc, .slice ka nk kc, .bool o.mark] 56 hBo rfl Tryz.underlying56 (by kernel_rfl) ?_)
    | (go_at_call 12; (with_reducible refine (HMAY.out _ B5).mono ?_); rintro e w1 ⟨rfl, b1⟩; have z1 := b1.size; have B6 := below2 B5 b1; have hBm1 := hBm.below b1; have hBo1 := hBo.below b1; have hBw1 := hBw.below b1; have hBr1 := hBr.below b1; have hBv1 := hBv.below b1; clear m0 m1 m2 m3 m4 m5 k0; have m0 := hBm1.cell (i := 0) rfl; have m1 := hBm1.cell (i := 1) rfl; have m2 := hBm1.cell (i := 2) rfl; have m3 := hBm1.cell (i := 3) rfl; have m4 := hBm1.cell (i := 4) rfl; have m5 := hBm1.cell (i := 5) rfl; have mf := hBm1.frozen; have ml := hBm1.lt; have o0 := hBo1.cell (i := 0) rfl; have o1 := hBo1.cell (i := 1) rfl)
    | (go_at_call 39; (with_reducible refine (HL.out _ B6).mono ?_); rintro e w2 ⟨rfl, b2⟩; have z2 := b2.size; have B7 := below2 B6 b2; have hBm2 := hBm1.below b2; have hBo2 := hBo1.below b2; have hBw2 := hBw1.below b2; have hBr2 := hBr1.below b2; have hBv2 := hBv1.below b2; clear m0 m1 m2 m3 m4 m5 mf ml o0 o1))
  obtain ⟨W3, hW3⟩ : ∃ W3, W3 = w2.alloc (.cells #[.int .i64 qb, .slice qa qn qc] 90) := ⟨_, rfl⟩
  rw [← hW3]
  have B8 : Below w.heap.size w W3 := by subst hW3; exact B7.alloc B7.size _
  have hBm3 : BlockIs W3 w.heap.size [.int .i64 x0, .int .i64 x1, .slice a1 n1 c1, .slice a2 n2 c2, .slice a3 n3 c3, .slice a4 n4 c4] 40 := by subst hW3; exact hBm2.alloc' _
  have hBo3 : BlockIs W3 (w.heap.size + 1) [.int .i64 o.kind, .int .i64 o.lock, .int .i64 o.lk, .int .i64 o.ls, .int .i64 o.lt, .int .i64 o.old, .int .i64 o.new, .int .i64 o.vn, .bool o.pe.en.ad.v6, .int .u64 o.pe.en.ad.hi, .int .u64 o.pe.en.ad.lo, .int .i64 o.pe.en.port, .bool o.pe.came, .int .i64 o.pe.since, .int .i64 o.pe.pts, .int .i64 o.pe.at_, .int .i64 o.pe.ping, .int .i64 o.pe.work, .slice oa nb oc, .slice ka nk kc, .bool o.mark] 56 := by subst hW3; exact hBo2.alloc' _
  have hBw3 : BlockIs W3 (w.heap.size + 1 + 1) [.int .i64 who] 3 := by subst hW3; exact hBw2.alloc' _
  have hBr3 : BlockIs W3 (w.heap.size + 1 + 1 + 1) [.int .i64 0, .int .i64 0, .slice none 0 0, .slice none 0 0, .slice none 0 0, .slice none 0 0] 40 := by subst hW3; exact hBr2.alloc' _
  have hBv3 : BlockIs W3 (w.heap.size + 1 + 1 + 1 + 1) [.int .i64 0, .bool false, .int .u64 0, .int .u64 0, .int .i64 0, .bool false, .int .i64 0, .int .i64 0, .int .i64 0, .int .i64 0, .int .i64 0, .slice none 0 0, .slice none 0 0] 54 := by subst hW3; exact hBv2.alloc' _
  have hBl3 : BlockIs W3 w2.heap.size [.int .i64 qb, .slice qa qn qc] 90 := by subst hW3; exact BlockIs.new w2 [.int .i64 qb, .slice qa qn qc] _
  have hs3 : W3.heap.size = w2.heap.size + 1 := by subst hW3; exact World.size_alloc _ _
  have hz3 : w.heap.size + 1 + 1 + 1 + 1 + 1 ≤ w2.heap.size := by omega
  clear hW3 hBm1 hBo1 hBw1 hBr1 hBv1 hBm2 hBo2 hBw2 hBr2 hBv2 hBm hBw hBr hBv hBo
  have m0 := hBm3.cell (i := 0) rfl; have m1 := hBm3.cell (i := 1) rfl; have m2 := hBm3.cell (i := 2) rfl; have m3 := hBm3.cell (i := 3) rfl; have m4 := hBm3.cell (i := 4) rfl; have m5 := hBm3.cell (i := 5) rfl; have mf := hBm3.frozen; have ml := hBm3.lt; have o0 := hBo3.cell (i := 0) rfl; have o1 := hBo3.cell (i := 1) rfl; have k0 := hBw3.cell (i := 0) rfl; have l0 := hBl3.cell (i := 0) rfl; have l1 := hBl3.cell (i := 1) rfl; have lf := hBl3.frozen; have ll := hBl3.lt
  go_wp2_with (first
    | (refine list_store_blk rfl 40 _ _ rfl (w.heap.size + 1 + 1 + 1) _ _ 40 hBr3 rfl rfl (by kernel_rfl) rfl (by simp [Value.oneCell']) w.heap.size w B8 (by omega) ?_; intro w20 hR20 hoth20 hsz20 bw20)
    | (refine list_store_blk rfl 54 _ _ rfl (w.heap.size + 1 + 1 + 1 + 1) _ _ 54 (hoth20 _ _ _ (by omega) hBv3) rfl rfl (by kernel_rfl) rfl (by simp [Value.oneCell']) w.heap.size w bw20 (by omega) ?_; intro w21 hV21 hoth21 hsz21 bw21))
  have hR21 := hoth21 _ _ _ (by omega) hR20
  have e90 := hR21.cell (i := 0) rfl; have e91 := hR21.cell (i := 1) rfl; have e92 := hR21.cell (i := 2) rfl; have e93 := hR21.cell (i := 3) rfl; have e94 := hR21.cell (i := 4) rfl; have e95 := hR21.cell (i := 5) rfl; have f90 := hV21.cell (i := 0) rfl; have f91 := hV21.cell (i := 1) rfl; have f92 := hV21.cell (i := 2) rfl; have f93 := hV21.cell (i := 3) rfl; have f94 := hV21.cell (i := 4) rfl; have f95 := hV21.cell (i := 5) rfl; have f96 := hV21.cell (i := 6) rfl; have f97 := hV21.cell (i := 7) rfl; have f98 := hV21.cell (i := 8) rfl; have f99 := hV21.cell (i := 9) rfl; have f910 := hV21.cell (i := 10) rfl; have f911 := hV21.cell (i := 11) rfl; have f912 := hV21.cell (i := 12) rfl
  exact bodyPost_ret (v := .tuple #[.agg #[.int .i64 x0, .int .i64 x1, .slice a1 n1 c1, .slice a2 n2 c2, .slice a3 n3 c3, .slice a4 n4 c4], .agg #[.int .i64 0, .bool false, .int .u64 0, .int .u64 0, .int .i64 0, .bool false, .int .i64 0, .int .i64 0, .int .i64 0, .int .i64 0, .int .i64 0, .slice none 0 0, .slice none 0 0]]) (by simp [results, Tryz.results14, go_sem, e90, e91, e92, e93, e94, e95, f90, f91, f92, f93, f94, f95, f96, f97, f98, f99, f910, f911, f912]) rfl ⟨m, zeroVm, (by rw [HMM.out]; rfl), (Firm.old HM.out), (Firm.old fun W _ => zeroVm_at W), rfl, rfl, bw21⟩
end Go.Proofs.YtnplgagaoeckoaaGreat
namespace Go.Proofs.YtnplgagaoeckoaaGreat
open Go.RowKit

/-- what mem.Do wants of a memory -/
def DoOk (m : Mm) : Prop := m.locks.2.length = m.parts.2.length + 2 ∧ m.locks.2.length ≤ 1000 ∧ (∀ k ∈ m.locks.2, k.l.length ≤ 1000 ∧ k.l.Pairwise (· < ·)) ∧ (∀ s ∈ m.parts.2, s.l.length ≤ 100000) ∧ m.bans.2.length ≤ 1000 ∧ m.book.2.length ≤ 1000
theorem memDo_any (w0 : World → Prop) (hg : Grows w0) (B : Nat) (m : Mm) (o : Oq) (who : Int) (w : World) (hb0 : w0 w) (hB : B ≤ w.heap.size) (hm : ∀ W, w0 W → MmAt W m) (ho : OqAt w o) (hwho : 0 ≤ who ∧ who ≤ 100) (hd : DoOk m) (hob : o.bans.2.length ≤ 1000) (hok : o.book.2.length ≤ 1000) :
    Calls Tryz.prog 14 #[.agg #[.int .i64 m.inn, .int .i64 m.out, m.bans.1, m.book.1, m.parts.1, m.locks.1], .agg #[.int .i64 o.kind, .int .i64 o.lock, .int .i64 o.lk, .int .i64 o.ls, .int .i64 o.lt, .int .i64 o.old, .int .i64 o.new, .int .i64 o.vn, .bool o.pe.en.ad.v6, .int .u64 o.pe.en.ad.hi, .int .u64 o.pe.en.ad.lo, .int .i64 o.pe.en.port, .bool o.pe.came, .int .i64 o.pe.since, .int .i64 o.pe.pts, .int .i64 o.pe.at_, .int .i64 o.pe.ping, .int .i64 o.pe.work, o.bans.1, o.book.1, .bool o.mark], .int .i64 who] w (GivesDo w0 B w (doP m.pl o who)) := by
  obtain ⟨hll, hlen, hlk, hpt, hbn, hbk⟩ := hd
  have hsq : ∀ k ∈ m.pl.locks, k.2.Pairwise (· < ·) := fun k hk => by
    unfold Mm.pl at hk
    obtain ⟨q, hq, rfl⟩ := List.mem_map.1 hk
    exact (hlk q hq).2
  have hql : (lkOf m o.lock).l.length ≤ 1000 := by
    rcases getAt_mem (l := m.locks.2) (k := o.lock) (d := zeroLk) with e | e
    · exact (hlk _ e).1
    · unfold lkOf; rw [e]; exact Nat.zero_le _
  have hN : (shOf m o.ls).l.length ≤ 100000 := by
    rcases getAt_mem (l := m.parts.2) (k := o.ls) (d := ⟨0, .slice none 0 0, []⟩) with e | e
    · exact hpt _ e
    · unfold shOf; rw [e]; exact Nat.zero_le _
  cases hmay : mayP m.pl o with
  | false => exact memDo_no w0 hg B m o who w hb0 hB hm ho hmay
  | true =>
    by_cases h1 : o.kind = 1
    · exact memDo_1 w0 hg B m o who w hb0 hB hm ho hwho hmay h1 hll hlen
    by_cases h2 : o.kind = 2
    · exact memDo_2 w0 hg B m o who w hb0 hB hm ho hwho hmay h2 hll hlen hsq hql
    by_cases h3 : o.kind = 3
    · by_cases hb : (lkOf m o.lock).b = who + 1
      · exact memDo_3y w0 hg B m o who w hb0 hB hm ho hwho hmay h3 hll hlen hb
      · exact memDo_3n w0 hg B m o who w hb0 hB hm ho hwho hmay h3 hll hlen hb
    by_cases h4 : o.kind = 4
    · exact memDo_4 w0 hg B m o who w hb0 hB hm ho hwho hmay h4 hll hlen hql
    by_cases h5 : o.kind = 5
    · exact memDo_5 w0 hg B m o who w hb0 hB hm ho hmay h5 hbn hbk
    by_cases h6 : o.kind = 6
    · exact memDo_6 w0 hg B m o who w hb0 hB hm ho hmay h6 (by omega) hN hob hok
    by_cases h7 : o.kind = 7
    · exact memDo_7 w0 hg B m o who w hb0 hB hm ho hmay h7
    · exact memDo_8 w0 hg B m o who w hb0 hB hm ho hmay (by omega)
end Go.Proofs.YtnplgagaoeckoaaGreat
namespace Go.Proofs.YtnplgagaoeckoaaGreat
open Go.RowKit Go.Lib

def cntE (t : Int) (l : List Ey) : Nat := (l.filter fun p => p.state == t).length
theorem cntE_snoc (t : Int) (l : List Ey) (x : Ey) : cntE t (l ++ [x]) = cntE t l + (if x.state = t then 1 else 0) := by
  unfold cntE
  rw [List.filter_append, List.length_append]
  by_cases h : x.state = t <;> simp [h]
theorem cntE_le (t : Int) (l : List Ey) : cntE t l ≤ l.length := List.length_filter_le _ _
set_option maxRecDepth 100000 in
set_option maxHeartbeats 4000000 in
theorem bookCount_any (v : Value) (l : List Ey) (t : Int) (w : World) (h : ReadsL eyV 7 w v l) :
    Calls Tryz.prog 31 #[v, .int .i64 t] w fun e w' => e = .returned (.int .i64 (cntE t l)) ∧ Below w.heap.size w w' := by
  obtain ⟨hm, p, c, rfl, h3⟩ := ey_open h
  clear h
  go_enter Tryz.func31, Tryz.ntmps31
  go_wp2_with fail
  go_loopw [5, 10] (fun n' i' wr => ∃ k : Nat, k ≤ l.length ∧ i' = .int .i64 k ∧ n' = .int .i64 (cntE t (l.take k)) ∧ Hid (Below w.heap.size w wr)) (fun _ i' _ => l.length - (intOf i').toNat)
  case atStart => exact ⟨0, by omega, rfl, rfl, Below.refl _ _⟩
  case round =>
    obtain ⟨k, hk, rfl, rfl, HB⟩ := hrel
    by_cases hlt : k < l.length
    · obtain ⟨x, hx⟩ : ∃ x, l[k]? = some x := ⟨_, List.getElem?_eq_getElem hlt⟩
      obtain ⟨b, o, rfl, h4, h5, h6⟩ := h3 (by omega)
      obtain ⟨k0, k1, k2, k3, k4, k5, k6⟩ := h6 k x hx
      have k0 := keep HB.out h5 k0; have k1 := keep HB.out h5 k1; have k2 := keep HB.out h5 k2; have k3 := keep HB.out h5 k3; have k4 := keep HB.out h5 k4; have k5 := keep HB.out h5 k5; have k6 := keep HB.out h5 k6
      have q1 : (0 : Int) ≤ (k : Int) := by omega
      have q2 : (k : Int) < (l.length : Int) := by omega
      have hS := cntE_snoc t (l.take k) x
      rw [← show l.take (k + 1) = l.take k ++ [x] by rw [List.take_add_one, hx, Option.toList_some]] at hS
      have HS := Lib.hid hS
      have hcl : cntE t (l.take k) ≤ k := Nat.le_trans (cntE_le _ _) (by rw [List.length_take]; omega)
      have b5 : Below wr.heap.size wr (wr.alloc (.cells #[.bool x.en.ad.v6, .int .u64 x.en.ad.hi, .int .u64 x.en.ad.lo, .int .i64 x.en.port, .int .i64 x.state, .int .i64 x.fails, .int .i64 x.next] 87)) := (Below.refl _ _).alloc (Nat.le_refl _) _
      have HB5 := Lib.hid (HB.out.trans (b5.mono HB.out.size))
      clear hx h6 hS b5
      by_cases hc : x.state = t
      · have HS2 : Hid (cntE t (l.take (k + 1)) = cntE t (l.take k) + 1) := by show _ = _; rw [HS.out, if_pos hc]
        have f1 : (x.state == t) = true := by simpa using hc
        clear hc
        go_wp2_with fail
        go_roundw
        case rel => exact ⟨k + 1, by omega, by go_num, by rw [HS2.out]; go_num, HB5.out⟩
        case measure => simp [intOf]; omega
      · have HS2 : Hid (cntE t (l.take (k + 1)) = cntE t (l.take k)) := by show _ = _; rw [HS.out, if_neg hc]; rfl
        have f1 : (x.state == t) = false := by simpa using hc
        clear hc
        go_wp2_with fail
        go_roundw
        case rel => exact ⟨k + 1, by omega, by go_num, by rw [HS2.out], HB5.out⟩
        case measure => simp [intOf]; omega
    · obtain rfl : k = l.length := by omega
      have HR : Hid (cntE t (l.take l.length) = cntE t l) := by show _ = _; rw [List.take_length]
      go_wp2_with fail
      go_ret
      exact ⟨by rw [HR.out]; rfl, HB.out⟩
end Go.Proofs.YtnplgagaoeckoaaGreat
namespace Go.Proofs.YtnplgagaoeckoaaGreat
open Go.RowKit Go.Lib

set_option maxRecDepth 100000 in
set_option maxHeartbeats 4000000 in
theorem refBookCount_any (v : Value) (l : List Ey) (t : Int) (w : World) (h : ReadsL eyV 7 w v l) :
    Calls Tryz.prog 35 #[v, .int .i64 t] w fun e w' => e = .returned (.int .i64 (cntE t l)) ∧ Below w.heap.size w w' := by
  obtain ⟨hm, p, c, rfl, h3⟩ := ey_open h
  clear h
  go_enter Tryz.func35, Tryz.ntmps35
  go_wp2_with fail
  go_loopw [5, 6] (fun n' i' wr => ∃ k : Nat, k ≤ l.length ∧ i' = .int .i64 k ∧ n' = .int .i64 (cntE t (l.take k)) ∧ Hid (Below w.heap.size w wr)) (fun _ i' _ => l.length - (intOf i').toNat)
  case atStart => exact ⟨0, by omega, rfl, rfl, Below.refl _ _⟩
  case round =>
    obtain ⟨k, hk, rfl, rfl, HB⟩ := hrel
    by_cases hlt : k < l.length
    · obtain ⟨x, hx⟩ : ∃ x, l[k]? = some x := ⟨_, List.getElem?_eq_getElem hlt⟩
      obtain ⟨b, o, rfl, h4, h5, h6⟩ := h3 (by omega)
      obtain ⟨k0, k1, k2, k3, k4, k5, k6⟩ := h6 k x hx
      have k4 := keep HB.out h5 k4
      have q1 : (0 : Int) ≤ (k : Int) := by omega
      have q2 : (k : Int) < (l.length : Int) := by omega
      have hS := cntE_snoc t (l.take k) x
      rw [← show l.take (k + 1) = l.take k ++ [x] by rw [List.take_add_one, hx, Option.toList_some]] at hS
      have HS := Lib.hid hS
      have hcl : cntE t (l.take k) ≤ k := Nat.le_trans (cntE_le _ _) (by rw [List.length_take]; omega)
      clear hx h6 hS k0 k1 k2 k3 k5 k6
      by_cases hc : x.state = t
      · have HS2 : Hid (cntE t (l.take (k + 1)) = cntE t (l.take k) + 1) := by show _ = _; rw [HS.out, if_pos hc]
        have f1 : (x.state == t) = true := by simpa using hc
        clear hc
        go_wp2_with fail
        go_roundw
        case rel => exact ⟨k + 1, by omega, by go_num, by rw [HS2.out]; go_num, HB.out⟩
        case measure => simp [intOf]; omega
      · have HS2 : Hid (cntE t (l.take (k + 1)) = cntE t (l.take k)) := by show _ = _; rw [HS.out, if_neg hc]; rfl
        have f1 : (x.state == t) = false := by simpa using hc
        clear hc
        go_wp2_with fail
        go_roundw
        case rel => exact ⟨k + 1, by omega, by go_num, by rw [HS2.out], HB.out⟩
        case measure => simp [intOf]; omega
    · obtain rfl : k = l.length := by omega
      have HR : Hid (cntE t (l.take l.length) = cntE t l) := by show _ = _; rw [List.take_length]
      go_wp2_with fail
      go_ret
      exact ⟨by rw [HR.out]; rfl, HB.out⟩
set_option maxRecDepth 100000 in
set_option maxHeartbeats 4000000 in
theorem dialled_any (vb vk vp : Value) (bl : List Ba) (kl : List Ey) (pl : List Pe) (w : World) (hb : ReadsL baV 5 w vb bl) (hk : ReadsL eyV 7 w vk kl) (hp : ReadsL peV 10 w vp pl) (hkn : kl.length ≤ 1000000) (hpn : pl.length ≤ 1000000) :
    Calls Tryz.prog 24 #[.agg #[vb, vk, vp]] w fun e w' => e = .returned (.int .i64 ((cntL false pl : Int) + (cntE 2 kl : Int))) ∧ Below w.heap.size w w' := by
  have HC := Lib.hid (fun (W : World) (hB : Below w.heap.size w W) => refTcount_any vp pl false W (ReadsL.below hp hB))
  have HE := Lib.hid (fun (W : World) (hB : Below w.heap.size w W) => refBookCount_any vk kl 2 W (ReadsL.below hk hB))
  obtain ⟨_, a1, c1, rfl, _⟩ := ba_open hb
  obtain ⟨_, a2, c2, rfl, _⟩ := ey_open hk
  obtain ⟨_, a3, c3, rfl, _⟩ := pes_open hp
  have hcw : IntKind.i64.wrap ((cntL false pl : Int) + (cntE 2 kl : Int)) = (cntL false pl : Int) + (cntE 2 kl : Int) := by
    have h1 := cntL_le false pl; have h2 := cntE_le 2 kl
    rw [IntKind.wrap_i64]; omega
  clear hb hk hp hkn hpn
  go_enter Tryz.func24, Tryz.ntmps24
  go_upto_region 1 with fail
  obtain ⟨W3, hW3⟩ : ∃ W3, W3 = w.alloc (.cells #[.slice a1 bl.length c1, .slice a2 kl.length c2, .slice a3 pl.length c3] 31) := ⟨_, rfl⟩
  rw [← hW3]
  have B3 : Below w.heap.size w W3 := by subst hW3; exact bel
  have hBx : BlockIs W3 w.heap.size [.slice a1 bl.length c1, .slice a2 kl.length c2, .slice a3 pl.length c3] 31 := by subst hW3; exact BlockIs.new w _ _
  clear hW3
  have s1 := fun y => (hBx.below (ext_below W3 y)).cell (i := 1) rfl
  have s2 := fun y => (hBx.below (ext_below W3 y)).cell (i := 2) rfl
  have HX := Lib.hid (fun y => below2 B3 (ext_below W3 y))
  refine wp_region_ext (by kernel_rfl) (by kernel_rfl) ?_
  repeat (go_big_quiet_step ((first | (go_at_call 34; with_reducible exact qe (HC.out _ (HX.out _))) | (go_at_call 35; with_reducible exact qe (HE.out _ (HX.out _))))))
  refine wpQuiet_nil ?_
  intro _ hw'
  obtain ⟨gx, hw''⟩ := hw'
  subst hw''
  go_wp2_with fail
  go_ret
  exact ⟨rfl, HX.out gx⟩
set_option maxRecDepth 100000 in
set_option maxHeartbeats 4000000 in
theorem small37_any (vb vk vp : Value) (bl : List Ba) (kl : List Ey) (pl : List Pe) (w : World) (hb : ReadsL baV 5 w vb bl) (hk : ReadsL eyV 7 w vk kl) (hp : ReadsL peV 10 w vp pl) :
    Calls Tryz.prog 6 #[.agg #[vb, vk, vp]] w fun e w' => e = .returned (.bool (decide (bl.length ≤ 20) && (decide (kl.length ≤ 20) && decide (pl.length ≤ 20)))) ∧ Below w.heap.size w w' := by
  obtain ⟨_, a1, c1, rfl, _⟩ := ba_open hb
  obtain ⟨_, a2, c2, rfl, _⟩ := ey_open hk
  obtain ⟨_, a3, c3, rfl, _⟩ := pes_open hp
  clear hb hk hp
  generalize bl.length = n1; generalize kl.length = n2; generalize pl.length = n3
  rcases Nat.lt_or_ge 20 n1 with h1 | h1
  · have f1 : decide ((n1 : Int) ≤ 20) = false := decide_eq_false (by omega)
    rw [decide_eq_false (show ¬ n1 ≤ 20 by omega)]
    have f1' : decide (n1 ≤ 20) = false := decide_eq_false (by omega)
    go_enter Tryz.func6, Tryz.ntmps6
    go_wp2_with fail
    go_ret
    exact ⟨rfl, by exact bel⟩
  · have f1 : decide ((n1 : Int) ≤ 20) = true := decide_eq_true (by omega)
    have f1' : decide (n1 ≤ 20) = true := decide_eq_true h1
    rw [f1', Bool.true_and]
    rcases Nat.lt_or_ge 20 n2 with h2 | h2
    · have f2 : decide ((n2 : Int) ≤ 20) = false := decide_eq_false (by omega)
      have f2' : decide (n2 ≤ 20) = false := decide_eq_false (by omega)
      rw [f2', Bool.false_and]
      go_enter Tryz.func6, Tryz.ntmps6
      go_wp2_with fail
      go_ret
      exact ⟨rfl, by exact bel⟩
    · have f2 : decide ((n2 : Int) ≤ 20) = true := decide_eq_true (by omega)
      have f2' : decide (n2 ≤ 20) = true := decide_eq_true h2
      rw [f2', Bool.true_and]
      rcases Nat.lt_or_ge 20 n3 with h3 | h3
      · have f3 : decide ((n3 : Int) ≤ 20) = false := decide_eq_false (by omega)
        have f3' : decide (n3 ≤ 20) = false := decide_eq_false (by omega)
        rw [f3']
        go_enter Tryz.func6, Tryz.ntmps6
        go_wp2_with fail
        go_ret
        exact ⟨rfl, by exact bel⟩
      · have f3 : decide ((n3 : Int) ≤ 20) = true := decide_eq_true (by omega)
        have f3' : decide (n3 ≤ 20) = true := decide_eq_true h3
        rw [f3']
        go_enter Tryz.func6, Tryz.ntmps6
        go_wp2_with fail
        go_ret
        exact ⟨rfl, by exact bel⟩
def fnX {α : Type} (l : List α) (t : α → Bool) : Int := match l.findIdx? t with | some i => (i : Int) | none => -1
theorem fnX_hit {α : Type} {l : List α} {t : α → Bool} {k : Nat} {p : α} (hp : l[k]? = some p) (ht : t p = true) (hA : ∀ j q, j < k → l[j]? = some q → t q = false) : fnX l t = k := by
  have h : l.findIdx? t = some k := by
    rw [List.findIdx?_eq_some_iff_getElem]
    obtain ⟨hk, e⟩ := List.getElem?_eq_some_iff.1 hp
    refine ⟨hk, by rw [e]; exact ht, fun j hj => ?_⟩
    rw [hA j _ hj (List.getElem?_eq_getElem (by omega))]; simp
  unfold fnX; rw [h]
theorem fnX_miss {α : Type} {l : List α} {t : α → Bool} (hA : ∀ j q, j < l.length → l[j]? = some q → t q = false) : fnX l t = -1 := by
  have h : l.findIdx? t = none := by
    rw [List.findIdx?_eq_none_iff]
    intro x hx
    obtain ⟨j, hj, e⟩ := List.getElem_of_mem hx
    exact hA j x hj (by rw [List.getElem?_eq_getElem hj, e])
  unfold fnX; rw [h]
def fdE (l : List Ey) (e : En) : Int := fnX l fun p => decide (p.en = e)
set_option maxRecDepth 100000 in
set_option maxHeartbeats 4000000 in
theorem refBookFind_any (v : Value) (l : List Ey) (en : En) (w : World) (h : ReadsL eyV 7 w v l) :
    Calls Tryz.prog 63 #[v, .agg #[.bool en.ad.v6, .int .u64 en.ad.hi, .int .u64 en.ad.lo, .int .i64 en.port]] w fun e w' => e = .returned (.int .i64 (fdE l en)) ∧ Below w.heap.size w w' := by
  obtain ⟨hm, p, c, rfl, h3⟩ := ey_open h
  clear h
  unfold fdE
  go_enter Tryz.func63, Tryz.ntmps63
  go_upto_region 2 with fail
  go_name_world W0 hW0
  have b0 : Below w.heap.size w W0 := by subst hW0; exact bel
  have s0 : w.heap.size < W0.heap.size := by subst hW0; simp
  have c0 : W0.cell? ⟨w.heap.size, 0, none⟩ = some (.bool en.ad.v6) := by subst hW0; simp [go_sem]
  have c1 : W0.cell? ⟨w.heap.size, 1, none⟩ = some (.int .u64 en.ad.hi) := by subst hW0; simp [go_sem]
  have c2 : W0.cell? ⟨w.heap.size, 2, none⟩ = some (.int .u64 en.ad.lo) := by subst hW0; simp [go_sem]
  have c3 : W0.cell? ⟨w.heap.size, 3, none⟩ = some (.int .i64 en.port) := by subst hW0; simp [go_sem]
  have HB0 := Lib.hid b0
  clear hW0 b0
  go_loopw [5] (fun i' wr => ∃ k : Nat, k ≤ l.length ∧ i' = .int .i64 k ∧ Hid (Below W0.heap.size W0 wr) ∧ Hid (∀ j q, j < k → l[j]? = some q → decide (q.en = en) = false)) (fun i' _ => l.length - (intOf i').toNat)
  case atStart => exact ⟨0, by omega, rfl, Below.refl _ _, fun j q hj => absurd hj (Nat.not_lt_zero _)⟩
  case round =>
    obtain ⟨k, hk, rfl, HB, HA⟩ := hrel
    by_cases hlt : k < l.length
    · obtain ⟨x, hx⟩ : ∃ x, l[k]? = some x := ⟨_, List.getElem?_eq_getElem hlt⟩
      obtain ⟨b, o, rfl, h4, h5, h6⟩ := h3 (by omega)
      obtain ⟨g0, g1, g2, g3, _, _, _⟩ := h6 k x hx
      have hbe := fun Y => (below2 HB0.out HB.out).trans ((ext_below wr Y).mono (below2 HB0.out HB.out).size)
      have kc := fun o => HB.out.cell (p := ⟨w.heap.size, o, none⟩) s0
      have sz := Nat.lt_of_lt_of_le s0 HB.out.size
      have d0 := fun y => (ext_cell wr y (p := ⟨w.heap.size, 0, none⟩) sz).trans ((kc 0).trans c0)
      have d1 := fun y => (ext_cell wr y (p := ⟨w.heap.size, 1, none⟩) sz).trans ((kc 1).trans c1)
      have d2 := fun y => (ext_cell wr y (p := ⟨w.heap.size, 2, none⟩) sz).trans ((kc 2).trans c2)
      have d3 := fun y => (ext_cell wr y (p := ⟨w.heap.size, 3, none⟩) sz).trans ((kc 3).trans c3)
      have x0 := fun y => keep (hbe y) h5 g0; have x1 := fun y => keep (hbe y) h5 g1; have x2 := fun y => keep (hbe y) h5 g2; have x3 := fun y => keep (hbe y) h5 g3
      have hE := eqlEn x.en en
      have HX := Lib.hid hx
      have q1 : (0 : Int) ≤ (k : Int) := by omega
      have q2 : (k : Int) < (l.length : Int) := by omega
      clear hx h6 kc sz c0 c1 c2 c3 g0 g1 g2 g3 hbe
      cases hq : decide (x.en = en) with
      | true =>
        rw [hq] at hE
        have HQ := Lib.hid hq
        clear hq
        go_wp2_with fail
        refine wp_region_ext (by kernel_rfl) (by kernel_rfl) ?_
        repeat (go_big_quiet_step (fail))
        refine wpQuiet_nil ?_
        intro _ hw'
        obtain ⟨y, hw''⟩ := hw'
        subst hw''
        go_wp2_with fail
        go_ret
        refine ⟨?_, below2 HB0.out (HB.out.trans ((ext_below wr y).mono HB.out.size))⟩
        rw [fnX_hit HX.out HQ.out HA.out]; rfl
      | false =>
        rw [hq] at hE
        have HQ := Lib.hid hq
        clear hq
        go_wp2_with fail
        refine wp_region_ext (by kernel_rfl) (by kernel_rfl) ?_
        repeat (go_big_quiet_step (fail))
        refine wpQuiet_nil ?_
        intro _ hw'
        obtain ⟨y, hw''⟩ := hw'
        subst hw''
        go_wp2_with fail
        go_roundw
        case rel =>
          refine ⟨k + 1, by omega, by go_num, HB.out.trans ((ext_below wr y).mono HB.out.size), fun j q hj hq => ?_⟩
          rcases Nat.lt_or_ge j k with e | e
          · exact HA.out j q e hq
          · have : j = k := by omega
            subst this
            rw [HX.out] at hq; injection hq with hq; subst hq; exact HQ.out
        case measure => simp [intOf]; omega
    · obtain rfl : k = l.length := by omega
      go_wp2_with fail
      go_ret
      exact ⟨by rw [fnX_miss HA.out]; rfl, below2 HB0.out HB.out⟩
end Go.Proofs.YtnplgagaoeckoaaGreat
namespace Go.Proofs.YtnplgagaoeckoaaGreat
open Go.RowKit Go.Lib

def eyRight (x : Ey) : Bool := enRight x.en && (decide (1 ≤ x.state) && (decide (x.state ≤ 3) && (decide (0 ≤ x.fails) && (decide (x.fails ≤ 1000) && (decide (0 ≤ x.next) && (decide (x.next ≤ 1099511627776)))))))
set_option maxRecDepth 100000 in
set_option maxHeartbeats 8000000 in
theorem refEyRight_any (x : Ey) (hf : x.en.ad.fits) (w : World) :
    Calls Tryz.prog 84 #[.agg #[.bool x.en.ad.v6, .int .u64 x.en.ad.hi, .int .u64 x.en.ad.lo, .int .i64 x.en.port, .int .i64 x.state, .int .i64 x.fails, .int .i64 x.next]] w fun e w' => e = .returned (.bool (eyRight x)) ∧ Below w.heap.size w w' := by
  have HR := Lib.hid (fun W => refEnRight_any x.en hf W)
  cases he : enRight x.en with
  | false =>
    rw [he] at HR
    rw [show eyRight x = false by unfold eyRight; rw [he]; rfl]
    go_enter Tryz.func84, Tryz.ntmps84
    go_upto_region 1 with fail
    obtain ⟨W3, hW3⟩ : ∃ W3, W3 = w.alloc (.cells #[.bool x.en.ad.v6, .int .u64 x.en.ad.hi, .int .u64 x.en.ad.lo, .int .i64 x.en.port, .int .i64 x.state, .int .i64 x.fails, .int .i64 x.next] 87) := ⟨_, rfl⟩
    rw [← hW3]
    have B3 : Below w.heap.size w W3 := by subst hW3; exact bel
    have hX : BlockIs W3 w.heap.size [.bool x.en.ad.v6, .int .u64 x.en.ad.hi, .int .u64 x.en.ad.lo, .int .i64 x.en.port, .int .i64 x.state, .int .i64 x.fails, .int .i64 x.next] 87 := by subst hW3; exact BlockIs.new w _ _
    clear hW3
    have x0 := hX.cell (i := 0) rfl; have x1 := hX.cell (i := 1) rfl; have x2 := hX.cell (i := 2) rfl; have x3 := hX.cell (i := 3) rfl
    go_wp2_with (go_at_call 105; (with_reducible refine (HR.out _).mono ?_); rintro e w5 ⟨rfl, b5⟩; have hX5 := hX.below b5; have x4 := hX5.cell (i := 4) rfl; have x5 := hX5.cell (i := 5) rfl; have x6 := hX5.cell (i := 6) rfl)
    go_ret
    exact ⟨rfl, below2 B3 b5⟩
  | true =>
    rw [he] at HR
    by_cases c0 : 1 ≤ x.state
    · have f0 : decide (1 ≤ x.state) = true := decide_eq_true c0
      by_cases c1 : x.state ≤ 3
      · have f1 : decide (x.state ≤ 3) = true := decide_eq_true c1
        by_cases c2 : 0 ≤ x.fails
        · have f2 : decide (0 ≤ x.fails) = true := decide_eq_true c2
          by_cases c3 : x.fails ≤ 1000
          · have f3 : decide (x.fails ≤ 1000) = true := decide_eq_true c3
            by_cases c4 : 0 ≤ x.next
            · have f4 : decide (0 ≤ x.next) = true := decide_eq_true c4
              by_cases c5 : x.next ≤ 1099511627776
              · have f5 : decide (x.next ≤ 1099511627776) = true := decide_eq_true c5
                rw [show eyRight x = true by unfold eyRight; rw [he, f0, f1, f2, f3, f4, f5]; rfl]
                go_enter Tryz.func84, Tryz.ntmps84
                go_upto_region 1 with fail
                obtain ⟨W3, hW3⟩ : ∃ W3, W3 = w.alloc (.cells #[.bool x.en.ad.v6, .int .u64 x.en.ad.hi, .int .u64 x.en.ad.lo, .int .i64 x.en.port, .int .i64 x.state, .int .i64 x.fails, .int .i64 x.next] 87) := ⟨_, rfl⟩
                rw [← hW3]
                have B3 : Below w.heap.size w W3 := by subst hW3; exact bel
                have hX : BlockIs W3 w.heap.size [.bool x.en.ad.v6, .int .u64 x.en.ad.hi, .int .u64 x.en.ad.lo, .int .i64 x.en.port, .int .i64 x.state, .int .i64 x.fails, .int .i64 x.next] 87 := by subst hW3; exact BlockIs.new w _ _
                clear hW3
                have x0 := hX.cell (i := 0) rfl; have x1 := hX.cell (i := 1) rfl; have x2 := hX.cell (i := 2) rfl; have x3 := hX.cell (i := 3) rfl
                go_wp2_with (go_at_call 105; (with_reducible refine (HR.out _).mono ?_); rintro e w5 ⟨rfl, b5⟩; have hX5 := hX.below b5; have x4 := hX5.cell (i := 4) rfl; have x5 := hX5.cell (i := 5) rfl; have x6 := hX5.cell (i := 6) rfl)
                go_ret
                exact ⟨rfl, below2 B3 b5⟩
              · have f5 : decide (x.next ≤ 1099511627776) = false := decide_eq_false c5
                rw [show eyRight x = false by unfold eyRight; rw [he, f0, f1, f2, f3, f4, f5]; simp]
                go_enter Tryz.func84, Tryz.ntmps84
                go_upto_region 1 with fail
                obtain ⟨W3, hW3⟩ : ∃ W3, W3 = w.alloc (.cells #[.bool x.en.ad.v6, .int .u64 x.en.ad.hi, .int .u64 x.en.ad.lo, .int .i64 x.en.port, .int .i64 x.state, .int .i64 x.fails, .int .i64 x.next] 87) := ⟨_, rfl⟩
                rw [← hW3]
                have B3 : Below w.heap.size w W3 := by subst hW3; exact bel
                have hX : BlockIs W3 w.heap.size [.bool x.en.ad.v6, .int .u64 x.en.ad.hi, .int .u64 x.en.ad.lo, .int .i64 x.en.port, .int .i64 x.state, .int .i64 x.fails, .int .i64 x.next] 87 := by subst hW3; exact BlockIs.new w _ _
                clear hW3
                have x0 := hX.cell (i := 0) rfl; have x1 := hX.cell (i := 1) rfl; have x2 := hX.cell (i := 2) rfl; have x3 := hX.cell (i := 3) rfl
                go_wp2_with (go_at_call 105; (with_reducible refine (HR.out _).mono ?_); rintro e w5 ⟨rfl, b5⟩; have hX5 := hX.below b5; have x4 := hX5.cell (i := 4) rfl; have x5 := hX5.cell (i := 5) rfl; have x6 := hX5.cell (i := 6) rfl)
                go_ret
                exact ⟨rfl, below2 B3 b5⟩
            · have f4 : decide (0 ≤ x.next) = false := decide_eq_false c4
              rw [show eyRight x = false by unfold eyRight; rw [he, f0, f1, f2, f3, f4]; simp]
              go_enter Tryz.func84, Tryz.ntmps84
              go_upto_region 1 with fail
              obtain ⟨W3, hW3⟩ : ∃ W3, W3 = w.alloc (.cells #[.bool x.en.ad.v6, .int .u64 x.en.ad.hi, .int .u64 x.en.ad.lo, .int .i64 x.en.port, .int .i64 x.state, .int .i64 x.fails, .int .i64 x.next] 87) := ⟨_, rfl⟩
              rw [← hW3]
              have B3 : Below w.heap.size w W3 := by subst hW3; exact bel
              have hX : BlockIs W3 w.heap.size [.bool x.en.ad.v6, .int .u64 x.en.ad.hi, .int .u64 x.en.ad.lo, .int .i64 x.en.port, .int .i64 x.state, .int .i64 x.fails, .int .i64 x.next] 87 := by subst hW3; exact BlockIs.new w _ _
              clear hW3
              have x0 := hX.cell (i := 0) rfl; have x1 := hX.cell (i := 1) rfl; have x2 := hX.cell (i := 2) rfl; have x3 := hX.cell (i := 3) rfl
              go_wp2_with (go_at_call 105; (with_reducible refine (HR.out _).mono ?_); rintro e w5 ⟨rfl, b5⟩; have hX5 := hX.below b5; have x4 := hX5.cell (i := 4) rfl; have x5 := hX5.cell (i := 5) rfl; have x6 := hX5.cell (i := 6) rfl)
              go_ret
              exact ⟨rfl, below2 B3 b5⟩
          · have f3 : decide (x.fails ≤ 1000) = false := decide_eq_false c3
            rw [show eyRight x = false by unfold eyRight; rw [he, f0, f1, f2, f3]; simp]
            go_enter Tryz.func84, Tryz.ntmps84
            go_upto_region 1 with fail
            obtain ⟨W3, hW3⟩ : ∃ W3, W3 = w.alloc (.cells #[.bool x.en.ad.v6, .int .u64 x.en.ad.hi, .int .u64 x.en.ad.lo, .int .i64 x.en.port, .int .i64 x.state, .int .i64 x.fails, .int .i64 x.next] 87) := ⟨_, rfl⟩
            rw [← hW3]
            have B3 : Below w.heap.size w W3 := by subst hW3; exact bel
            have hX : BlockIs W3 w.heap.size [.bool x.en.ad.v6, .int .u64 x.en.ad.hi, .int .u64 x.en.ad.lo, .int .i64 x.en.port, .int .i64 x.state, .int .i64 x.fails, .int .i64 x.next] 87 := by subst hW3; exact BlockIs.new w _ _
            clear hW3
            have x0 := hX.cell (i := 0) rfl; have x1 := hX.cell (i := 1) rfl; have x2 := hX.cell (i := 2) rfl; have x3 := hX.cell (i := 3) rfl
            go_wp2_with (go_at_call 105; (with_reducible refine (HR.out _).mono ?_); rintro e w5 ⟨rfl, b5⟩; have hX5 := hX.below b5; have x4 := hX5.cell (i := 4) rfl; have x5 := hX5.cell (i := 5) rfl; have x6 := hX5.cell (i := 6) rfl)
            go_ret
            exact ⟨rfl, below2 B3 b5⟩
        · have f2 : decide (0 ≤ x.fails) = false := decide_eq_false c2
          rw [show eyRight x = false by unfold eyRight; rw [he, f0, f1, f2]; simp]
          go_enter Tryz.func84, Tryz.ntmps84
          go_upto_region 1 with fail
          obtain ⟨W3, hW3⟩ : ∃ W3, W3 = w.alloc (.cells #[.bool x.en.ad.v6, .int .u64 x.en.ad.hi, .int .u64 x.en.ad.lo, .int .i64 x.en.port, .int .i64 x.state, .int .i64 x.fails, .int .i64 x.next] 87) := ⟨_, rfl⟩
          rw [← hW3]
          have B3 : Below w.heap.size w W3 := by subst hW3; exact bel
          have hX : BlockIs W3 w.heap.size [.bool x.en.ad.v6, .int .u64 x.en.ad.hi, .int .u64 x.en.ad.lo, .int .i64 x.en.port, .int .i64 x.state, .int .i64 x.fails, .int .i64 x.next] 87 := by subst hW3; exact BlockIs.new w _ _
          clear hW3
          have x0 := hX.cell (i := 0) rfl; have x1 := hX.cell (i := 1) rfl; have x2 := hX.cell (i := 2) rfl; have x3 := hX.cell (i := 3) rfl
          go_wp2_with (go_at_call 105; (with_reducible refine (HR.out _).mono ?_); rintro e w5 ⟨rfl, b5⟩; have hX5 := hX.below b5; have x4 := hX5.cell (i := 4) rfl; have x5 := hX5.cell (i := 5) rfl; have x6 := hX5.cell (i := 6) rfl)
          go_ret
          exact ⟨rfl, below2 B3 b5⟩
      · have f1 : decide (x.state ≤ 3) = false := decide_eq_false c1
        rw [show eyRight x = false by unfold eyRight; rw [he, f0, f1]; simp]
        go_enter Tryz.func84, Tryz.ntmps84
        go_upto_region 1 with fail
        obtain ⟨W3, hW3⟩ : ∃ W3, W3 = w.alloc (.cells #[.bool x.en.ad.v6, .int .u64 x.en.ad.hi, .int .u64 x.en.ad.lo, .int .i64 x.en.port, .int .i64 x.state, .int .i64 x.fails, .int .i64 x.next] 87) := ⟨_, rfl⟩
        rw [← hW3]
        have B3 : Below w.heap.size w W3 := by subst hW3; exact bel
        have hX : BlockIs W3 w.heap.size [.bool x.en.ad.v6, .int .u64 x.en.ad.hi, .int .u64 x.en.ad.lo, .int .i64 x.en.port, .int .i64 x.state, .int .i64 x.fails, .int .i64 x.next] 87 := by subst hW3; exact BlockIs.new w _ _
        clear hW3
        have x0 := hX.cell (i := 0) rfl; have x1 := hX.cell (i := 1) rfl; have x2 := hX.cell (i := 2) rfl; have x3 := hX.cell (i := 3) rfl
        go_wp2_with (go_at_call 105; (with_reducible refine (HR.out _).mono ?_); rintro e w5 ⟨rfl, b5⟩; have hX5 := hX.below b5; have x4 := hX5.cell (i := 4) rfl; have x5 := hX5.cell (i := 5) rfl; have x6 := hX5.cell (i := 6) rfl)
        go_ret
        exact ⟨rfl, below2 B3 b5⟩
    · have f0 : decide (1 ≤ x.state) = false := decide_eq_false c0
      rw [show eyRight x = false by unfold eyRight; rw [he, f0]; simp]
      go_enter Tryz.func84, Tryz.ntmps84
      go_upto_region 1 with fail
      obtain ⟨W3, hW3⟩ : ∃ W3, W3 = w.alloc (.cells #[.bool x.en.ad.v6, .int .u64 x.en.ad.hi, .int .u64 x.en.ad.lo, .int .i64 x.en.port, .int .i64 x.state, .int .i64 x.fails, .int .i64 x.next] 87) := ⟨_, rfl⟩
      rw [← hW3]
      have B3 : Below w.heap.size w W3 := by subst hW3; exact bel
      have hX : BlockIs W3 w.heap.size [.bool x.en.ad.v6, .int .u64 x.en.ad.hi, .int .u64 x.en.ad.lo, .int .i64 x.en.port, .int .i64 x.state, .int .i64 x.fails, .int .i64 x.next] 87 := by subst hW3; exact BlockIs.new w _ _
      clear hW3
      have x0 := hX.cell (i := 0) rfl; have x1 := hX.cell (i := 1) rfl; have x2 := hX.cell (i := 2) rfl; have x3 := hX.cell (i := 3) rfl
      go_wp2_with (go_at_call 105; (with_reducible refine (HR.out _).mono ?_); rintro e w5 ⟨rfl, b5⟩; have hX5 := hX.below b5; have x4 := hX5.cell (i := 4) rfl; have x5 := hX5.cell (i := 5) rfl; have x6 := hX5.cell (i := 6) rfl)
      go_ret
      exact ⟨rfl, below2 B3 b5⟩
def bkStep (l : List Ey) (i : Nat) : Bool := match l[i]? with
  | some x => eyRight x && (List.range i).all fun j => match l[j]? with
    | some y => decide (enCmp y.en x.en < 0)
    | none => true
  | none => true
def bkRight (l : List Ey) : Bool := (List.range l.length).all (bkStep l)
theorem bk_good (l : List Ey) : bkRight l = true ↔ ∀ (i : Nat) (x : Ey), l[i]? = some x → eyRight x = true ∧ ∀ (j : Nat) (y : Ey), j < i → l[j]? = some y → enCmp y.en x.en < 0 := by
  unfold bkRight
  rw [List.all_eq_true]
  constructor
  · intro h i x hx
    have hs := h i (List.mem_range.2 (List.getElem?_eq_some_iff.1 hx).1)
    unfold bkStep at hs
    rw [hx] at hs
    simp only [Bool.and_eq_true] at hs
    refine ⟨hs.1, fun j y hj hy => ?_⟩
    have := List.all_eq_true.1 hs.2 j (List.mem_range.2 hj)
    rw [hy] at this
    exact of_decide_eq_true this
  · intro h i hi
    unfold bkStep
    obtain ⟨x, hx⟩ : ∃ x, l[i]? = some x := ⟨_, List.getElem?_eq_getElem (List.mem_range.1 hi)⟩
    rw [hx]
    simp only [Bool.and_eq_true]
    refine ⟨(h i x hx).1, List.all_eq_true.2 fun j hj => ?_⟩
    obtain ⟨y, hy⟩ : ∃ y, l[j]? = some y := ⟨_, List.getElem?_eq_getElem (by have := List.mem_range.1 hj; have := List.mem_range.1 hi; omega)⟩
    rw [hy]
    exact decide_eq_true ((h i x hx).2 j y (List.mem_range.1 hj) hy)
theorem bk_bad {l : List Ey} {i : Nat} {x : Ey} (hx : l[i]? = some x) (h : eyRight x = false) : bkRight l = false := by
  cases e : bkRight l with
  | false => rfl
  | true => have := (((bk_good l).1 e) i x hx).1; rw [h] at this; cases this
theorem bk_bad2 {l : List Ey} {i j : Nat} {x y : Ey} (hx : l[i]? = some x) (hy : l[j]? = some y) (hj : j < i) (h : 0 ≤ enCmp y.en x.en) : bkRight l = false := by
  cases e : bkRight l with
  | false => rfl
  | true => have := (((bk_good l).1 e) i x hx).2 j y hj hy; omega
set_option maxRecDepth 100000 in
set_option maxHeartbeats 8000000 in
theorem refBkRight_any (v : Value) (l : List Ey) (w : World) (h : ReadsL eyV 7 w v l) (hf : ∀ p ∈ l, p.en.ad.fits) :
    Calls Tryz.prog 60 #[v] w fun e w' => e = .returned (.bool (bkRight l)) ∧ Below w.heap.size w w' := by
  obtain ⟨hm, p, c, rfl, h3⟩ := ey_open h
  clear h
  go_enter Tryz.func60, Tryz.ntmps60
  go_wp2_with fail
  go_loopw [3] (fun i' wr => ∃ k : Nat, k ≤ l.length ∧ i' = .int .i64 k ∧ Hid (∀ (i : Nat) (x : Ey), i < k → l[i]? = some x → eyRight x = true ∧ ∀ (j : Nat) (y : Ey), j < i → l[j]? = some y → enCmp y.en x.en < 0) ∧ Hid (Below w.heap.size w wr)) (fun i' _ => l.length - (intOf i').toNat)
  case atStart => exact ⟨0, by omega, rfl, fun i x hi => absurd hi (Nat.not_lt_zero _), Below.refl _ _⟩
  case round =>
    obtain ⟨k, hk, rfl, HP, HB⟩ := hrel
    by_cases hlt : k < l.length
    · obtain ⟨x, hx⟩ : ∃ x, l[k]? = some x := ⟨_, List.getElem?_eq_getElem hlt⟩
      obtain ⟨b, o, rfl, h4, h5, h6⟩ := h3 (by omega)
      have q1 : (0 : Int) ≤ (k : Int) := by omega
      have q2 : (k : Int) < (l.length : Int) := by omega
      have hfx := hf x (List.mem_of_getElem? hx)
      have HK := Lib.hid hlt; have HX := Lib.hid hx; have H6 := Lib.hid h6; have HH5 := Lib.hid h5; have HM := Lib.hid hm
      obtain ⟨k0, k1, k2, k3, k4, k5, k6⟩ := h6 k x hx
      have k0 := keep HB.out h5 k0; have k1 := keep HB.out h5 k1; have k2 := keep HB.out h5 k2; have k3 := keep HB.out h5 k3; have k4 := keep HB.out h5 k4; have k5 := keep HB.out h5 k5; have k6 := keep HB.out h5 k6
      have HR := Lib.hid (fun W => refEyRight_any x hfx W)
      clear hx h6 h3
      cases hr : eyRight x with
      | false =>
        have HN : Hid (bkRight l = false) := bk_bad HX.out hr
        rw [hr] at HR
        clear hr
        go_wp2_with (go_at_call 84; (with_reducible refine (HR.out _).mono ?_); rintro e w5 ⟨rfl, b5⟩)
        go_ret
        exact ⟨by rw [HN.out]; rfl, below2 HB.out b5⟩
      | true =>
        rw [hr] at HR
        have HR' := Lib.hid hr
        clear hr
        go_wp2_with (go_at_call 84; (with_reducible refine (HR.out _).mono ?_); rintro e w5 ⟨rfl, b5⟩)
        have HB5 := Lib.hid (below2 HB.out b5)
        clear k0 k1 k2 k3 k4 k5 k6 b5 HB HR
        go_loopw [4] (fun j' wr => ∃ j : Nat, j ≤ k ∧ j' = .int .i64 j ∧ Hid (∀ (i : Nat) (y : Ey), i < j → l[i]? = some y → enCmp y.en x.en < 0) ∧ Hid (Below w.heap.size w wr)) (fun j' _ => k - (intOf j').toNat)
        case atStart => exact ⟨0, by omega, rfl, fun i y hi => absurd hi (Nat.not_lt_zero _), HB5.out⟩
        case round =>
          clear HB5
          obtain ⟨j, hj, rfl, HJ, HB⟩ := hrel
          by_cases hjk : j < k
          · obtain ⟨y, hy⟩ : ∃ y, l[j]? = some y := ⟨_, List.getElem?_eq_getElem (by omega)⟩
            have hbl := Nat.lt_of_lt_of_le HH5.out HB.out.size
            have HBE := fun Y => HB.out.trans ((ext_below wr Y).mono HB.out.size)
            obtain ⟨g0, g1, g2, g3, _, _, _⟩ := H6.out j y hy
            obtain ⟨m0, m1, m2, m3, _, _, _⟩ := H6.out k x HX.out
            have y0 := fun Y => keep (HBE Y) HH5.out g0; have y1 := fun Y => keep (HBE Y) HH5.out g1; have y2 := fun Y => keep (HBE Y) HH5.out g2; have y3 := fun Y => keep (HBE Y) HH5.out g3
            have x0 := fun Y => keep (HBE Y) HH5.out m0; have x1 := fun Y => keep (HBE Y) HH5.out m1; have x2 := fun Y => keep (HBE Y) HH5.out m2; have x3 := fun Y => keep (HBE Y) HH5.out m3
            clear g0 g1 g2 g3 m0 m1 m2 m3 HBE
            have qj1 : (0 : Int) ≤ (j : Int) := by omega
            have qj2 : (j : Int) < (l.length : Int) := by omega
            have qj3 : (j : Int) < (k : Int) := by omega
            have HC := Lib.hid (fun W => refEnCmp_any y.en x.en W)
            obtain ⟨z, hz⟩ : ∃ z, z = enCmp y.en x.en := ⟨_, rfl⟩
            rw [← hz] at HC
            have HZ := Lib.hid hz; have HY := Lib.hid hy
            clear hz hy
            by_cases hz0 : 0 ≤ z
            · have hzd : decide (0 ≤ z) = true := decide_eq_true hz0
              have HN : Hid (bkRight l = false) := bk_bad2 HX.out HY.out hjk (by rw [← HZ.out]; exact hz0)
              go_wp2_with fail
              refine wp_region_ext (by kernel_rfl) (by kernel_rfl) ?_
              repeat (go_big_quiet_step ((first | (go_at_call 85; with_reducible exact qe (HC.out _)))))
              refine wpQuiet_nil ?_
              intro _ hw'
              obtain ⟨gx, HW⟩ := hw'
              subst HW
              clear y0 y1 y2 y3 x0 x1 x2 x3
              go_wp2_with fail
              go_ret
              exact ⟨by rw [HN.out]; rfl, HB.out.trans ((ext_below wr gx).mono HB.out.size)⟩
            · have hzd : decide (0 ≤ z) = false := decide_eq_false hz0
              go_wp2_with fail
              refine wp_region_ext (by kernel_rfl) (by kernel_rfl) ?_
              repeat (go_big_quiet_step ((first | (go_at_call 85; with_reducible exact qe (HC.out _)))))
              refine wpQuiet_nil ?_
              intro _ hw'
              obtain ⟨gx, HW⟩ := hw'
              subst HW
              clear y0 y1 y2 y3 x0 x1 x2 x3
              go_wp2_with fail
              go_roundw
              case rel =>
                refine ⟨j + 1, by omega, by go_num, fun i q hi hq => ?_, HB.out.trans ((ext_below wr gx).mono HB.out.size)⟩
                rcases Nat.lt_or_ge i j with e | e
                · exact HJ.out i q e hq
                · rw [show i = j by omega, HY.out] at hq
                  injection hq with hq
                  subst hq
                  rw [← HZ.out]; omega
              case measure => simp [intOf]; omega
          · obtain rfl : j = k := by omega
            go_wp2_with fail
            go_roundw
            case rel =>
              refine ⟨j + 1, by have := HK.out; omega, by go_num, fun i q hi hq => ?_, HB.out⟩
              rcases Nat.lt_or_ge i j with e | e
              · exact HP.out i q e hq
              · rw [show i = j by omega, HX.out] at hq
                injection hq with hq
                subst hq
                exact ⟨HR'.out, fun i' y hi' hy => HJ.out i' y (by omega) hy⟩
            case measure => have := HK.out; simp [intOf]; omega
    · obtain rfl : k = l.length := by omega
      have HN : Hid (bkRight l = true) := (bk_good l).2 fun i x hx => HP.out i x (List.getElem?_eq_some_iff.1 hx).1 hx
      go_wp2_with fail
      go_ret
      exact ⟨by rw [HN.out]; rfl, HB.out⟩
end Go.Proofs.YtnplgagaoeckoaaGreat
namespace Go.Proofs.YtnplgagaoeckoaaGreat
open Go.RowKit

def newP (secret : Nat) (sh : Int) (bl : List Ba) (kl : List Ey) (pl : List Pe) : Pm := ⟨cntL true pl, (cntL false pl : Int) + (cntE 2 kl : Int), bl, kl, (List.range (partsN sh)).map (fun i => (((partL pl secret sh i).length : Int), partL pl secret sh i)), List.replicate (partsN sh + 2) (0, [])⟩
def zLk : Lk := zeroLk
theorem run_make_lk (m : Nat) (h : m ≤ 1000) (W : World) : (Instr.makeSlice 38 (.int .i64 (m : Nat)) (.int .i64 (m : Nat))).run Tryz.prog W = .ok (.slice (some ⟨W.heap.size, 0, none⟩) m m) (W.alloc (.cells ((List.replicate m zLk).flatMap lkV).toArray 90)) := by
  obtain ⟨i, hi, hz0, hz1, hz2⟩ := info_parts (show (Tryz.prog.info? 90).map (fun i => (i.zero, i.size, i.bytes)) = some (some (.agg #[.int .i64 0, .slice none 0 0]), 2, 32) by kernel_rfl)
  have := run_make (P := Tryz.prog) W 38 90 i (.agg #[.int .i64 0, .slice none 0 0]) Tryz.underlying38 hi hz0 .i64 .i64 m m (by omega) (by omega) (by rw [hz2]; omega) (by omega)
  have e1 : ((m : Nat) : Int).toNat = m := by omega
  have e2 : madeCells (Value.agg #[.int .i64 0, .slice none 0 0]).cells (m * 2) = ((List.replicate m zLk).flatMap lkV).toArray := by
    rw [made_pair _ _ (by simp [Value.cells]) (by simp [Value.cells]), List.flatMap_replicate]; rfl
  rw [this, e1, hz1, e2]
theorem parts_pl {ss : List Sh} {pl : List Pe} {s : Nat} {n : Int} (h : PartsOf ss pl s n) : ss.map (fun s => (s.size, s.l)) = (List.range (partsN n)).map (fun i => (((partL pl s n i).length : Int), partL pl s n i)) := by
  apply List.ext_getElem?
  intro i
  rw [List.getElem?_map, List.getElem?_map]
  by_cases hi : i < ss.length
  · have hx := List.getElem?_eq_getElem hi
    rw [hx, List.getElem?_range (by rw [← h.1]; exact hi)]
    simp only [Option.map_some]
    obtain ⟨e1, e2⟩ := h.2 i _ hx
    rw [e1, e2]
  · rw [List.getElem?_eq_none (by omega), List.getElem?_eq_none (by rw [List.length_range, ← h.1]; omega)]; rfl
theorem lks_made {W : World} {g M : Nat} (h : BlockIs W g ((List.replicate M zLk).flatMap lkV) 90) (hM : M ≤ 1000) (h0 : 0 < M) : ReadsLk W (.slice (some ⟨g, 0, none⟩) M M) (List.replicate M zLk) := by
  refine ⟨?_, fun k hk => by rw [List.eq_of_mem_replicate hk]; exact ReadsL.nil _ _ _ _ _⟩
  have hl : ((List.replicate M zLk).flatMap lkV).length = M * 2 := by
    rw [List.length_flatMap]; simp [lkV]
  have h2 : (List.replicate M zLk).length = M := List.length_replicate
  have := reads_blkC (n := 2) h (by omega) (by omega) (by rw [hl, h2])
  rwa [h2] at this

set_option maxRecDepth 100000 in
set_option maxHeartbeats 16000000 in
theorem memNew_any (c : Cf) (hs : c.secret < 18446744073709551616) (vb vk vp : Value) (bl : List Ba) (kl : List Ey) (pl : List Pe) (w : World) (hb : ReadsL baV 5 w vb bl) (hk : ReadsL eyV 7 w vk kl) (hp : ReadsL peV 10 w vp pl) (hf : ∀ p ∈ pl, p.en.ad.fits) (hbn : bl.length ≤ 1000) (hkn : kl.length ≤ 1000) (hpn : pl.length ≤ 1000000) :
    Calls Tryz.prog 9 #[.agg #[.int .i64 c.mi, .int .i64 c.mo, .int .i64 c.sh, .int .i64 c.mb, .int .i64 c.mbk, .int .u64 c.secret, .int .i64 c.qg, .int .i64 c.qp, .int .i64 c.qw, .int .i64 c.qt, .int .i64 c.half, .int .i64 c.limit, .int .i64 c.banfor, .int .i64 c.base, .int .i64 c.cap, .int .i64 c.jitter], .agg #[vb, vk, vp]] w fun e w' => ∃ m : Mm, e = .returned (.agg #[.int .i64 m.inn, .int .i64 m.out, m.bans.1, m.book.1, m.parts.1, m.locks.1]) ∧ (∀ W, (∀ b arr T, w.heap.size ≤ b → BlockIs w' b arr T → BlockIs W b arr T) → MmAt W m) ∧ m.pl = newP c.secret c.sh bl kl pl ∧ Below w.heap.size w w' := by
  have HSP := Lib.hid (fun (W : World) (hB : Below w.heap.size w W) => shSplit_firm vp pl c.secret hs c.sh W (ReadsL.below hp hB) hf hpn)
  have HCT := Lib.hid (fun (W : World) (hB : Below w.heap.size w W) => tcount_true vp pl W (ReadsL.below hp hB))
  have HCF := Lib.hid (fun (W : World) (hB : Below w.heap.size w W) => tcount_false vp pl W (ReadsL.below hp hB))
  have HCE := Lib.hid (fun (W : World) (hB : Below w.heap.size w W) => bookCount_any vk kl 2 W (ReadsL.below hk hB))
  have HCB := Lib.hid (fun (W : World) (hB : Below w.heap.size w W) => cloneBn vb bl.length (bl.flatMap baV) W (ReadsL.below hb hB) (baV_onesM _) (by omega))
  have HCK := Lib.hid (fun (W : World) (hB : Below w.heap.size w W) => cloneEy vk kl.length (kl.flatMap eyV) W (ReadsL.below hk hB) (eyV_ones _) (by omega))
  obtain ⟨_, a1, c1, e1, _⟩ := ba_open hb
  obtain ⟨_, a2, c2, e2, _⟩ := ey_open hk
  obtain ⟨_, a3, c3, e3, _⟩ := pes_open hp
  subst e1 e2 e3
  have hmi := partsN_in c.sh
  have hml : ∀ W, (Instr.makeSlice 38 (.int .i64 ((partsN c.sh : Int) + 2)) (.int .i64 ((partsN c.sh : Int) + 2))).run Tryz.prog W = .ok (.slice (some ⟨W.heap.size, 0, none⟩) (partsN c.sh + 2) (partsN c.sh + 2)) (W.alloc (.cells ((List.replicate (partsN c.sh + 2) zLk).flatMap lkV).toArray 90)) := fun W => by
    have := run_make_lk (partsN c.sh + 2) (by omega) W
    rwa [show ((partsN c.sh + 2 : Nat) : Int) = (partsN c.sh : Int) + 2 by omega] at this
  obtain ⟨M, hM⟩ : ∃ M, M = partsN c.sh := ⟨_, rfl⟩
  have hcw : IntKind.i64.wrap ((cntL false pl : Int) + (cntE 2 kl : Int)) = (cntL false pl : Int) + (cntE 2 kl : Int) := by
    have h1 := cntL_le false pl; have h2 := cntE_le 2 kl
    rw [IntKind.wrap_i64]; omega
  have HEND := Lib.hid (fun (a4 : Option Addr) (c4 : Nat) (ss : List Sh) (hPO : PartsOf ss pl c.secret c.sh) (a5 a6 : Option Addr) (c5 c6 : Nat) => True.intro)
  obtain ⟨n1, hn1⟩ : ∃ n, n = bl.length := ⟨_, rfl⟩
  obtain ⟨n2, hn2⟩ : ∃ n, n = kl.length := ⟨_, rfl⟩
  obtain ⟨n3, hn3⟩ : ∃ n, n = pl.length := ⟨_, rfl⟩
  simp only [← hn1, ← hn2, ← hn3] at HSP HCT HCF HCE HCB HCK ⊢
  rw [← hM] at hml hmi
  have hlen : IntKind.i64.wrap ((M : Int) + 2) = (M : Int) + 2 := by rw [IntKind.wrap_i64]; omega
  have HN1 := Lib.hid hn1; have HN2 := Lib.hid hn2; have HN3 := Lib.hid hn3; have HMM := Lib.hid hM
  clear hn1 hn2 hn3 hM hb hk hp hf hbn hkn hpn HEND hs
  go_enter Tryz.func9, Tryz.ntmps9
  go_upto_region 1 with fail
  obtain ⟨W3, hW3⟩ : ∃ W3, W3 = ((w.alloc (.cells #[.int .i64 c.mi, .int .i64 c.mo, .int .i64 c.sh, .int .i64 c.mb, .int .i64 c.mbk, .int .u64 c.secret, .int .i64 c.qg, .int .i64 c.qp, .int .i64 c.qw, .int .i64 c.qt, .int .i64 c.half, .int .i64 c.limit, .int .i64 c.banfor, .int .i64 c.base, .int .i64 c.cap, .int .i64 c.jitter] 26)).alloc (.cells #[.slice a1 n1 c1, .slice a2 n2 c2, .slice a3 n3 c3] 31)).alloc (.cells #[.int .i64 0, .int .i64 0, .slice none 0 0, .slice none 0 0, .slice none 0 0, .slice none 0 0] 40) := ⟨_, rfl⟩
  rw [← hW3]
  have B3 : Below w.heap.size w W3 := by subst hW3; exact bel
  have hBc : BlockIs W3 w.heap.size [.int .i64 c.mi, .int .i64 c.mo, .int .i64 c.sh, .int .i64 c.mb, .int .i64 c.mbk, .int .u64 c.secret, .int .i64 c.qg, .int .i64 c.qp, .int .i64 c.qw, .int .i64 c.qt, .int .i64 c.half, .int .i64 c.limit, .int .i64 c.banfor, .int .i64 c.base, .int .i64 c.cap, .int .i64 c.jitter] 26 := by subst hW3; exact ((BlockIs.new w [.int .i64 c.mi, .int .i64 c.mo, .int .i64 c.sh, .int .i64 c.mb, .int .i64 c.mbk, .int .u64 c.secret, .int .i64 c.qg, .int .i64 c.qp, .int .i64 c.qw, .int .i64 c.qt, .int .i64 c.half, .int .i64 c.limit, .int .i64 c.banfor, .int .i64 c.base, .int .i64 c.cap, .int .i64 c.jitter] _).alloc' _).alloc' _
  have hBs : BlockIs W3 (w.heap.size + 1) [.slice a1 n1 c1, .slice a2 n2 c2, .slice a3 n3 c3] 31 := by subst hW3; exact (BlockIs.newAt' _ [.slice a1 n1 c1, .slice a2 n2 c2, .slice a3 n3 c3] _ (by simp)).alloc' _
  have hBr : BlockIs W3 (w.heap.size + 1 + 1) [.int .i64 0, .int .i64 0, .slice none 0 0, .slice none 0 0, .slice none 0 0, .slice none 0 0] 40 := by subst hW3; exact BlockIs.newAt' _ [.int .i64 0, .int .i64 0, .slice none 0 0, .slice none 0 0, .slice none 0 0, .slice none 0 0] _ (by simp)
  have hs3 : W3.heap.size = w.heap.size + 1 + 1 + 1 := by subst hW3; simp
  clear hW3
  have k2 := hBc.cell (i := 2) rfl; have k5 := hBc.cell (i := 5) rfl
  have s0 := hBs.cell (i := 0) rfl; have s1 := hBs.cell (i := 1) rfl; have s2 := hBs.cell (i := 2) rfl; have r0 := hBr.cell (i := 0) rfl; have r1 := hBr.cell (i := 1) rfl; have r2 := hBr.cell (i := 2) rfl; have r3 := hBr.cell (i := 3) rfl; have r4 := hBr.cell (i := 4) rfl; have r5 := hBr.cell (i := 5) rfl; have rf := hBr.frozen; have rl := hBr.lt
  go_upto_region 2 with (go_at_call 29; (with_reducible refine (HSP.out _ B3).mono ?_); rintro e w4 ⟨r4, ss, rfl, hS4, hPO, b4⟩)
  have B4 := below2 (w := w) B3 b4; have hBs4 := hBs.below b4; have hBr4 := hBr.below b4
  have HS4 := Lib.hid (fun (W : World) (hk : ∀ b arr T, w.heap.size + 1 + 1 + 1 ≤ b → BlockIs w4 b arr T → BlockIs W b arr T) => hS4 W fun b arr T h1 h2 => hk b arr T (by omega) h2)
  obtain ⟨_, a4, c4, e4, _⟩ := shs_open (hS4 w4 fun _ _ _ _ h => h).1
  have hMs : M = ss.length := by rw [hPO.1]; exact HMM.out
  rw [← hMs] at e4
  subst e4
  have HMS := Lib.hid hMs; have HPO := Lib.hid hPO
  have HEND : Hid (∀ (a5 : Option Addr) (c5 : Nat) (a6 : Option Addr) (c6 G : Nat) (wx w20 : World), (∀ k arr u, k ≠ w.heap.size + 1 + 1 → BlockIs wx k arr u → BlockIs w20 k arr u) → Below w.heap.size w w20 → w.heap.size + 1 + 1 + 1 ≤ G → Hid (wx.ownsRow (w.heap.size + 1 + 1 + 1) 84 5 (.slice a5 n1 c5) n1 (bl.flatMap baV)) → Hid (wx.ownsRow (w.heap.size + 1 + 1 + 1) 87 7 (.slice a6 n2 c6) n2 (kl.flatMap eyV)) → Hid (∀ W, (∀ b arr T, w.heap.size + 1 + 1 + 1 ≤ b → BlockIs wx b arr T → BlockIs W b arr T) → ReadsSh W (.slice a4 M c4) ss) → BlockIs wx G ((List.replicate (M + 2) zLk).flatMap lkV) 90 →
      ∃ m : Mm, Ending.returned (.agg #[.int .i64 (cntL true pl), .int .i64 ((cntL false pl : Int) + (cntE 2 kl : Int)), .slice a5 n1 c5, .slice a6 n2 c6, .slice a4 M c4, .slice (some ⟨G, 0, none⟩) (M + 2) (M + 2)]) = .returned (.agg #[.int .i64 m.inn, .int .i64 m.out, m.bans.1, m.book.1, m.parts.1, m.locks.1]) ∧ (∀ W, (∀ b arr T, w.heap.size ≤ b → BlockIs w20 b arr T → BlockIs W b arr T) → MmAt W m) ∧ m.pl = newP c.secret c.sh bl kl pl ∧ Below w.heap.size w w20) := by
    show ∀ _, _
    intro a5 c5 a6 c6 G wx w20 ho hbw hG h1 h2 h3 h4
    have hmv : ∀ b arr T, w.heap.size + 1 + 1 + 1 ≤ b → BlockIs wx b arr T → BlockIs w20 b arr T := fun b arr T hb hh => ho b arr T (by omega) hh
    refine ⟨⟨cntL true pl, (cntL false pl : Int) + (cntE 2 kl : Int), (.slice a5 n1 c5, bl), (.slice a6 n2 c6, kl), (.slice a4 M c4, ss), (.slice (some ⟨G, 0, none⟩) (M + 2) (M + 2), List.replicate (M + 2) zLk)⟩, rfl, fun W hW => ?_, ?_, hbw⟩
    · have hmW : ∀ b arr T, w.heap.size + 1 + 1 + 1 ≤ b → BlockIs wx b arr T → BlockIs W b arr T := fun b arr T hb hh => hW b arr T (by omega) (hmv b arr T hb hh)
      refine ⟨?_, ?_, h3.out W hmW, lks_made (hmW _ _ _ hG h4) (by omega) (by omega)⟩
      · unfold ReadsL; dsimp only; rw [← HN1.out]; exact owns_reads (owns_held h1.out fun g arr hg hb => hmW g arr _ hg hb)
      · unfold ReadsL; dsimp only; rw [← HN2.out]; exact owns_reads (owns_held h2.out fun g arr hg hb => hmW g arr _ hg hb)
    · unfold Mm.pl newP
      simp only [parts_pl HPO.out, HMM.out, List.map_replicate]
      rfl
  clear b4 hPO hMs hBc hBs hBr k2 k5 hS4 s0 s1 s2 r0 r1 r2 r3 r4 r5 rf rl
  have s0 := hBs4.cell (i := 0) rfl; have s1 := hBs4.cell (i := 1) rfl; have s2 := hBs4.cell (i := 2) rfl
  refine wp_region_noPanic ?_
  have hS0 : (fun wq => wq.cell? ⟨w.heap.size + 1, 0, none⟩ = some (.slice a1 n1 c1) ∧ wq.cell? ⟨w.heap.size + 1, 1, none⟩ = some (.slice a2 n2 c2) ∧ wq.cell? ⟨w.heap.size + 1, 2, none⟩ = some (.slice a3 n3 c3)) w4.drew := by
    dsimp only
    (repeat' apply And.intro) <;> assumption
  refine wp_region_headH (fun wq => wq.cell? ⟨w.heap.size + 1, 0, none⟩ = some (.slice a1 n1 c1) ∧ wq.cell? ⟨w.heap.size + 1, 1, none⟩ = some (.slice a2 n2 c2) ∧ wq.cell? ⟨w.heap.size + 1, 2, none⟩ = some (.slice a3 n3 c3)) 22 (by kernel_rfl) (by kernel_rfl) ?_
  obtain ⟨w5, hw5⟩ : ∃ w5, w5 = w4.drew := ⟨_, rfl⟩
  rw [← hw5] at hS0 ⊢
  have b5 : Below w4.heap.size w4 w5 := by subst hw5; exact Below.drew (Below.refl _ _)
  have B5 := below2 (w := w) B4 b5
  have hBs5 := hBs4.below b5; have hBr5 := hBr4.below b5
  have HS5 := Lib.hid (fun (W : World) (hk : ∀ b arr T, w.heap.size + 1 + 1 + 1 ≤ b → BlockIs w5 b arr T → BlockIs W b arr T) => HS4.out W fun b arr T h1 h2 => hk b arr T h1 (h2.below b5))
  clear hw5 s0 s1 s2
  have s0 := hBs5.cell (i := 0) rfl; have s1 := hBs5.cell (i := 1) rfl; have s2 := hBs5.cell (i := 2) rfl
  refine headH_take (i := 0) (v := ?qv0x1) (by kernel_rfl) rfl rfl (by kernel_rfl) (by kernel_rfl) (by kernel_rfl) (fun _ _ _ h => h) (Or.inl ⟨by rfl, ?qy0x1⟩) (by assumption) ?qr0x1
  case qy0x1 =>
    intro wq hSw
    try dsimp only at hSw
    go_simp
    try with_reducible rfl
  try simp only [Act.put, List.setIfInBounds_toArray, List.set_cons_zero, List.set_cons_succ]
  refine headH_take (i := 1) (v := ?qv1x2) (by kernel_rfl) rfl rfl (by kernel_rfl) (by kernel_rfl) (by kernel_rfl) (fun _ _ _ h => h) (Or.inl ⟨by rfl, ?qy1x2⟩) (by assumption) ?qr1x2
  case qy1x2 =>
    intro wq hSw
    try dsimp only at hSw
    go_simp
    try with_reducible rfl
  try simp only [Act.put, List.setIfInBounds_toArray, List.set_cons_zero, List.set_cons_succ]
  refine headH_take (i := 3) (v := ?qv3x3) (by kernel_rfl) rfl rfl (by kernel_rfl) (by kernel_rfl) (by kernel_rfl) (fun _ _ _ h => h) (Or.inl ⟨by rfl, ?qy3x3⟩) (by assumption) ?qr3x3
  case qy3x3 =>
    intro wq hSw
    try dsimp only at hSw
    go_simp
    try with_reducible rfl
  try simp only [Act.put, List.setIfInBounds_toArray, List.set_cons_zero, List.set_cons_succ]
  refine headH_take (i := 4) (v := ?qv4x4) (by kernel_rfl) rfl rfl (by kernel_rfl) (by kernel_rfl) (by kernel_rfl) (fun _ _ _ h => h) (Or.inl ⟨by rfl, ?qy4x4⟩) (by assumption) ?qr4x4
  case qy4x4 =>
    intro wq hSw
    try dsimp only at hSw
    go_simp
    try with_reducible rfl
  try simp only [Act.put, List.setIfInBounds_toArray, List.set_cons_zero, List.set_cons_succ]
  refine headH_take (i := 6) (v := ?qv6x5) (by kernel_rfl) rfl rfl (by kernel_rfl) (by kernel_rfl) (by kernel_rfl) (fun _ _ _ h => h) (Or.inl ⟨by rfl, ?qy6x5⟩) (by assumption) ?qr6x5
  case qy6x5 =>
    intro wq hSw
    try dsimp only at hSw
    go_simp
    try with_reducible rfl
  try simp only [Act.put, List.setIfInBounds_toArray, List.set_cons_zero, List.set_cons_succ]
  refine headH_take (i := 7) (v := ?qv7x6) (by kernel_rfl) rfl rfl (by kernel_rfl) (by kernel_rfl) (by kernel_rfl) (fun _ _ _ h => h) (Or.inl ⟨by rfl, ?qy7x6⟩) (by assumption) ?qr7x6
  case qy7x6 =>
    intro wq hSw
    try dsimp only at hSw
    go_simp
    try with_reducible rfl
  try simp only [Act.put, List.setIfInBounds_toArray, List.set_cons_zero, List.set_cons_succ]
  refine headH_take (i := 10) (v := ?qv10x7) (by kernel_rfl) rfl rfl (by kernel_rfl) (by kernel_rfl) (by kernel_rfl) (fun _ _ _ h => h) (Or.inl ⟨by rfl, ?qy10x7⟩) (by assumption) ?qr10x7
  case qy10x7 =>
    intro wq hSw
    try dsimp only at hSw
    go_simp
    try with_reducible rfl
  try simp only [Act.put, List.setIfInBounds_toArray, List.set_cons_zero, List.set_cons_succ]
  refine headH_take (i := 11) (v := ?qv11x8) (by kernel_rfl) rfl rfl (by kernel_rfl) (by kernel_rfl) (by kernel_rfl) (fun _ _ _ h => h) (Or.inl ⟨by rfl, ?qy11x8⟩) (by assumption) ?qr11x8
  case qy11x8 =>
    intro wq hSw
    try dsimp only at hSw
    go_simp
    try with_reducible rfl
  try simp only [Act.put, List.setIfInBounds_toArray, List.set_cons_zero, List.set_cons_succ]
  refine headH_take (i := 13) (v := ?qv13x9) (by kernel_rfl) rfl rfl (by kernel_rfl) (by kernel_rfl) (by kernel_rfl) (fun _ _ _ h => h) (Or.inl ⟨by rfl, ?qy13x9⟩) (by assumption) ?qr13x9
  case qy13x9 =>
    intro wq hSw
    try dsimp only at hSw
    go_simp
    try with_reducible rfl
  try simp only [Act.put, List.setIfInBounds_toArray, List.set_cons_zero, List.set_cons_succ]
  refine headH_take (i := 14) (v := ?qv14x10) (by kernel_rfl) rfl rfl (by kernel_rfl) (by kernel_rfl) (by kernel_rfl) (fun _ _ _ h => h) (Or.inl ⟨by rfl, ?qy14x10⟩) (by assumption) ?qr14x10
  case qy14x10 =>
    intro wq hSw
    try dsimp only at hSw
    go_simp
    try with_reducible rfl
  try simp only [Act.put, List.setIfInBounds_toArray, List.set_cons_zero, List.set_cons_succ]
  refine headH_take (i := 16) (v := ?qv16x11) (by kernel_rfl) rfl rfl (by kernel_rfl) (by kernel_rfl) (by kernel_rfl) (fun _ _ _ h => h) (Or.inl ⟨by rfl, ?qy16x11⟩) (by assumption) ?qr16x11
  case qy16x11 =>
    intro wq hSw
    try dsimp only at hSw
    go_simp
    try with_reducible rfl
  try simp only [Act.put, List.setIfInBounds_toArray, List.set_cons_zero, List.set_cons_succ]
  refine headH_take (i := 17) (v := ?qv17x12) (by kernel_rfl) rfl rfl (by kernel_rfl) (by kernel_rfl) (by kernel_rfl) (fun _ _ _ h => h) (Or.inl ⟨by rfl, ?qy17x12⟩) (by assumption) ?qr17x12
  case qy17x12 =>
    intro wq hSw
    try dsimp only at hSw
    go_simp
    try with_reducible rfl
  try simp only [Act.put, List.setIfInBounds_toArray, List.set_cons_zero, List.set_cons_succ]
  refine headH_take (i := 18) (v := ?qv18x13) (by kernel_rfl) rfl rfl (by kernel_rfl) (by kernel_rfl) (by kernel_rfl) (fun _ _ _ h => h) (Or.inl ⟨by rfl, ?qy18x13⟩) (by assumption) ?qr18x13
  case qy18x13 =>
    intro wq hSw
    try dsimp only at hSw
    go_simp
    try with_reducible rfl
  try simp only [Act.put, List.setIfInBounds_toArray, List.set_cons_zero, List.set_cons_succ]
  refine headH_take (i := 19) (v := ?qv19x14) (by kernel_rfl) rfl rfl (by kernel_rfl) (by kernel_rfl) (by kernel_rfl) (fun _ _ _ h => h) (Or.inl ⟨by rfl, ?qy19x14⟩) (by assumption) ?qr19x14
  case qy19x14 =>
    intro wq hSw
    try dsimp only at hSw
    go_simp
    try with_reducible rfl
  try simp only [Act.put, List.setIfInBounds_toArray, List.set_cons_zero, List.set_cons_succ]
  refine headH_two (i := 2) (j := 20) rfl rfl rfl rfl (by kernel_rfl) (fun K hK => ?_) (fun K hK => ?_)
  · go_simp
    go_at_call 30
    refine (HCT.out _ B5).mono ?_
    rintro e w6 ⟨rfl, b6⟩
    have B6 := below2 (w := w) B5 b6
    have hBs6 := hBs5.below b6; have hBr6 := hBr5.below b6
    have HS6 := Lib.hid (fun (W : World) (hk : ∀ b arr T, w.heap.size + 1 + 1 + 1 ≤ b → BlockIs w6 b arr T → BlockIs W b arr T) => HS5.out W fun b arr T h1 h2 => hk b arr T h1 (h2.below b6))
    clear s0 s1 s2
    have s0 := hBs6.cell (i := 0) rfl; have s1 := hBs6.cell (i := 1) rfl; have s2 := hBs6.cell (i := 2) rfl
    refine hK.out _ _ ?_ (fun hS6 => ?_)
    · try dsimp only
      (repeat' apply And.intro) <;> assumption
    clear hK K
    try simp only [Act.put, List.setIfInBounds_toArray, List.set_cons_zero, List.set_cons_succ]
    refine headH_two (i := 5) (j := 20) rfl rfl rfl rfl (by kernel_rfl) (fun K hK => ?_) (fun K hK => ?_)
    · go_simp
      go_at_call 30
      refine (HCF.out _ B6).mono ?_
      rintro e w7 ⟨rfl, b7⟩
      have B7 := below2 (w := w) B6 b7
      have hBs7 := hBs6.below b7; have hBr7 := hBr6.below b7
      have HS7 := Lib.hid (fun (W : World) (hk : ∀ b arr T, w.heap.size + 1 + 1 + 1 ≤ b → BlockIs w7 b arr T → BlockIs W b arr T) => HS6.out W fun b arr T h1 h2 => hk b arr T h1 (h2.below b7))
      clear s0 s1 s2
      have s0 := hBs7.cell (i := 0) rfl; have s1 := hBs7.cell (i := 1) rfl; have s2 := hBs7.cell (i := 2) rfl
      refine hK.out _ _ ?_ (fun hS7 => ?_)
      · try dsimp only
        (repeat' apply And.intro) <;> assumption
      clear hK K
      try simp only [Act.put, List.setIfInBounds_toArray, List.set_cons_zero, List.set_cons_succ]
      refine headH_two (i := 8) (j := 20) rfl rfl rfl rfl (by kernel_rfl) (fun K hK => ?_) (fun K hK => ?_)
      · go_simp
        go_at_call 31
        refine (HCE.out _ B7).mono ?_
        rintro e w8 ⟨rfl, b8⟩
        have B8 := below2 (w := w) B7 b8
        have hBs8 := hBs7.below b8; have hBr8 := hBr7.below b8
        have HS8 := Lib.hid (fun (W : World) (hk : ∀ b arr T, w.heap.size + 1 + 1 + 1 ≤ b → BlockIs w8 b arr T → BlockIs W b arr T) => HS7.out W fun b arr T h1 h2 => hk b arr T h1 (h2.below b8))
        clear s0 s1 s2
        have s0 := hBs8.cell (i := 0) rfl; have s1 := hBs8.cell (i := 1) rfl; have s2 := hBs8.cell (i := 2) rfl
        refine hK.out _ _ ?_ (fun hS8 => ?_)
        · try dsimp only
          (repeat' apply And.intro) <;> assumption
        clear hK K
        try simp only [Act.put, List.setIfInBounds_toArray, List.set_cons_zero, List.set_cons_succ]
        refine headH_take (i := 9) (v := ?qv9x15) (by kernel_rfl) rfl rfl (by kernel_rfl) (by kernel_rfl) (by kernel_rfl) (fun _ _ _ h => h) (Or.inl ⟨by rfl, ?qy9x15⟩) (by assumption) ?qr9x15
        case qy9x15 =>
          intro wq hSw
          try dsimp only at hSw
          go_simp
          try with_reducible rfl
        try simp only [Act.put, List.setIfInBounds_toArray, List.set_cons_zero, List.set_cons_succ]
        refine headH_two (i := 12) (j := 20) rfl rfl rfl rfl (by kernel_rfl) (fun K hK => ?_) (fun K hK => ?_)
        · go_simp
          go_at_call 32
          refine (HCB.out _ B8).mono ?_
          rintro e w9 ⟨r9, rfl, own9, b9⟩
          have B9 := below2 (w := w) B8 b9
          have hBs9 := hBs8.below b9; have hBr9 := hBr8.below b9
          have HS9 := Lib.hid (fun (W : World) (hk : ∀ b arr T, w.heap.size + 1 + 1 + 1 ≤ b → BlockIs w9 b arr T → BlockIs W b arr T) => HS8.out W fun b arr T h1 h2 => hk b arr T h1 (h2.below b9))
          obtain ⟨a5, c5, e9⟩ := owns_slice own9
          subst e9
          have HOb9 := Lib.hid (owns_base own9 (by have := hBr8.lt; omega) : w9.ownsRow (w.heap.size + 1 + 1 + 1) _ _ _ _ _)
          clear s0 s1 s2
          have s0 := hBs9.cell (i := 0) rfl; have s1 := hBs9.cell (i := 1) rfl; have s2 := hBs9.cell (i := 2) rfl
          refine hK.out _ _ ?_ (fun hS9 => ?_)
          · try dsimp only
            (repeat' apply And.intro) <;> assumption
          clear hK K
          try simp only [Act.put, List.setIfInBounds_toArray, List.set_cons_zero, List.set_cons_succ]
          refine headH_two (i := 15) (j := 20) rfl rfl rfl rfl (by kernel_rfl) (fun K hK => ?_) (fun K hK => ?_)
          · go_simp
            go_at_call 33
            refine (HCK.out _ B9).mono ?_
            rintro e w10 ⟨r10, rfl, own10, b10⟩
            have B10 := below2 (w := w) B9 b10
            have hBs10 := hBs9.below b10; have hBr10 := hBr9.below b10
            have HS10 := Lib.hid (fun (W : World) (hk : ∀ b arr T, w.heap.size + 1 + 1 + 1 ≤ b → BlockIs w10 b arr T → BlockIs W b arr T) => HS9.out W fun b arr T h1 h2 => hk b arr T h1 (h2.below b10))
            have HOb10 := Lib.hid (owns_below HOb9.out b10)
            obtain ⟨a6, c6, e10⟩ := owns_slice own10
            subst e10
            have HOk10 := Lib.hid (owns_base own10 (by have := hBr9.lt; omega) : w10.ownsRow (w.heap.size + 1 + 1 + 1) _ _ _ _ _)
            clear s0 s1 s2
            have s0 := hBs10.cell (i := 0) rfl; have s1 := hBs10.cell (i := 1) rfl; have s2 := hBs10.cell (i := 2) rfl
            refine hK.out _ _ ?_ (fun hS10 => ?_)
            · try dsimp only
              (repeat' apply And.intro) <;> assumption
            clear hK K
            try simp only [Act.put, List.setIfInBounds_toArray, List.set_cons_zero, List.set_cons_succ]
            refine headH_one (i := 20) rfl rfl (by kernel_rfl) (fun K hK => ?_)
            go_simp
            refine named_world (K := K) fun w11 hw11 => ?_
            obtain ⟨G11, hG11⟩ : ∃ G, G = w10.heap.size := ⟨_, rfl⟩
            rw [← hG11]
            have b11 : Below w10.heap.size w10 w11 := by subst hw11; exact (Below.refl _ _).alloc (Nat.le_refl _) _
            have hBl11 : BlockIs w11 G11 ((List.replicate (M + 2) zLk).flatMap lkV) 90 := by subst hw11 hG11; exact BlockIs.new w10 _ _
            have gL11 : w.heap.size + 1 + 1 + 1 ≤ G11 := by have := B10.size; have := hBr10.lt; omega
            clear hw11
            have B11 := below2 (w := w) B10 b11
            have hBs11 := hBs10.below b11; have hBr11 := hBr10.below b11
            have HS11 := Lib.hid (fun (W : World) (hk : ∀ b arr T, w.heap.size + 1 + 1 + 1 ≤ b → BlockIs w11 b arr T → BlockIs W b arr T) => HS10.out W fun b arr T h1 h2 => hk b arr T h1 (h2.below b11))
            have HOb11 := Lib.hid (owns_below HOb10.out b11)
            have HOk11 := Lib.hid (owns_below HOk10.out b11)
            clear s0 s1 s2
            have s0 := hBs11.cell (i := 0) rfl; have s1 := hBs11.cell (i := 1) rfl; have s2 := hBs11.cell (i := 2) rfl
            refine hK.out _ _ ?_ (fun hS11 => ?_)
            · try dsimp only
              (repeat' apply And.intro) <;> assumption
            clear hK K
            try simp only [Act.put, List.setIfInBounds_toArray, List.set_cons_zero, List.set_cons_succ]
            refine headH_take (i := 21) (v := ?qv21x16) (by kernel_rfl) rfl rfl (by kernel_rfl) (by kernel_rfl) (by kernel_rfl) (fun _ _ _ h => h) (Or.inl ⟨by rfl, ?qy21x16⟩) (by assumption) ?qr21x16
            case qy21x16 =>
              intro wq hSw
              try dsimp only at hSw
              go_simp
              try with_reducible rfl
            try simp only [Act.put, List.setIfInBounds_toArray, List.set_cons_zero, List.set_cons_succ]
            refine headH_done (by kernel_rfl) ?_
            simp only [List.drop_succ_cons, List.drop_zero]
            go_wp2_with (refine list_store_blk rfl 40 _ _ rfl (w.heap.size + 1 + 1) _ _ 40 hBr11 rfl rfl (by kernel_rfl) rfl (by simp [Value.oneCell']) w.heap.size w B11 (by omega) ?_; intro w20 hR20 hoth20 hsz20 bw20)
            refine NoPanic.normal ?_
            go_wp2_with fail
            have e0 := hR20.cell (i := 0) rfl; have e1 := hR20.cell (i := 1) rfl; have e2 := hR20.cell (i := 2) rfl; have e3 := hR20.cell (i := 3) rfl; have e4 := hR20.cell (i := 4) rfl; have e5 := hR20.cell (i := 5) rfl
            exact bodyPost_ret (v := .agg #[.int .i64 (cntL true pl), .int .i64 ((cntL false pl : Int) + (cntE 2 kl : Int)), .slice a5 n1 c5, .slice a6 n2 c6, .slice a4 M c4, .slice (some ⟨G11, 0, none⟩) (M + 2) (M + 2)]) (by simp [results, Tryz.results9, go_sem, e0, e1, e2, e3, e4, e5]) rfl (HEND.out _ _ _ _ _ _ _ (hoth20) bw20 gL11 HOb11 HOk11 HS11 hBl11)
          · go_simp
            refine named_world (K := K) fun w10 hw10 => ?_
            obtain ⟨G10, hG10⟩ : ∃ G, G = w9.heap.size := ⟨_, rfl⟩
            rw [← hG10]
            have b10 : Below w9.heap.size w9 w10 := by subst hw10; exact (Below.refl _ _).alloc (Nat.le_refl _) _
            have hBl10 : BlockIs w10 G10 ((List.replicate (M + 2) zLk).flatMap lkV) 90 := by subst hw10 hG10; exact BlockIs.new w9 _ _
            have gL10 : w.heap.size + 1 + 1 + 1 ≤ G10 := by have := B9.size; have := hBr9.lt; omega
            clear hw10
            have B10 := below2 (w := w) B9 b10
            have hBs10 := hBs9.below b10; have hBr10 := hBr9.below b10
            have HS10 := Lib.hid (fun (W : World) (hk : ∀ b arr T, w.heap.size + 1 + 1 + 1 ≤ b → BlockIs w10 b arr T → BlockIs W b arr T) => HS9.out W fun b arr T h1 h2 => hk b arr T h1 (h2.below b10))
            have HOb10 := Lib.hid (owns_below HOb9.out b10)
            clear s0 s1 s2
            have s0 := hBs10.cell (i := 0) rfl; have s1 := hBs10.cell (i := 1) rfl; have s2 := hBs10.cell (i := 2) rfl
            refine hK.out _ _ ?_ (fun hS10 => ?_)
            · try dsimp only
              (repeat' apply And.intro) <;> assumption
            clear hK K
            try simp only [Act.put, List.setIfInBounds_toArray, List.set_cons_zero, List.set_cons_succ]
            refine headH_one (i := 15) rfl rfl (by kernel_rfl) (fun K hK => ?_)
            go_simp
            go_at_call 33
            refine (HCK.out _ B10).mono ?_
            rintro e w11 ⟨r11, rfl, own11, b11⟩
            have B11 := below2 (w := w) B10 b11
            have hBs11 := hBs10.below b11; have hBr11 := hBr10.below b11
            have HS11 := Lib.hid (fun (W : World) (hk : ∀ b arr T, w.heap.size + 1 + 1 + 1 ≤ b → BlockIs w11 b arr T → BlockIs W b arr T) => HS10.out W fun b arr T h1 h2 => hk b arr T h1 (h2.below b11))
            have HOb11 := Lib.hid (owns_below HOb10.out b11)
            have hBl11 := hBl10.below b11; have gL11 := gL10
            obtain ⟨a6, c6, e11⟩ := owns_slice own11
            subst e11
            have HOk11 := Lib.hid (owns_base own11 (by have := hBr10.lt; omega) : w11.ownsRow (w.heap.size + 1 + 1 + 1) _ _ _ _ _)
            clear s0 s1 s2
            have s0 := hBs11.cell (i := 0) rfl; have s1 := hBs11.cell (i := 1) rfl; have s2 := hBs11.cell (i := 2) rfl
            refine hK.out _ _ ?_ (fun hS11 => ?_)
            · try dsimp only
              (repeat' apply And.intro) <;> assumption
            clear hK K
            try simp only [Act.put, List.setIfInBounds_toArray, List.set_cons_zero, List.set_cons_succ]
            refine headH_take (i := 21) (v := ?qv21x17) (by kernel_rfl) rfl rfl (by kernel_rfl) (by kernel_rfl) (by kernel_rfl) (fun _ _ _ h => h) (Or.inl ⟨by rfl, ?qy21x17⟩) (by assumption) ?qr21x17
            case qy21x17 =>
              intro wq hSw
              try dsimp only at hSw
              go_simp
              try with_reducible rfl
            try simp only [Act.put, List.setIfInBounds_toArray, List.set_cons_zero, List.set_cons_succ]
            refine headH_done (by kernel_rfl) ?_
            simp only [List.drop_succ_cons, List.drop_zero]
            go_wp2_with (refine list_store_blk rfl 40 _ _ rfl (w.heap.size + 1 + 1) _ _ 40 hBr11 rfl rfl (by kernel_rfl) rfl (by simp [Value.oneCell']) w.heap.size w B11 (by omega) ?_; intro w20 hR20 hoth20 hsz20 bw20)
            refine NoPanic.normal ?_
            go_wp2_with fail
            have e0 := hR20.cell (i := 0) rfl; have e1 := hR20.cell (i := 1) rfl; have e2 := hR20.cell (i := 2) rfl; have e3 := hR20.cell (i := 3) rfl; have e4 := hR20.cell (i := 4) rfl; have e5 := hR20.cell (i := 5) rfl
            exact bodyPost_ret (v := .agg #[.int .i64 (cntL true pl), .int .i64 ((cntL false pl : Int) + (cntE 2 kl : Int)), .slice a5 n1 c5, .slice a6 n2 c6, .slice a4 M c4, .slice (some ⟨G10, 0, none⟩) (M + 2) (M + 2)]) (by simp [results, Tryz.results9, go_sem, e0, e1, e2, e3, e4, e5]) rfl (HEND.out _ _ _ _ _ _ _ (hoth20) bw20 gL11 HOb11 HOk11 HS11 hBl11)
        · go_simp
          refine named_world (K := K) fun w9 hw9 => ?_
          obtain ⟨G9, hG9⟩ : ∃ G, G = w8.heap.size := ⟨_, rfl⟩
          rw [← hG9]
          have b9 : Below w8.heap.size w8 w9 := by subst hw9; exact (Below.refl _ _).alloc (Nat.le_refl _) _
          have hBl9 : BlockIs w9 G9 ((List.replicate (M + 2) zLk).flatMap lkV) 90 := by subst hw9 hG9; exact BlockIs.new w8 _ _
          have gL9 : w.heap.size + 1 + 1 + 1 ≤ G9 := by have := B8.size; have := hBr8.lt; omega
          clear hw9
          have B9 := below2 (w := w) B8 b9
          have hBs9 := hBs8.below b9; have hBr9 := hBr8.below b9
          have HS9 := Lib.hid (fun (W : World) (hk : ∀ b arr T, w.heap.size + 1 + 1 + 1 ≤ b → BlockIs w9 b arr T → BlockIs W b arr T) => HS8.out W fun b arr T h1 h2 => hk b arr T h1 (h2.below b9))
          clear s0 s1 s2
          have s0 := hBs9.cell (i := 0) rfl; have s1 := hBs9.cell (i := 1) rfl; have s2 := hBs9.cell (i := 2) rfl
          refine hK.out _ _ ?_ (fun hS9 => ?_)
          · try dsimp only
            (repeat' apply And.intro) <;> assumption
          clear hK K
          try simp only [Act.put, List.setIfInBounds_toArray, List.set_cons_zero, List.set_cons_succ]
          refine headH_one (i := 12) rfl rfl (by kernel_rfl) (fun K hK => ?_)
          go_simp
          go_at_call 32
          refine (HCB.out _ B9).mono ?_
          rintro e w10 ⟨r10, rfl, own10, b10⟩
          have B10 := below2 (w := w) B9 b10
          have hBs10 := hBs9.below b10; have hBr10 := hBr9.below b10
          have HS10 := Lib.hid (fun (W : World) (hk : ∀ b arr T, w.heap.size + 1 + 1 + 1 ≤ b → BlockIs w10 b arr T → BlockIs W b arr T) => HS9.out W fun b arr T h1 h2 => hk b arr T h1 (h2.below b10))
          have hBl10 := hBl9.below b10; have gL10 := gL9
          obtain ⟨a5, c5, e10⟩ := owns_slice own10
          subst e10
          have HOb10 := Lib.hid (owns_base own10 (by have := hBr9.lt; omega) : w10.ownsRow (w.heap.size + 1 + 1 + 1) _ _ _ _ _)
          clear s0 s1 s2
          have s0 := hBs10.cell (i := 0) rfl; have s1 := hBs10.cell (i := 1) rfl; have s2 := hBs10.cell (i := 2) rfl
          refine hK.out _ _ ?_ (fun hS10 => ?_)
          · try dsimp only
            (repeat' apply And.intro) <;> assumption
          clear hK K
          try simp only [Act.put, List.setIfInBounds_toArray, List.set_cons_zero, List.set_cons_succ]
          refine headH_one (i := 15) rfl rfl (by kernel_rfl) (fun K hK => ?_)
          go_simp
          go_at_call 33
          refine (HCK.out _ B10).mono ?_
          rintro e w11 ⟨r11, rfl, own11, b11⟩
          have B11 := below2 (w := w) B10 b11
          have hBs11 := hBs10.below b11; have hBr11 := hBr10.below b11
          have HS11 := Lib.hid (fun (W : World) (hk : ∀ b arr T, w.heap.size + 1 + 1 + 1 ≤ b → BlockIs w11 b arr T → BlockIs W b arr T) => HS10.out W fun b arr T h1 h2 => hk b arr T h1 (h2.below b11))
          have HOb11 := Lib.hid (owns_below HOb10.out b11)
          have hBl11 := hBl10.below b11; have gL11 := gL10
          obtain ⟨a6, c6, e11⟩ := owns_slice own11
          subst e11
          have HOk11 := Lib.hid (owns_base own11 (by have := hBr10.lt; omega) : w11.ownsRow (w.heap.size + 1 + 1 + 1) _ _ _ _ _)
          clear s0 s1 s2
          have s0 := hBs11.cell (i := 0) rfl; have s1 := hBs11.cell (i := 1) rfl; have s2 := hBs11.cell (i := 2) rfl
          refine hK.out _ _ ?_ (fun hS11 => ?_)
          · try dsimp only
            (repeat' apply And.intro) <;> assumption
          clear hK K
          try simp only [Act.put, List.setIfInBounds_toArray, List.set_cons_zero, List.set_cons_succ]
          refine headH_take (i := 21) (v := ?qv21x18) (by kernel_rfl) rfl rfl (by kernel_rfl) (by kernel_rfl) (by kernel_rfl) (fun _ _ _ h => h) (Or.inl ⟨by rfl, ?qy21x18⟩) (by assumption) ?qr21x18
          case qy21x18 =>
            intro wq hSw
            try dsimp only at hSw
            go_simp
            try with_reducible rfl
          try simp only [Act.put, List.setIfInBounds_toArray, List.set_cons_zero, List.set_cons_succ]
          refine headH_done (by kernel_rfl) ?_
          simp only [List.drop_succ_cons, List.drop_zero]
          go_wp2_with (refine list_store_blk rfl 40 _ _ rfl (w.heap.size + 1 + 1) _ _ 40 hBr11 rfl rfl (by kernel_rfl) rfl (by simp [Value.oneCell']) w.heap.size w B11 (by omega) ?_; intro w20 hR20 hoth20 hsz20 bw20)
          refine NoPanic.normal ?_
          go_wp2_with fail
          have e0 := hR20.cell (i := 0) rfl; have e1 := hR20.cell (i := 1) rfl; have e2 := hR20.cell (i := 2) rfl; have e3 := hR20.cell (i := 3) rfl; have e4 := hR20.cell (i := 4) rfl; have e5 := hR20.cell (i := 5) rfl
          exact bodyPost_ret (v := .agg #[.int .i64 (cntL true pl), .int .i64 ((cntL false pl : Int) + (cntE 2 kl : Int)), .slice a5 n1 c5, .slice a6 n2 c6, .slice a4 M c4, .slice (some ⟨G9, 0, none⟩) (M + 2) (M + 2)]) (by simp [results, Tryz.results9, go_sem, e0, e1, e2, e3, e4, e5]) rfl (HEND.out _ _ _ _ _ _ _ (hoth20) bw20 gL11 HOb11 HOk11 HS11 hBl11)
      · go_simp
        refine named_world (K := K) fun w8 hw8 => ?_
        obtain ⟨G8, hG8⟩ : ∃ G, G = w7.heap.size := ⟨_, rfl⟩
        rw [← hG8]
        have b8 : Below w7.heap.size w7 w8 := by subst hw8; exact (Below.refl _ _).alloc (Nat.le_refl _) _
        have hBl8 : BlockIs w8 G8 ((List.replicate (M + 2) zLk).flatMap lkV) 90 := by subst hw8 hG8; exact BlockIs.new w7 _ _
        have gL8 : w.heap.size + 1 + 1 + 1 ≤ G8 := by have := B7.size; have := hBr7.lt; omega
        clear hw8
        have B8 := below2 (w := w) B7 b8
        have hBs8 := hBs7.below b8; have hBr8 := hBr7.below b8
        have HS8 := Lib.hid (fun (W : World) (hk : ∀ b arr T, w.heap.size + 1 + 1 + 1 ≤ b → BlockIs w8 b arr T → BlockIs W b arr T) => HS7.out W fun b arr T h1 h2 => hk b arr T h1 (h2.below b8))
        clear s0 s1 s2
        have s0 := hBs8.cell (i := 0) rfl; have s1 := hBs8.cell (i := 1) rfl; have s2 := hBs8.cell (i := 2) rfl
        refine hK.out _ _ ?_ (fun hS8 => ?_)
        · try dsimp only
          (repeat' apply And.intro) <;> assumption
        clear hK K
        try simp only [Act.put, List.setIfInBounds_toArray, List.set_cons_zero, List.set_cons_succ]
        refine headH_one (i := 8) rfl rfl (by kernel_rfl) (fun K hK => ?_)
        go_simp
        go_at_call 31
        refine (HCE.out _ B8).mono ?_
        rintro e w9 ⟨rfl, b9⟩
        have B9 := below2 (w := w) B8 b9
        have hBs9 := hBs8.below b9; have hBr9 := hBr8.below b9
        have HS9 := Lib.hid (fun (W : World) (hk : ∀ b arr T, w.heap.size + 1 + 1 + 1 ≤ b → BlockIs w9 b arr T → BlockIs W b arr T) => HS8.out W fun b arr T h1 h2 => hk b arr T h1 (h2.below b9))
        have hBl9 := hBl8.below b9; have gL9 := gL8
        clear s0 s1 s2
        have s0 := hBs9.cell (i := 0) rfl; have s1 := hBs9.cell (i := 1) rfl; have s2 := hBs9.cell (i := 2) rfl
        refine hK.out _ _ ?_ (fun hS9 => ?_)
        · try dsimp only
          (repeat' apply And.intro) <;> assumption
        clear hK K
        try simp only [Act.put, List.setIfInBounds_toArray, List.set_cons_zero, List.set_cons_succ]
        refine headH_take (i := 9) (v := ?qv9x19) (by kernel_rfl) rfl rfl (by kernel_rfl) (by kernel_rfl) (by kernel_rfl) (fun _ _ _ h => h) (Or.inl ⟨by rfl, ?qy9x19⟩) (by assumption) ?qr9x19
        case qy9x19 =>
          intro wq hSw
          try dsimp only at hSw
          go_simp
          try with_reducible rfl
        try simp only [Act.put, List.setIfInBounds_toArray, List.set_cons_zero, List.set_cons_succ]
        refine headH_one (i := 12) rfl rfl (by kernel_rfl) (fun K hK => ?_)
        go_simp
        go_at_call 32
        refine (HCB.out _ B9).mono ?_
        rintro e w10 ⟨r10, rfl, own10, b10⟩
        have B10 := below2 (w := w) B9 b10
        have hBs10 := hBs9.below b10; have hBr10 := hBr9.below b10
        have HS10 := Lib.hid (fun (W : World) (hk : ∀ b arr T, w.heap.size + 1 + 1 + 1 ≤ b → BlockIs w10 b arr T → BlockIs W b arr T) => HS9.out W fun b arr T h1 h2 => hk b arr T h1 (h2.below b10))
        have hBl10 := hBl9.below b10; have gL10 := gL9
        obtain ⟨a5, c5, e10⟩ := owns_slice own10
        subst e10
        have HOb10 := Lib.hid (owns_base own10 (by have := hBr9.lt; omega) : w10.ownsRow (w.heap.size + 1 + 1 + 1) _ _ _ _ _)
        clear s0 s1 s2
        have s0 := hBs10.cell (i := 0) rfl; have s1 := hBs10.cell (i := 1) rfl; have s2 := hBs10.cell (i := 2) rfl
        refine hK.out _ _ ?_ (fun hS10 => ?_)
        · try dsimp only
          (repeat' apply And.intro) <;> assumption
        clear hK K
        try simp only [Act.put, List.setIfInBounds_toArray, List.set_cons_zero, List.set_cons_succ]
        refine headH_one (i := 15) rfl rfl (by kernel_rfl) (fun K hK => ?_)
        go_simp
        go_at_call 33
        refine (HCK.out _ B10).mono ?_
        rintro e w11 ⟨r11, rfl, own11, b11⟩
        have B11 := below2 (w := w) B10 b11
        have hBs11 := hBs10.below b11; have hBr11 := hBr10.below b11
        have HS11 := Lib.hid (fun (W : World) (hk : ∀ b arr T, w.heap.size + 1 + 1 + 1 ≤ b → BlockIs w11 b arr T → BlockIs W b arr T) => HS10.out W fun b arr T h1 h2 => hk b arr T h1 (h2.below b11))
        have HOb11 := Lib.hid (owns_below HOb10.out b11)
        have hBl11 := hBl10.below b11; have gL11 := gL10
        obtain ⟨a6, c6, e11⟩ := owns_slice own11
        subst e11
        have HOk11 := Lib.hid (owns_base own11 (by have := hBr10.lt; omega) : w11.ownsRow (w.heap.size + 1 + 1 + 1) _ _ _ _ _)
        clear s0 s1 s2
        have s0 := hBs11.cell (i := 0) rfl; have s1 := hBs11.cell (i := 1) rfl; have s2 := hBs11.cell (i := 2) rfl
        refine hK.out _ _ ?_ (fun hS11 => ?_)
        · try dsimp only
          (repeat' apply And.intro) <;> assumption
        clear hK K
        try simp only [Act.put, List.setIfInBounds_toArray, List.set_cons_zero, List.set_cons_succ]
        refine headH_take (i := 21) (v := ?qv21x20) (by kernel_rfl) rfl rfl (by kernel_rfl) (by kernel_rfl) (by kernel_rfl) (fun _ _ _ h => h) (Or.inl ⟨by rfl, ?qy21x20⟩) (by assumption) ?qr21x20
        case qy21x20 =>
          intro wq hSw
          try dsimp only at hSw
          go_simp
          try with_reducible rfl
        try simp only [Act.put, List.setIfInBounds_toArray, List.set_cons_zero, List.set_cons_succ]
        refine headH_done (by kernel_rfl) ?_
        simp only [List.drop_succ_cons, List.drop_zero]
        go_wp2_with (refine list_store_blk rfl 40 _ _ rfl (w.heap.size + 1 + 1) _ _ 40 hBr11 rfl rfl (by kernel_rfl) rfl (by simp [Value.oneCell']) w.heap.size w B11 (by omega) ?_; intro w20 hR20 hoth20 hsz20 bw20)
        refine NoPanic.normal ?_
        go_wp2_with fail
        have e0 := hR20.cell (i := 0) rfl; have e1 := hR20.cell (i := 1) rfl; have e2 := hR20.cell (i := 2) rfl; have e3 := hR20.cell (i := 3) rfl; have e4 := hR20.cell (i := 4) rfl; have e5 := hR20.cell (i := 5) rfl
        exact bodyPost_ret (v := .agg #[.int .i64 (cntL true pl), .int .i64 ((cntL false pl : Int) + (cntE 2 kl : Int)), .slice a5 n1 c5, .slice a6 n2 c6, .slice a4 M c4, .slice (some ⟨G8, 0, none⟩) (M + 2) (M + 2)]) (by simp [results, Tryz.results9, go_sem, e0, e1, e2, e3, e4, e5]) rfl (HEND.out _ _ _ _ _ _ _ (hoth20) bw20 gL11 HOb11 HOk11 HS11 hBl11)
    · go_simp
      refine named_world (K := K) fun w7 hw7 => ?_
      obtain ⟨G7, hG7⟩ : ∃ G, G = w6.heap.size := ⟨_, rfl⟩
      rw [← hG7]
      have b7 : Below w6.heap.size w6 w7 := by subst hw7; exact (Below.refl _ _).alloc (Nat.le_refl _) _
      have hBl7 : BlockIs w7 G7 ((List.replicate (M + 2) zLk).flatMap lkV) 90 := by subst hw7 hG7; exact BlockIs.new w6 _ _
      have gL7 : w.heap.size + 1 + 1 + 1 ≤ G7 := by have := B6.size; have := hBr6.lt; omega
      clear hw7
      have B7 := below2 (w := w) B6 b7
      have hBs7 := hBs6.below b7; have hBr7 := hBr6.below b7
      have HS7 := Lib.hid (fun (W : World) (hk : ∀ b arr T, w.heap.size + 1 + 1 + 1 ≤ b → BlockIs w7 b arr T → BlockIs W b arr T) => HS6.out W fun b arr T h1 h2 => hk b arr T h1 (h2.below b7))
      clear s0 s1 s2
      have s0 := hBs7.cell (i := 0) rfl; have s1 := hBs7.cell (i := 1) rfl; have s2 := hBs7.cell (i := 2) rfl
      refine hK.out _ _ ?_ (fun hS7 => ?_)
      · try dsimp only
        (repeat' apply And.intro) <;> assumption
      clear hK K
      try simp only [Act.put, List.setIfInBounds_toArray, List.set_cons_zero, List.set_cons_succ]
      refine headH_one (i := 5) rfl rfl (by kernel_rfl) (fun K hK => ?_)
      go_simp
      go_at_call 30
      refine (HCF.out _ B7).mono ?_
      rintro e w8 ⟨rfl, b8⟩
      have B8 := below2 (w := w) B7 b8
      have hBs8 := hBs7.below b8; have hBr8 := hBr7.below b8
      have HS8 := Lib.hid (fun (W : World) (hk : ∀ b arr T, w.heap.size + 1 + 1 + 1 ≤ b → BlockIs w8 b arr T → BlockIs W b arr T) => HS7.out W fun b arr T h1 h2 => hk b arr T h1 (h2.below b8))
      have hBl8 := hBl7.below b8; have gL8 := gL7
      clear s0 s1 s2
      have s0 := hBs8.cell (i := 0) rfl; have s1 := hBs8.cell (i := 1) rfl; have s2 := hBs8.cell (i := 2) rfl
      refine hK.out _ _ ?_ (fun hS8 => ?_)
      · try dsimp only
        (repeat' apply And.intro) <;> assumption
      clear hK K
      try simp only [Act.put, List.setIfInBounds_toArray, List.set_cons_zero, List.set_cons_succ]
      refine headH_one (i := 8) rfl rfl (by kernel_rfl) (fun K hK => ?_)
      go_simp
      go_at_call 31
      refine (HCE.out _ B8).mono ?_
      rintro e w9 ⟨rfl, b9⟩
      have B9 := below2 (w := w) B8 b9
      have hBs9 := hBs8.below b9; have hBr9 := hBr8.below b9
      have HS9 := Lib.hid (fun (W : World) (hk : ∀ b arr T, w.heap.size + 1 + 1 + 1 ≤ b → BlockIs w9 b arr T → BlockIs W b arr T) => HS8.out W fun b arr T h1 h2 => hk b arr T h1 (h2.below b9))
      have hBl9 := hBl8.below b9; have gL9 := gL8
      clear s0 s1 s2
      have s0 := hBs9.cell (i := 0) rfl; have s1 := hBs9.cell (i := 1) rfl; have s2 := hBs9.cell (i := 2) rfl
      refine hK.out _ _ ?_ (fun hS9 => ?_)
      · try dsimp only
        (repeat' apply And.intro) <;> assumption
      clear hK K
      try simp only [Act.put, List.setIfInBounds_toArray, List.set_cons_zero, List.set_cons_succ]
      refine headH_take (i := 9) (v := ?qv9x21) (by kernel_rfl) rfl rfl (by kernel_rfl) (by kernel_rfl) (by kernel_rfl) (fun _ _ _ h => h) (Or.inl ⟨by rfl, ?qy9x21⟩) (by assumption) ?qr9x21
      case qy9x21 =>
        intro wq hSw
        try dsimp only at hSw
        go_simp
        try with_reducible rfl
      try simp only [Act.put, List.setIfInBounds_toArray, List.set_cons_zero, List.set_cons_succ]
      refine headH_one (i := 12) rfl rfl (by kernel_rfl) (fun K hK => ?_)
      go_simp
      go_at_call 32
      refine (HCB.out _ B9).mono ?_
      rintro e w10 ⟨r10, rfl, own10, b10⟩
      have B10 := below2 (w := w) B9 b10
      have hBs10 := hBs9.below b10; have hBr10 := hBr9.below b10
      have HS10 := Lib.hid (fun (W : World) (hk : ∀ b arr T, w.heap.size + 1 + 1 + 1 ≤ b → BlockIs w10 b arr T → BlockIs W b arr T) => HS9.out W fun b arr T h1 h2 => hk b arr T h1 (h2.below b10))
      have hBl10 := hBl9.below b10; have gL10 := gL9
      obtain ⟨a5, c5, e10⟩ := owns_slice own10
      subst e10
      have HOb10 := Lib.hid (owns_base own10 (by have := hBr9.lt; omega) : w10.ownsRow (w.heap.size + 1 + 1 + 1) _ _ _ _ _)
      clear s0 s1 s2
      have s0 := hBs10.cell (i := 0) rfl; have s1 := hBs10.cell (i := 1) rfl; have s2 := hBs10.cell (i := 2) rfl
      refine hK.out _ _ ?_ (fun hS10 => ?_)
      · try dsimp only
        (repeat' apply And.intro) <;> assumption
      clear hK K
      try simp only [Act.put, List.setIfInBounds_toArray, List.set_cons_zero, List.set_cons_succ]
      refine headH_one (i := 15) rfl rfl (by kernel_rfl) (fun K hK => ?_)
      go_simp
      go_at_call 33
      refine (HCK.out _ B10).mono ?_
      rintro e w11 ⟨r11, rfl, own11, b11⟩
      have B11 := below2 (w := w) B10 b11
      have hBs11 := hBs10.below b11; have hBr11 := hBr10.below b11
      have HS11 := Lib.hid (fun (W : World) (hk : ∀ b arr T, w.heap.size + 1 + 1 + 1 ≤ b → BlockIs w11 b arr T → BlockIs W b arr T) => HS10.out W fun b arr T h1 h2 => hk b arr T h1 (h2.below b11))
      have HOb11 := Lib.hid (owns_below HOb10.out b11)
      have hBl11 := hBl10.below b11; have gL11 := gL10
      obtain ⟨a6, c6, e11⟩ := owns_slice own11
      subst e11
      have HOk11 := Lib.hid (owns_base own11 (by have := hBr10.lt; omega) : w11.ownsRow (w.heap.size + 1 + 1 + 1) _ _ _ _ _)
      clear s0 s1 s2
      have s0 := hBs11.cell (i := 0) rfl; have s1 := hBs11.cell (i := 1) rfl; have s2 := hBs11.cell (i := 2) rfl
      refine hK.out _ _ ?_ (fun hS11 => ?_)
      · try dsimp only
        (repeat' apply And.intro) <;> assumption
      clear hK K
      try simp only [Act.put, List.setIfInBounds_toArray, List.set_cons_zero, List.set_cons_succ]
      refine headH_take (i := 21) (v := ?qv21x22) (by kernel_rfl) rfl rfl (by kernel_rfl) (by kernel_rfl) (by kernel_rfl) (fun _ _ _ h => h) (Or.inl ⟨by rfl, ?qy21x22⟩) (by assumption) ?qr21x22
      case qy21x22 =>
        intro wq hSw
        try dsimp only at hSw
        go_simp
        try with_reducible rfl
      try simp only [Act.put, List.setIfInBounds_toArray, List.set_cons_zero, List.set_cons_succ]
      refine headH_done (by kernel_rfl) ?_
      simp only [List.drop_succ_cons, List.drop_zero]
      go_wp2_with (refine list_store_blk rfl 40 _ _ rfl (w.heap.size + 1 + 1) _ _ 40 hBr11 rfl rfl (by kernel_rfl) rfl (by simp [Value.oneCell']) w.heap.size w B11 (by omega) ?_; intro w20 hR20 hoth20 hsz20 bw20)
      refine NoPanic.normal ?_
      go_wp2_with fail
      have e0 := hR20.cell (i := 0) rfl; have e1 := hR20.cell (i := 1) rfl; have e2 := hR20.cell (i := 2) rfl; have e3 := hR20.cell (i := 3) rfl; have e4 := hR20.cell (i := 4) rfl; have e5 := hR20.cell (i := 5) rfl
      exact bodyPost_ret (v := .agg #[.int .i64 (cntL true pl), .int .i64 ((cntL false pl : Int) + (cntE 2 kl : Int)), .slice a5 n1 c5, .slice a6 n2 c6, .slice a4 M c4, .slice (some ⟨G7, 0, none⟩) (M + 2) (M + 2)]) (by simp [results, Tryz.results9, go_sem, e0, e1, e2, e3, e4, e5]) rfl (HEND.out _ _ _ _ _ _ _ (hoth20) bw20 gL11 HOb11 HOk11 HS11 hBl11)
  · go_simp
    refine named_world (K := K) fun w6 hw6 => ?_
    obtain ⟨G6, hG6⟩ : ∃ G, G = w5.heap.size := ⟨_, rfl⟩
    rw [← hG6]
    have b6 : Below w5.heap.size w5 w6 := by subst hw6; exact (Below.refl _ _).alloc (Nat.le_refl _) _
    have hBl6 : BlockIs w6 G6 ((List.replicate (M + 2) zLk).flatMap lkV) 90 := by subst hw6 hG6; exact BlockIs.new w5 _ _
    have gL6 : w.heap.size + 1 + 1 + 1 ≤ G6 := by have := B5.size; have := hBr5.lt; omega
    clear hw6
    have B6 := below2 (w := w) B5 b6
    have hBs6 := hBs5.below b6; have hBr6 := hBr5.below b6
    have HS6 := Lib.hid (fun (W : World) (hk : ∀ b arr T, w.heap.size + 1 + 1 + 1 ≤ b → BlockIs w6 b arr T → BlockIs W b arr T) => HS5.out W fun b arr T h1 h2 => hk b arr T h1 (h2.below b6))
    clear s0 s1 s2
    have s0 := hBs6.cell (i := 0) rfl; have s1 := hBs6.cell (i := 1) rfl; have s2 := hBs6.cell (i := 2) rfl
    refine hK.out _ _ ?_ (fun hS6 => ?_)
    · try dsimp only
      (repeat' apply And.intro) <;> assumption
    clear hK K
    try simp only [Act.put, List.setIfInBounds_toArray, List.set_cons_zero, List.set_cons_succ]
    refine headH_one (i := 2) rfl rfl (by kernel_rfl) (fun K hK => ?_)
    go_simp
    go_at_call 30
    refine (HCT.out _ B6).mono ?_
    rintro e w7 ⟨rfl, b7⟩
    have B7 := below2 (w := w) B6 b7
    have hBs7 := hBs6.below b7; have hBr7 := hBr6.below b7
    have HS7 := Lib.hid (fun (W : World) (hk : ∀ b arr T, w.heap.size + 1 + 1 + 1 ≤ b → BlockIs w7 b arr T → BlockIs W b arr T) => HS6.out W fun b arr T h1 h2 => hk b arr T h1 (h2.below b7))
    have hBl7 := hBl6.below b7; have gL7 := gL6
    clear s0 s1 s2
    have s0 := hBs7.cell (i := 0) rfl; have s1 := hBs7.cell (i := 1) rfl; have s2 := hBs7.cell (i := 2) rfl
    refine hK.out _ _ ?_ (fun hS7 => ?_)
    · try dsimp only
      (repeat' apply And.intro) <;> assumption
    clear hK K
    try simp only [Act.put, List.setIfInBounds_toArray, List.set_cons_zero, List.set_cons_succ]
    refine headH_one (i := 5) rfl rfl (by kernel_rfl) (fun K hK => ?_)
    go_simp
    go_at_call 30
    refine (HCF.out _ B7).mono ?_
    rintro e w8 ⟨rfl, b8⟩
    have B8 := below2 (w := w) B7 b8
    have hBs8 := hBs7.below b8; have hBr8 := hBr7.below b8
    have HS8 := Lib.hid (fun (W : World) (hk : ∀ b arr T, w.heap.size + 1 + 1 + 1 ≤ b → BlockIs w8 b arr T → BlockIs W b arr T) => HS7.out W fun b arr T h1 h2 => hk b arr T h1 (h2.below b8))
    have hBl8 := hBl7.below b8; have gL8 := gL7
    clear s0 s1 s2
    have s0 := hBs8.cell (i := 0) rfl; have s1 := hBs8.cell (i := 1) rfl; have s2 := hBs8.cell (i := 2) rfl
    refine hK.out _ _ ?_ (fun hS8 => ?_)
    · try dsimp only
      (repeat' apply And.intro) <;> assumption
    clear hK K
    try simp only [Act.put, List.setIfInBounds_toArray, List.set_cons_zero, List.set_cons_succ]
    refine headH_one (i := 8) rfl rfl (by kernel_rfl) (fun K hK => ?_)
    go_simp
    go_at_call 31
    refine (HCE.out _ B8).mono ?_
    rintro e w9 ⟨rfl, b9⟩
    have B9 := below2 (w := w) B8 b9
    have hBs9 := hBs8.below b9; have hBr9 := hBr8.below b9
    have HS9 := Lib.hid (fun (W : World) (hk : ∀ b arr T, w.heap.size + 1 + 1 + 1 ≤ b → BlockIs w9 b arr T → BlockIs W b arr T) => HS8.out W fun b arr T h1 h2 => hk b arr T h1 (h2.below b9))
    have hBl9 := hBl8.below b9; have gL9 := gL8
    clear s0 s1 s2
    have s0 := hBs9.cell (i := 0) rfl; have s1 := hBs9.cell (i := 1) rfl; have s2 := hBs9.cell (i := 2) rfl
    refine hK.out _ _ ?_ (fun hS9 => ?_)
    · try dsimp only
      (repeat' apply And.intro) <;> assumption
    clear hK K
    try simp only [Act.put, List.setIfInBounds_toArray, List.set_cons_zero, List.set_cons_succ]
    refine headH_take (i := 9) (v := ?qv9x23) (by kernel_rfl) rfl rfl (by kernel_rfl) (by kernel_rfl) (by kernel_rfl) (fun _ _ _ h => h) (Or.inl ⟨by rfl, ?qy9x23⟩) (by assumption) ?qr9x23
    case qy9x23 =>
      intro wq hSw
      try dsimp only at hSw
      go_simp
      try with_reducible rfl
    try simp only [Act.put, List.setIfInBounds_toArray, List.set_cons_zero, List.set_cons_succ]
    refine headH_one (i := 12) rfl rfl (by kernel_rfl) (fun K hK => ?_)
    go_simp
    go_at_call 32
    refine (HCB.out _ B9).mono ?_
    rintro e w10 ⟨r10, rfl, own10, b10⟩
    have B10 := below2 (w := w) B9 b10
    have hBs10 := hBs9.below b10; have hBr10 := hBr9.below b10
    have HS10 := Lib.hid (fun (W : World) (hk : ∀ b arr T, w.heap.size + 1 + 1 + 1 ≤ b → BlockIs w10 b arr T → BlockIs W b arr T) => HS9.out W fun b arr T h1 h2 => hk b arr T h1 (h2.below b10))
    have hBl10 := hBl9.below b10; have gL10 := gL9
    obtain ⟨a5, c5, e10⟩ := owns_slice own10
    subst e10
    have HOb10 := Lib.hid (owns_base own10 (by have := hBr9.lt; omega) : w10.ownsRow (w.heap.size + 1 + 1 + 1) _ _ _ _ _)
    clear s0 s1 s2
    have s0 := hBs10.cell (i := 0) rfl; have s1 := hBs10.cell (i := 1) rfl; have s2 := hBs10.cell (i := 2) rfl
    refine hK.out _ _ ?_ (fun hS10 => ?_)
    · try dsimp only
      (repeat' apply And.intro) <;> assumption
    clear hK K
    try simp only [Act.put, List.setIfInBounds_toArray, List.set_cons_zero, List.set_cons_succ]
    refine headH_one (i := 15) rfl rfl (by kernel_rfl) (fun K hK => ?_)
    go_simp
    go_at_call 33
    refine (HCK.out _ B10).mono ?_
    rintro e w11 ⟨r11, rfl, own11, b11⟩
    have B11 := below2 (w := w) B10 b11
    have hBs11 := hBs10.below b11; have hBr11 := hBr10.below b11
    have HS11 := Lib.hid (fun (W : World) (hk : ∀ b arr T, w.heap.size + 1 + 1 + 1 ≤ b → BlockIs w11 b arr T → BlockIs W b arr T) => HS10.out W fun b arr T h1 h2 => hk b arr T h1 (h2.below b11))
    have HOb11 := Lib.hid (owns_below HOb10.out b11)
    have hBl11 := hBl10.below b11; have gL11 := gL10
    obtain ⟨a6, c6, e11⟩ := owns_slice own11
    subst e11
    have HOk11 := Lib.hid (owns_base own11 (by have := hBr10.lt; omega) : w11.ownsRow (w.heap.size + 1 + 1 + 1) _ _ _ _ _)
    clear s0 s1 s2
    have s0 := hBs11.cell (i := 0) rfl; have s1 := hBs11.cell (i := 1) rfl; have s2 := hBs11.cell (i := 2) rfl
    refine hK.out _ _ ?_ (fun hS11 => ?_)
    · try dsimp only
      (repeat' apply And.intro) <;> assumption
    clear hK K
    try simp only [Act.put, List.setIfInBounds_toArray, List.set_cons_zero, List.set_cons_succ]
    refine headH_take (i := 21) (v := ?qv21x24) (by kernel_rfl) rfl rfl (by kernel_rfl) (by kernel_rfl) (by kernel_rfl) (fun _ _ _ h => h) (Or.inl ⟨by rfl, ?qy21x24⟩) (by assumption) ?qr21x24
    case qy21x24 =>
      intro wq hSw
      try dsimp only at hSw
      go_simp
      try with_reducible rfl
    try simp only [Act.put, List.setIfInBounds_toArray, List.set_cons_zero, List.set_cons_succ]
    refine headH_done (by kernel_rfl) ?_
    simp only [List.drop_succ_cons, List.drop_zero]
    go_wp2_with (refine list_store_blk rfl 40 _ _ rfl (w.heap.size + 1 + 1) _ _ 40 hBr11 rfl rfl (by kernel_rfl) rfl (by simp [Value.oneCell']) w.heap.size w B11 (by omega) ?_; intro w20 hR20 hoth20 hsz20 bw20)
    refine NoPanic.normal ?_
    go_wp2_with fail
    have e0 := hR20.cell (i := 0) rfl; have e1 := hR20.cell (i := 1) rfl; have e2 := hR20.cell (i := 2) rfl; have e3 := hR20.cell (i := 3) rfl; have e4 := hR20.cell (i := 4) rfl; have e5 := hR20.cell (i := 5) rfl
    exact bodyPost_ret (v := .agg #[.int .i64 (cntL true pl), .int .i64 ((cntL false pl : Int) + (cntE 2 kl : Int)), .slice a5 n1 c5, .slice a6 n2 c6, .slice a4 M c4, .slice (some ⟨G6, 0, none⟩) (M + 2) (M + 2)]) (by simp [results, Tryz.results9, go_sem, e0, e1, e2, e3, e4, e5]) rfl (HEND.out _ _ _ _ _ _ _ (hoth20) bw20 gL11 HOb11 HOk11 HS11 hBl11)

end Go.Proofs.YtnplgagaoeckoaaGreat
namespace Go.Proofs.YtnplgagaoeckoaaGreat
open Go.RowKit Go.Lib

def holdP (who : Int) (k : Int × List Int) : Bool := decide (k.1 = who + 1) || decide (who ∈ k.2)
def heldL (ks : List Lk) (who : Int) (n : Nat) : List Int := ((List.range n).filter fun i => holdP who (((ks[i]?).map fun k => (k.b, k.l)).getD (0, []))).map fun i : Nat => (i : Int)
theorem heldL_snoc (ks : List Lk) (who : Int) (n : Nat) (x : Lk) (hx : ks[n]? = some x) : heldL ks who (n + 1) = heldL ks who n ++ if holdP who (x.b, x.l) then [(n : Int)] else [] := by
  unfold heldL
  rw [List.range_succ, List.filter_append, List.map_append]
  congr 1
  simp only [List.filter_cons, List.filter_nil, hx, Option.map_some, Option.getD_some]
  split <;> rfl
theorem heldL_len (ks : List Lk) (who : Int) (n : Nat) : (heldL ks who n).length ≤ n := by
  unfold heldL
  rw [List.length_map]
  exact Nat.le_trans (List.length_filter_le _ _) (by simp)
theorem heldL_pl (m : Mm) (who : Int) : heldL m.locks.2 who m.locks.2.length = (heldP m.pl who).map fun i : Nat => (i : Int) := by
  unfold heldL heldP holdP
  have h1 : m.pl.locks = m.locks.2.map (fun k => (k.b, k.l)) := rfl
  rw [h1, List.length_map]
  simp only [List.getD_eq_getElem?_getD, List.getElem?_map]
theorem in_snoc (l : List Int) (x : Int) : (l ++ [x]).flatMap inV = l.flatMap inV ++ inV x := by rw [List.flatMap_append]; simp
set_option maxRecDepth 100000 in
set_option maxHeartbeats 8000000 in
theorem memHeld_any (m : Mm) (who : Int) (w : World) (h : MmAt w m) (hwho : 0 ≤ who ∧ who ≤ 100) (hl : m.locks.2.length ≤ 1000) :
    Calls Tryz.prog 18 #[.agg #[.int .i64 m.inn, .int .i64 m.out, m.bans.1, m.book.1, m.parts.1, m.locks.1], .int .i64 who] w fun e w' => ∃ a c, e = .returned (.slice a (heldP m.pl who).length c) ∧ ReadsL inV 1 w' (.slice a (heldP m.pl who).length c) ((heldP m.pl who).map fun i : Nat => (i : Int)) ∧ Below w.heap.size w w' := by
  have hpl := heldL_pl m who
  have hpn : (heldP m.pl who).length = (heldL m.locks.2 who m.locks.2.length).length := by rw [hpl, List.length_map]
  rw [← hpl, hpn]
  clear hpl hpn
  have HLK := Lib.hid h.2.2.2.2
  obtain ⟨a1, a2, a3, a4, c1, c2, c3, c4, e1, e2, e3, e4⟩ := mm_slices h
  obtain ⟨hm, p, c, e6, h3⟩ := lks_open h.2.2.2.1
  rw [e1, e2, e3, e6]
  rw [e4] at e6
  clear e1 e2 e3 e4 e6 h
  generalize m.inn = x0; generalize m.out = x1; generalize m.bans.2.length = n1; generalize m.book.2.length = n2; generalize m.parts.2.length = n3
  generalize m.locks.2 = L at *
  have hwr : IntKind.i64.wrap (who + 1) = who + 1 := by rw [IntKind.wrap_i64]; omega
  go_enter Tryz.func18, Tryz.ntmps18
  go_wp2_with fail
  go_name_world W2 hW2
  have HB2 : Hid (Below w.heap.size w W2) := by show Below _ _ _; subst hW2; exact bel
  clear hW2
  go_loopw [5, 11] (fun v' i' wr => ∃ k : Nat, k ≤ L.length ∧ i' = .int .i64 k ∧ Hid (wr.ownsRow w.heap.size 3 1 v' (heldL L who k).length ((heldL L who k).flatMap inV)) ∧ Hid (Below w.heap.size w wr)) (fun _ i' _ => L.length - (intOf i').toNat)
  case atStart => exact ⟨0, by omega, rfl, ⟨rfl, Or.inl ⟨rfl, rfl⟩⟩, HB2.out⟩
  case round =>
    obtain ⟨k, hk, rfl, HO, HB⟩ := hrel
    by_cases hlt : k < L.length
    · obtain ⟨x, hx⟩ : ∃ x, L[k]? = some x := ⟨_, List.getElem?_eq_getElem hlt⟩
      obtain ⟨b, o, rfl, h4, h5, h6⟩ := h3 (by omega)
      obtain ⟨k0, k1⟩ := h6 k x hx
      have k0 := keep HB.out h5 k0; have k1 := keep HB.out h5 k1
      have q1 : (0 : Int) ≤ (k : Int) := by omega
      have q2 : (k : Int) < (L.length : Int) := by omega
      have hxl := HLK.out x (List.mem_of_getElem? hx)
      have HCN := Lib.hid (fun (W : World) (hb : Below w.heap.size w W) => intContains_any x.v x.l who W (ReadsL.below hxl hb))
      obtain ⟨_, xa, xc, ex, _⟩ := ins_open hxl
      have hS := heldL_snoc L who k x hx
      have hcl := heldL_len L who k
      rw [ex] at k1 HCN
      generalize hxn : x.l.length = xn at k1 HCN
      generalize hxb : x.b = xb at k0
      have HXB := Lib.hid hxb
      clear hx h6 hxl ex hxn hxb
      have b5 : Below wr.heap.size wr (wr.alloc (.cells #[.int .i64 xb, .slice xa xn xc] 90)) := (Below.refl _ _).alloc (Nat.le_refl _) _
      have HB5 := Lib.hid (HB.out.trans (b5.mono HB.out.size))
      have HO5 := Lib.hid (owns_below HO.out b5)
      have HS := Lib.hid hS
      clear hS b5
      by_cases hc : xb = who + 1
      · have HS2 : Hid (heldL L who (k + 1) = heldL L who k ++ [(k : Int)]) := by show _ = _; rw [HS.out]; unfold holdP; rw [HXB.out, decide_eq_true hc]; rfl
        have f1 : (xb == who + 1) = true := by simpa using hc
        clear hc
        go_upto_region 6 with fail
        go_name_world w6 hw6
        have HB6 := HB5
        have HO6 := HO5
        rw [hw6] at HB6 HO6
        clear hw6
        go_wp2_with (at_builtin; refine list_app_reads_g inRow rfl _ _ rfl w.heap.size _ (heldL L who k).length _ rfl (HO6.out.alloc _) _ 1 (inV (k : Int)) rfl (reads_one (us := inV (k : Int)) rfl (Nat.succ_pos 0)) (inV_one1 _) (by omega) (by omega) (by have := HB6.out.size; simp; omega) ?_; intro v' w7 hO7 hg7)
        go_roundw
        case rel => exact ⟨k + 1, by omega, by go_num, (by rw [HS2.out, List.length_append, in_snoc]; exact hO7), below_grown (HO6.out.alloc _) ((HB6.out).alloc (HB6.out.size) _) (Nat.le_refl _) (by have := HB6.out.size; simp; omega) hg7⟩
        case measure => simp [intOf]; omega
      · have f1 : (xb == who + 1) = false := by simpa using hc
        by_cases hi : who ∈ x.l
        · have HS2 : Hid (heldL L who (k + 1) = heldL L who k ++ [(k : Int)]) := by show _ = _; rw [HS.out]; unfold holdP; rw [decide_eq_true hi, Bool.or_true]; rfl
          rw [decide_eq_true hi] at HCN
          clear hc hi
          go_upto_region 6 with (go_at_call 55; (with_reducible refine (HCN.out _ (by first | exact HB5.out | exact bel)).mono ?_); rintro e w6 ⟨rfl, b6⟩)
          have HB6 := Lib.hid (below2 HB5.out b6)
          have HO6 := Lib.hid (owns_below HO5.out b6)
          clear b6
          go_wp2_with (at_builtin; refine list_app_reads_g inRow rfl _ _ rfl w.heap.size _ (heldL L who k).length _ rfl (HO6.out.alloc _) _ 1 (inV (k : Int)) rfl (reads_one (us := inV (k : Int)) rfl (Nat.succ_pos 0)) (inV_one1 _) (by omega) (by omega) (by have := HB6.out.size; simp; omega) ?_; intro v' w7 hO7 hg7)
          go_roundw
          case rel => exact ⟨k + 1, by omega, by go_num, (by rw [HS2.out, List.length_append, in_snoc]; exact hO7), below_grown (HO6.out.alloc _) ((HB6.out).alloc (HB6.out.size) _) (Nat.le_refl _) (by have := HB6.out.size; simp; omega) hg7⟩
          case measure => simp [intOf]; omega
        · have HS2 : Hid (heldL L who (k + 1) = heldL L who k) := by show _ = _; rw [HS.out]; unfold holdP; rw [decide_eq_false hi, HXB.out, decide_eq_false hc]; simp
          rw [decide_eq_false hi] at HCN
          clear hc hi
          go_wp2_with (go_at_call 55; (with_reducible refine (HCN.out _ (by first | exact HB5.out | exact bel)).mono ?_); rintro e w6 ⟨rfl, b6⟩)
          go_roundw
          case rel => exact ⟨k + 1, by omega, by go_num, (by rw [HS2.out]; exact owns_below HO5.out b6), below2 HB5.out b6⟩
          case measure => simp [intOf]; omega
    · obtain rfl : k = L.length := by omega
      obtain ⟨a9, c9, e9⟩ := owns_slice HO.out
      subst e9
      have HR : Hid (ReadsL inV 1 wr (.slice a9 (heldL L who L.length).length c9) (heldL L who L.length)) := owns_readsL HO.out
      go_wp2_with fail
      go_ret
      exact ⟨_, _, rfl, HR.out, HB.out⟩
end Go.Proofs.YtnplgagaoeckoaaGreat
namespace Go.Proofs.YtnplgagaoeckoaaGreat
open Go.RowKit

/-- W keeps all of w's blocks but those of X -/
def KeepOff (X : Nat → Prop) (w W : World) : Prop := ∀ b arr T, ¬ X b → BlockIs w b arr T → BlockIs W b arr T
theorem KeepOff.refl (X : Nat → Prop) (w : World) : KeepOff X w w := fun _ _ _ _ h => h
theorem KeepOff.trans {X : Nat → Prop} {w w1 w2 : World} (h1 : KeepOff X w w1) (h2 : KeepOff X w1 w2) : KeepOff X w w2 := fun b arr T h hb => h2 b arr T h (h1 b arr T h hb)
theorem KeepOff.below {X : Nat → Prop} {w w' : World} (h : Below w.heap.size w w') : KeepOff X w w' := fun _ _ _ _ hb => hb.below h
/-- P holds in every world that keeps w's blocks but those of X -/
def HoldOff (X : Nat → Prop) (w : World) (P : World → Prop) : Prop := ∀ W, KeepOff X w W → P W
theorem HoldOff.now {X : Nat → Prop} {w : World} {P : World → Prop} (h : HoldOff X w P) : P w := h w (KeepOff.refl _ _)
theorem HoldOff.step {X : Nat → Prop} {w w' : World} {P : World → Prop} (h : HoldOff X w P) (hk : KeepOff X w w') : HoldOff X w' P := fun W hW => h W (hk.trans hW)
theorem HoldOff.below {X : Nat → Prop} {w w' : World} {P : World → Prop} (h : HoldOff X w P) (hb : Below w.heap.size w w') : HoldOff X w' P := h.step (KeepOff.below hb)
theorem HoldOff.grows (X : Nat → Prop) (w : World) : Grows (KeepOff X w) := fun _ _ h hb => h.trans (KeepOff.below hb)
/-- what a call made holds off boxes that lie below it -/
theorem HoldOff.firm {X : Nat → Prop} {w w' : World} {P : World → Prop} (h : Firm (KeepOff X w) w.heap.size w' P) (hX : ∀ b, X b → b < w.heap.size) (hb : Below w.heap.size w w') : HoldOff X w' P := fun W hW =>
  h W ((KeepOff.below hb).trans hW) fun b arr T hB hh => hW b arr T (fun hx => Nat.lt_irrefl _ (Nat.lt_of_lt_of_le (hX b hx) hB)) hh
/-- what is new holds off boxes that are old, or that come later -/
theorem HoldOff.new {X : Nat → Prop} {w w' : World} {P : World → Prop} (h : ∀ W, (∀ b arr T, w.heap.size ≤ b → BlockIs w' b arr T → BlockIs W b arr T) → P W) (hX : ∀ b, X b → b < w.heap.size ∨ w'.heap.size ≤ b) : HoldOff X w' P := fun W hW =>
  h W fun b arr T hB hh => hW b arr T (fun hx => by have := hh.lt; rcases hX b hx with h | h <;> omega) hh
theorem keep_alloc {X : Nat → Prop} (w : World) (o : Obj) : KeepOff X w (w.alloc o) := KeepOff.below ((Below.refl _ _).alloc (Nat.le_refl _) _)

theorem doOk_of {m : Mm} {N : Nat} (h : SmallP m.pl N) (hN : N ≤ 1000) (hl : LocksOk m.pl) : DoOk m := by
  obtain ⟨h1, h2, h3, h4, h5, h6, h7⟩ := h
  have e1 : m.pl.parts.length = m.parts.2.length := by unfold Mm.pl; simp
  have e2 : m.pl.locks.length = m.locks.2.length := by unfold Mm.pl; simp
  have b1 : m.pl.bans = m.bans.2 := rfl
  have b2 : m.pl.book = m.book.2 := rfl
  rw [b1] at h1; rw [b2] at h2
  refine ⟨by omega, by omega, fun k hk => ?_, fun s hs => ?_, by omega, by omega⟩
  · have hm : (k.b, k.l) ∈ m.pl.locks := List.mem_map.2 ⟨k, hk, rfl⟩
    exact ⟨Nat.le_trans (h7 _ hm) (by omega), (hl _ hm).2⟩
  · have hm : (s.size, s.l) ∈ m.pl.parts := List.mem_map.2 ⟨s, hs, rfl⟩
    exact Nat.le_trans (h5 _ hm) (by omega)
theorem newP_small (secret : Nat) (sh : Int) (bl : List Ba) (kl : List Ey) (pl : List Pe) (hb : bl.length ≤ 20) (hk : kl.length ≤ 20) (hp : pl.length ≤ 20) : SmallP (newP secret sh bl kl pl) 20 := by
  have := partsN_in sh
  refine ⟨hb, hk, ?_, ?_, fun p hp' => ?_, ?_, fun k hk' => ?_⟩
  · show 1 ≤ (List.map _ (List.range (partsN sh))).length; rw [List.length_map, List.length_range]; omega
  · show (List.map _ (List.range (partsN sh))).length ≤ 8; rw [List.length_map, List.length_range]; omega
  · obtain ⟨i, _, rfl⟩ := List.mem_map.1 hp'
    exact Nat.le_trans (partL_len _ _ _ _) hp
  · show (List.replicate _ _).length = (List.map _ (List.range (partsN sh))).length + 2; rw [List.length_map, List.length_range, List.length_replicate]
  · rw [List.eq_of_mem_replicate hk']; exact Nat.zero_le _
theorem newP_locks (secret : Nat) (sh : Int) (bl : List Ba) (kl : List Ey) (pl : List Pe) : LocksOk (newP secret sh bl kl pl) := fun k hk => by
  rw [List.eq_of_mem_replicate hk]; exact ⟨Or.inl rfl, List.Pairwise.nil⟩
theorem memDo_off (X : Nat → Prop) (m : Mm) (o : Oq) (who : Int) (w : World) (hX : ∀ b, X b → b < w.heap.size) (hm : HoldOff X w fun W => MmAt W m) (ho : OqAt w o) (hwho : 0 ≤ who ∧ who ≤ 100) (hd : DoOk m) (hob : o.bans.2.length ≤ 1000) (hok : o.book.2.length ≤ 1000) :
    Calls Tryz.prog 14 #[.agg #[.int .i64 m.inn, .int .i64 m.out, m.bans.1, m.book.1, m.parts.1, m.locks.1], .agg #[.int .i64 o.kind, .int .i64 o.lock, .int .i64 o.lk, .int .i64 o.ls, .int .i64 o.lt, .int .i64 o.old, .int .i64 o.new, .int .i64 o.vn, .bool o.pe.en.ad.v6, .int .u64 o.pe.en.ad.hi, .int .u64 o.pe.en.ad.lo, .int .i64 o.pe.en.port, .bool o.pe.came, .int .i64 o.pe.since, .int .i64 o.pe.pts, .int .i64 o.pe.at_, .int .i64 o.pe.ping, .int .i64 o.pe.work, o.bans.1, o.book.1, .bool o.mark], .int .i64 who] w fun e w' => ∃ (m' : Mm) (v' : Vm), e = .returned (.tuple #[.agg #[.int .i64 (m').inn, .int .i64 (m').out, (m').bans.1, (m').book.1, (m').parts.1, (m').locks.1], .agg #[.int .i64 (v').n, .bool (v').pe.en.ad.v6, .int .u64 (v').pe.en.ad.hi, .int .u64 (v').pe.en.ad.lo, .int .i64 (v').pe.en.port, .bool (v').pe.came, .int .i64 (v').pe.since, .int .i64 (v').pe.pts, .int .i64 (v').pe.at_, .int .i64 (v').pe.ping, .int .i64 (v').pe.work, (v').bans.1, (v').book.1]]) ∧ HoldOff X w' (fun W => MmAt W m') ∧ HoldOff X w' (fun W => VmAt W v') ∧ m'.pl = (doP m.pl o who).1 ∧ v'.pl = (doP m.pl o who).2 ∧ Below w.heap.size w w' :=
  (memDo_any (KeepOff X w) (HoldOff.grows X w) w.heap.size m o who w (KeepOff.refl _ _) (Nat.le_refl _) hm ho hwho hd hob hok).mono fun e w' h => by
    obtain ⟨m', v', e1, h1, h2, h3, h4, h5⟩ := h
    exact ⟨m', v', e1, HoldOff.firm h1 hX h5, HoldOff.firm h2 hX h5, h3, h4, h5⟩
end Go.Proofs.YtnplgagaoeckoaaGreat
namespace Go.Proofs.YtnplgagaoeckoaaGreat
open Go.RowKit Go.Lib

set_option maxRecDepth 100000 in
set_option maxHeartbeats 4000000 in
theorem book_same (v u : Value) (l : List Ey) (w : World) (hv : ReadsL eyV 7 w v l) (hu : ReadsL eyV 7 w u l) : Calls Tryz.prog 26 #[v, u] w fun e w' => e = .returned (.bool true) ∧ Below w.heap.size w w' := by
  obtain ⟨hn, a, cap, rfl, ho⟩ := ey_open hv
  obtain ⟨_, a', cap', rfl, ho'⟩ := ey_open hu
  clear hv hu
  rcases Nat.eq_zero_or_pos l.length with h0 | hp
  · rw [h0]
    clear ho ho' h0
    go_enter Tryz.func26, Tryz.ntmps26
    go_wp2_with fail
    refine wp_loop_rounds 1 ?_; rw [rounds_succ]
    go_wp2_with fail
    go_ret
    exact ⟨rfl, Below.refl _ _⟩
  · obtain ⟨b, o, rfl, hc, hlt, hx⟩ := ho hp
    obtain ⟨b', o', rfl, hc', hlt', hx'⟩ := ho' hp
    have HX := Lib.hid hx; have HX' := Lib.hid hx'
    clear ho hx ho' hx'
    go_enter Tryz.func26, Tryz.ntmps26
    go_wp2_with fail
    go_loopw [5] (fun i wr => ∃ (k : Nat), k ≤ l.length ∧ i = .int .i64 k ∧ Below w.heap.size w wr) (fun i _ => l.length - (intOf i).toNat)
    case atStart => exact ⟨0, Nat.zero_le _, rfl, Below.refl _ _⟩
    case round =>
      obtain ⟨k, hk, rfl, hb⟩ := hrel
      by_cases hk2 : k < l.length
      · obtain ⟨p, hp'⟩ : ∃ p, l[k]? = some p := ⟨_, List.getElem?_eq_getElem hk2⟩
        obtain ⟨c0, c1, c2, c3, c4, c5, c6⟩ := (HX.out k p hp').below hb hlt
        obtain ⟨d0, d1, d2, d3, d4, d5, d6⟩ := (HX'.out k p hp').below hb hlt'
        clear hp'
        have q1 : (k : Int) < (l.length : Int) := by omega
        have q2 : (0 : Int) ≤ (k : Int) := by omega
        have qq := fun W => neqEy_self p W
        go_wp2_with fail
        go_quiet (fail)
        go_wp2_with fail
        go_roundw
        case rel => exact ⟨k + 1, by omega, by go_num, below_drewN hb _⟩
        case measure => simp [intOf]; omega
      · obtain rfl : k = l.length := by omega
        go_wp2_with fail
        go_ret
        exact ⟨rfl, hb⟩

theorem tsorted_firm (v : Value) (l : List Pe) (w : World) (h : ReadsL peV 10 w v l) (hl : l.length ≤ 1000000) :
    Calls Tryz.prog 79 #[v] w fun e w' => ∃ r, e = .returned r ∧ (∀ W, (∀ b arr T, w.heap.size ≤ b → BlockIs w' b arr T → BlockIs W b arr T) → ReadsL peV 10 W r (pstL l)) ∧ Below w.heap.size w w' := by
  by_cases hn : l = []
  · subst hn
    refine (sorted_none v w h).mono ?_
    rintro e w' ⟨r, rfl, hr, b⟩
    obtain ⟨_, a, c, e, _⟩ := pes_open hr
    refine ⟨r, rfl, fun W _ => ?_, b⟩
    rw [e]; exact ReadsL.nil _ _ _ _ _
  · refine (sorted_any v l w h hl (srtL_len l) hn).mono ?_
    rintro e w' ⟨r, rfl, o, b⟩
    rw [srtL_is] at o
    have hlen : (pstL l).length = l.length := pstL_len l
    rw [← hlen] at o
    exact ⟨r, rfl, fun W hW => owns_readsL (owns_held o fun g arr hg hh => hW g arr _ hg hh), b⟩
set_option maxRecDepth 100000 in
set_option maxHeartbeats 8000000 in
theorem shJoin_firm (v : Value) (ss : List Sh) (w : World) (h : ReadsSh w v ss) (hs : ∀ s ∈ ss, s.l.length ≤ 1000000) (hl : ∀ k, ((ss.take k).flatMap pesS).length ≤ 1000000) :
    Calls Tryz.prog 57 #[v] w fun e w' => ∃ r, e = .returned r ∧ (∀ W, (∀ b arr T, w.heap.size ≤ b → BlockIs w' b arr T → BlockIs W b arr T) → ReadsL peV 10 W r (pstL (ss.flatMap pesS))) ∧ Below w.heap.size w w' := by
  obtain ⟨hm, a0, c, rfl, h3⟩ := shs_open h.1
  have HV := Lib.hid h; have HL := Lib.hid hl
  clear h hl
  go_enter Tryz.func57, Tryz.ntmps57
  go_wp2_with fail
  go_loopw [3, 8] (fun u' i' wr => ∃ k : Nat, k ≤ ss.length ∧ i' = .int .i64 k ∧ Hid (wr.ownsRow w.heap.size 52 10 u' ((ss.take k).flatMap pesS).length (((ss.take k).flatMap pesS).flatMap peV)) ∧ Hid (Below w.heap.size w wr)) (fun _ i' _ => ss.length - (intOf i').toNat)
  case atStart => exact ⟨0, by omega, rfl, World.ownsRow_nil _ _ _ _, Below.refl _ _⟩
  case round =>
    obtain ⟨k, hk, rfl, HU, HB⟩ := hrel
    by_cases hlt : k < ss.length
    · obtain ⟨⟨z, y, m⟩, hx⟩ : ∃ x, ss[k]? = some x := ⟨_, List.getElem?_eq_getElem hlt⟩
      obtain ⟨b, o, rfl, h4, h5, h6⟩ := h3 (by omega)
      obtain ⟨c0, c1⟩ := h6 k _ hx
      have k0 := keep HB.out h5 c0; have k1 := keep HB.out h5 c1
      have hmem := List.mem_of_getElem? hx
      have hrd := HV.out.2 _ hmem
      have hml := hs _ hmem
      simp only at k0 k1 hrd hml
      have q1 : (0 : Int) ≤ (k : Int) := by omega
      have q2 : (k : Int) < (ss.length : Int) := by omega
      have hS : (ss.take (k + 1)).flatMap pesS = (ss.take k).flatMap pesS ++ m.take z.toNat := by rw [List.take_add_one, hx, Option.toList_some, List.flatMap_append]; simp [pesS]
      have hll := HL.out (k + 1)
      rw [hS, List.length_append] at hll
      have HS := Lib.hid hS
      have hb0 : Below w.heap.size w (wr.alloc (.cells #[.int .i64 z, y] 112)) := HB.out.alloc HB.out.size _
      have hP := fun W (hW : Below w.heap.size w W) => shPeers_any z y m W (ReadsL.below hrd hW) hml
      generalize m.take z.toNat = q at hP HS hll
      have HP := Lib.hid hP
      obtain ⟨hmm, pm, cm, rfl, -⟩ := pes_open hrd
      clear hx h6 h3 c0 c1 hmem hrd hS hs hP
      have HA := Lib.hid hb0
      clear hb0
      go_wp2_with (first
        | (go_at_call 78; (with_reducible refine (HP.out _ HA.out).mono ?_); rintro e w6 ⟨r6, rfl, rd6, b6⟩; obtain ⟨hm6, p6, c6, rfl, -⟩ := pes_open rd6; have HB6 : Hid (Below wr.heap.size wr w6) := ((Below.refl wr.heap.size wr).alloc (Nat.le_refl _) _).trans (b6.mono (by simp)))
        | (at_builtin; refine list_app_reads peRow rfl (.tmp 12) (.tmp 14) rfl w.heap.size _ ((ss.take k).flatMap pesS).length (((ss.take k).flatMap pesS).flatMap peV) rfl (owns_below HU.out HB6.out) _ q.length (q.flatMap peV) rfl rd6 (peV_ones _) (by omega) (by omega) (Nat.le_trans HB.out.size HB6.out.size) w.heap.size w6 (Below.refl _ _) (Nat.le_refl _) ?_; intro v7 w7 o7 b7; rw [← List.length_append, ← List.flatMap_append, ← HS.out] at o7))
      go_roundw
      case rel => exact ⟨k + 1, by omega, by go_num, o7, (HB.out.trans (HB6.out.mono HB.out.size)).trans b7⟩
      case measure => simp [intOf]; omega
    · obtain rfl : k = ss.length := by omega
      have hTk : ss.take ss.length = ss := List.take_length
      have hll := HL.out ss.length
      rw [hTk] at HU hll
      obtain ⟨AL, hAL⟩ : ∃ AL, AL = ss.flatMap pesS := ⟨_, rfl⟩
      rw [← hAL] at HU hll
      have HAL := Lib.hid hAL
      have HSo := Lib.hid (tsorted_firm _ _ wr (owns_readsL HU.out) hll)
      clear hTk h3 hs hAL
      obtain ⟨g, cc, rfl⟩ := owns_slice HU.out
      go_wp2_with (go_at_call 79; (with_reducible refine HSo.out.mono ?_); rintro e w6 ⟨r6, rfl, rd6, b6⟩)
      go_ret
      exact ⟨_, rfl, fun W hW => (by rw [← HAL.out]; exact rd6 W fun b arr T hb hh => hW b arr T (Nat.le_trans HB.out.size hb) hh), below2 HB.out b6⟩
set_option maxRecDepth 100000 in
set_option maxHeartbeats 8000000 in
theorem memState_any (m : Mm) (w : World) (h : MmAt w m) (hb : m.bans.2.length ≤ 1000) (hk : m.book.2.length ≤ 1000) (hs : ∀ s ∈ m.parts.2, s.l.length ≤ 1000000) (hl : ∀ k, ((m.parts.2.take k).flatMap pesS).length ≤ 1000000) :
    Calls Tryz.prog 21 #[.agg #[.int .i64 m.inn, .int .i64 m.out, m.bans.1, m.book.1, m.parts.1, m.locks.1]] w fun e w' => ∃ (a b d : Option Addr) (c1 c2 c3 : Nat), e = .returned (.agg #[.slice a m.bans.2.length c1, .slice b m.book.2.length c2, .slice d (pstL (m.parts.2.flatMap pesS)).length c3]) ∧ ReadsL baV 5 w' (.slice a m.bans.2.length c1) m.bans.2 ∧ ReadsL eyV 7 w' (.slice b m.book.2.length c2) m.book.2 ∧ ReadsL peV 10 w' (.slice d (pstL (m.parts.2.flatMap pesS)).length c3) (pstL (m.parts.2.flatMap pesS)) ∧ Below w.heap.size w w' := by
  have HCB := Lib.hid (fun (W : World) (hB : Below w.heap.size w W) => cloneBn m.bans.1 m.bans.2.length (m.bans.2.flatMap baV) W (ReadsL.below h.1 hB) (baV_onesM _) (by omega))
  have HCK := Lib.hid (fun (W : World) (hB : Below w.heap.size w W) => cloneEy m.book.1 m.book.2.length (m.book.2.flatMap eyV) W (ReadsL.below h.2.1 hB) (eyV_ones _) (by omega))
  have HJO := Lib.hid (fun (W : World) (hB : Below w.heap.size w W) => shJoin_firm m.parts.1 m.parts.2 W (h.2.2.1.below hB) hs hl)
  obtain ⟨a1, a2, a3, a4, c1, c2, c3, c4, e1, e2, e3, e4⟩ := mm_slices h
  simp only [e1, e2, e3, e4] at HCB HCK HJO ⊢
  clear e1 e2 e3 e4 h hb hk hs hl
  go_enter Tryz.func21, Tryz.ntmps21
  go_upto_region 1 with fail
  obtain ⟨W3, hW3⟩ : ∃ W3, W3 = (w.alloc (.cells #[.int .i64 m.inn, .int .i64 m.out, .slice a1 m.bans.2.length c1, .slice a2 m.book.2.length c2, .slice a3 m.parts.2.length c3, .slice a4 m.locks.2.length c4] 40)).alloc (.cells #[.slice none 0 0, .slice none 0 0, .slice none 0 0] 31) := ⟨_, rfl⟩
  rw [← hW3]
  have B3 : Below w.heap.size w W3 := by subst hW3; exact bel
  have hBm : BlockIs W3 w.heap.size [.int .i64 m.inn, .int .i64 m.out, .slice a1 m.bans.2.length c1, .slice a2 m.book.2.length c2, .slice a3 m.parts.2.length c3, .slice a4 m.locks.2.length c4] 40 := by subst hW3; exact (BlockIs.new w [.int .i64 m.inn, .int .i64 m.out, .slice a1 m.bans.2.length c1, .slice a2 m.book.2.length c2, .slice a3 m.parts.2.length c3, .slice a4 m.locks.2.length c4] _).alloc' _
  have hBr : BlockIs W3 (w.heap.size + 1) [.slice none 0 0, .slice none 0 0, .slice none 0 0] 31 := by subst hW3; exact BlockIs.newAt' _ [.slice none 0 0, .slice none 0 0, .slice none 0 0] _ (by simp)
  clear hW3
  have s2 := hBm.cell (i := 2) rfl; have s3 := hBm.cell (i := 3) rfl; have s4 := hBm.cell (i := 4) rfl
  refine wp_region_noPanic ?_
  have hS0 : (fun wq => wq.cell? ⟨w.heap.size, 2, none⟩ = some (.slice a1 m.bans.2.length c1) ∧ wq.cell? ⟨w.heap.size, 3, none⟩ = some (.slice a2 m.book.2.length c2) ∧ wq.cell? ⟨w.heap.size, 4, none⟩ = some (.slice a3 m.parts.2.length c3)) W3.drew := ⟨s2, s3, s4⟩
  refine wp_region_headH (fun wq => wq.cell? ⟨w.heap.size, 2, none⟩ = some (.slice a1 m.bans.2.length c1) ∧ wq.cell? ⟨w.heap.size, 3, none⟩ = some (.slice a2 m.book.2.length c2) ∧ wq.cell? ⟨w.heap.size, 4, none⟩ = some (.slice a3 m.parts.2.length c3)) 10 (by kernel_rfl) (by kernel_rfl) ?_

  refine headH_take (i := 0) (v := ?qv0x1) (by kernel_rfl) rfl rfl (by kernel_rfl) (by kernel_rfl) (by kernel_rfl) (fun _ _ _ h => h) (Or.inl ⟨by rfl, ?qy0x1⟩) (by assumption) ?qr0x1
  case qy0x1 =>
    intro wq hSw
    try dsimp only at hSw
    go_simp
    try with_reducible rfl
  try simp only [Act.put, List.setIfInBounds_toArray, List.set_cons_zero, List.set_cons_succ]
  refine headH_take (i := 1) (v := ?qv1x2) (by kernel_rfl) rfl rfl (by kernel_rfl) (by kernel_rfl) (by kernel_rfl) (fun _ _ _ h => h) (Or.inl ⟨by rfl, ?qy1x2⟩) (by assumption) ?qr1x2
  case qy1x2 =>
    intro wq hSw
    try dsimp only at hSw
    go_simp
    try with_reducible rfl
  try simp only [Act.put, List.setIfInBounds_toArray, List.set_cons_zero, List.set_cons_succ]
  refine headH_take (i := 3) (v := ?qv3x3) (by kernel_rfl) rfl rfl (by kernel_rfl) (by kernel_rfl) (by kernel_rfl) (fun _ _ _ h => h) (Or.inl ⟨by rfl, ?qy3x3⟩) (by assumption) ?qr3x3
  case qy3x3 =>
    intro wq hSw
    try dsimp only at hSw
    go_simp
    try with_reducible rfl
  try simp only [Act.put, List.setIfInBounds_toArray, List.set_cons_zero, List.set_cons_succ]
  refine headH_take (i := 4) (v := ?qv4x4) (by kernel_rfl) rfl rfl (by kernel_rfl) (by kernel_rfl) (by kernel_rfl) (fun _ _ _ h => h) (Or.inl ⟨by rfl, ?qy4x4⟩) (by assumption) ?qr4x4
  case qy4x4 =>
    intro wq hSw
    try dsimp only at hSw
    go_simp
    try with_reducible rfl
  try simp only [Act.put, List.setIfInBounds_toArray, List.set_cons_zero, List.set_cons_succ]
  refine headH_take (i := 6) (v := ?qv6x5) (by kernel_rfl) rfl rfl (by kernel_rfl) (by kernel_rfl) (by kernel_rfl) (fun _ _ _ h => h) (Or.inl ⟨by rfl, ?qy6x5⟩) (by assumption) ?qr6x5
  case qy6x5 =>
    intro wq hSw
    try dsimp only at hSw
    go_simp
    try with_reducible rfl
  try simp only [Act.put, List.setIfInBounds_toArray, List.set_cons_zero, List.set_cons_succ]
  refine headH_take (i := 7) (v := ?qv7x6) (by kernel_rfl) rfl rfl (by kernel_rfl) (by kernel_rfl) (by kernel_rfl) (fun _ _ _ h => h) (Or.inl ⟨by rfl, ?qy7x6⟩) (by assumption) ?qr7x6
  case qy7x6 =>
    intro wq hSw
    try dsimp only at hSw
    go_simp
    try with_reducible rfl
  try simp only [Act.put, List.setIfInBounds_toArray, List.set_cons_zero, List.set_cons_succ]
  refine headH_one (i := 2) rfl rfl (by kernel_rfl) (fun K hK => ?_)
  go_simp
  go_at_call 32
  refine (HCB.out _ B3.drew).mono ?_
  rintro e w5 ⟨r5, rfl, own5, b5⟩
  obtain ⟨x5, y5, e5⟩ := owns_slice own5
  subst e5
  have B5 := below2 (w := w) B3.drew b5; have hBm5 := hBm.drew'.below b5; have hBr5 := hBr.drew'.below b5
  have HO5 : Hid (w5.ownsRow (w.heap.size + 1 + 1) 84 5 (.slice x5 m.bans.2.length y5) m.bans.2.length (m.bans.2.flatMap baV)) := owns_base own5 (by have := hBr.lt; simp only [World.size_drew]; omega)
  clear own5
  clear s2 s3 s4
  have s2 := hBm5.cell (i := 2) rfl; have s3 := hBm5.cell (i := 3) rfl; have s4 := hBm5.cell (i := 4) rfl
  refine hK.out _ _ ?_ (fun hS5 => ?_)
  · exact ⟨s2, s3, s4⟩
  clear hK K
  try simp only [Act.put, List.setIfInBounds_toArray, List.set_cons_zero, List.set_cons_succ]
  refine headH_one (i := 5) rfl rfl (by kernel_rfl) (fun K hK => ?_)
  go_simp
  go_at_call 33
  refine (HCK.out _ B5).mono ?_
  rintro e w6 ⟨r6, rfl, own6, b6⟩
  obtain ⟨x6, y6, e6⟩ := owns_slice own6
  subst e6
  have B6 := below2 (w := w) B5 b6; have hBm6 := hBm5.below b6; have hBr6 := hBr5.below b6
  have HO6 : Hid (w6.ownsRow (w.heap.size + 1 + 1) 87 7 (.slice x6 m.book.2.length y6) m.book.2.length (m.book.2.flatMap eyV)) := owns_base own6 (by have := hBr5.lt; omega)
  have HO56 := Lib.hid (owns_below HO5.out b6)
  clear own6
  clear s2 s3 s4
  have s2 := hBm6.cell (i := 2) rfl; have s3 := hBm6.cell (i := 3) rfl; have s4 := hBm6.cell (i := 4) rfl
  refine hK.out _ _ ?_ (fun hS6 => ?_)
  · exact ⟨s2, s3, s4⟩
  clear hK K
  try simp only [Act.put, List.setIfInBounds_toArray, List.set_cons_zero, List.set_cons_succ]
  refine headH_one (i := 8) rfl rfl (by kernel_rfl) (fun K hK => ?_)
  go_simp
  go_at_call 57
  refine (HJO.out _ B6).mono ?_
  rintro e w7 ⟨r7, rfl, rd7, b7⟩
  obtain ⟨_, x7, y7, e7, _⟩ := pes_open (rd7 w7 fun _ _ _ _ h => h)
  subst e7
  have B7 := below2 (w := w) B6 b7; have hBm7 := hBm6.below b7; have hBr7 := hBr6.below b7
  have h6lt := hBr6.lt
  have HO57 := Lib.hid (owns_below HO56.out b7); have HO67 := Lib.hid (owns_below HO6.out b7)
  have HR7 := Lib.hid (fun (W : World) (hW : ∀ b arr T, w.heap.size + 1 + 1 ≤ b → BlockIs w7 b arr T → BlockIs W b arr T) => rd7 W fun b arr T hb hh => hW b arr T (by omega) hh)
  clear rd7
  clear s2 s3 s4
  have s2 := hBm7.cell (i := 2) rfl; have s3 := hBm7.cell (i := 3) rfl; have s4 := hBm7.cell (i := 4) rfl
  refine hK.out _ _ ?_ (fun hS7 => ?_)
  · exact ⟨s2, s3, s4⟩
  clear hK K
  try simp only [Act.put, List.setIfInBounds_toArray, List.set_cons_zero, List.set_cons_succ]
  refine headH_take (i := 9) (v := ?qv9x7) (by kernel_rfl) rfl rfl (by kernel_rfl) (by kernel_rfl) (by kernel_rfl) (fun _ _ _ h => h) (Or.inl ⟨by rfl, ?qy9x7⟩) (by assumption) ?qr9x7
  case qy9x7 =>
    intro wq hSw
    try dsimp only at hSw
    go_simp
    try with_reducible rfl
  try simp only [Act.put, List.setIfInBounds_toArray, List.set_cons_zero, List.set_cons_succ]
  refine headH_done (by kernel_rfl) ?_
  simp only [List.drop_succ_cons, List.drop_zero]
  go_wp2_with (refine list_store_blk rfl 31 _ _ rfl (w.heap.size + 1) _ _ 31 hBr7 rfl rfl (by kernel_rfl) rfl (by simp [Value.oneCell']) w.heap.size w B7 (by omega) ?_; intro w20 hR20 hoth20 hsz20 bw20)
  refine NoPanic.normal ?_
  go_wp2_with fail
  have hmv : ∀ b arr T, w.heap.size + 1 + 1 ≤ b → BlockIs w7 b arr T → BlockIs w20 b arr T := fun b arr T hb hh => hoth20 b arr T (by omega) hh
  have f0 := hR20.cell (i := 0) rfl; have f1 := hR20.cell (i := 1) rfl; have f2 := hR20.cell (i := 2) rfl
  exact bodyPost_ret (v := .agg #[.slice x5 m.bans.2.length y5, .slice x6 m.book.2.length y6, .slice x7 (pstL (m.parts.2.flatMap pesS)).length y7]) (by simp [results, Tryz.results21, go_sem, f0, f1, f2]) rfl ⟨x5, x6, x7, y5, y6, y7, rfl, owns_reads (owns_held HO57.out fun g arr hg hh => hmv g arr _ hg hh), owns_reads (owns_held HO67.out fun g arr hg hh => hmv g arr _ hg hh), HR7.out w20 hmv, bw20⟩
set_option maxRecDepth 100000 in
set_option maxHeartbeats 8000000 in
theorem sameState_any (v1 v2 v3 u1 u2 u3 : Value) (bl : List Ba) (kl : List Ey) (pl : List Pe) (w : World) (h1 : ReadsL baV 5 w v1 bl) (h2 : ReadsL eyV 7 w v2 kl) (h3 : ReadsL peV 10 w v3 pl) (g1 : ReadsL baV 5 w u1 bl) (g2 : ReadsL eyV 7 w u2 kl) (g3 : ReadsL peV 10 w u3 pl) :
    Calls Tryz.prog 20 #[.agg #[v1, v2, v3], .agg #[u1, u2, u3]] w fun e w' => e = .returned (.bool true) ∧ Below w.heap.size w w' := by
  have HB := Lib.hid (fun (W : World) (hB : Below w.heap.size w W) => bans_same v1 u1 bl W (ReadsL.below h1 hB) (ReadsL.below g1 hB))
  have HK := Lib.hid (fun (W : World) (hB : Below w.heap.size w W) => book_same v2 u2 kl W (ReadsL.below h2 hB) (ReadsL.below g2 hB))
  have HP := Lib.hid (fun (W : World) (hB : Below w.heap.size w W) => peers_same v3 u3 pl W (ReadsL.below h3 hB) (ReadsL.below g3 hB))
  obtain ⟨_, a1, c1, rfl, _⟩ := ba_open h1
  obtain ⟨_, a2, c2, rfl, _⟩ := ey_open h2
  obtain ⟨_, a3, c3, rfl, _⟩ := pes_open h3
  obtain ⟨_, d1, e1, rfl, _⟩ := ba_open g1
  obtain ⟨_, d2, e2, rfl, _⟩ := ey_open g2
  obtain ⟨_, d3, e3, rfl, _⟩ := pes_open g3
  clear h1 h2 h3 g1 g2 g3
  generalize bl.length = n1 at *; generalize kl.length = n2 at *; generalize pl.length = n3 at *
  go_enter Tryz.func20, Tryz.ntmps20
  go_upto_region 1 with fail
  obtain ⟨W3, hW3⟩ : ∃ W3, W3 = (w.alloc (.cells #[.slice a1 n1 c1, .slice a2 n2 c2, .slice a3 n3 c3] 31)).alloc (.cells #[.slice d1 n1 e1, .slice d2 n2 e2, .slice d3 n3 e3] 31) := ⟨_, rfl⟩
  rw [← hW3]
  have B3 : Below w.heap.size w W3 := by subst hW3; exact bel
  have hX : BlockIs W3 w.heap.size [.slice a1 n1 c1, .slice a2 n2 c2, .slice a3 n3 c3] 31 := by subst hW3; exact (BlockIs.new w _ _).alloc' _
  have hY : BlockIs W3 (w.heap.size + 1) [.slice d1 n1 e1, .slice d2 n2 e2, .slice d3 n3 e3] 31 := by subst hW3; exact BlockIs.newAt' _ _ _ (by simp)
  clear hW3
  have x0 := hX.cell (i := 0) rfl; have y0 := hY.cell (i := 0) rfl
  go_wp2_with (first
    | (go_at_call 25; (with_reducible refine (HB.out _ B3).mono ?_); rintro e w4 ⟨rfl, b4⟩; have B4 := below2 B3 b4; have hX4 := hX.below b4; have hY4 := hY.below b4; have x1 := hX4.cell (i := 1) rfl; have y1 := hY4.cell (i := 1) rfl)
    | (go_at_call 26; (with_reducible refine (HK.out _ B4).mono ?_); rintro e w5 ⟨rfl, b5⟩; have B5 := below2 B4 b5; have hX5 := hX4.below b5; have hY5 := hY4.below b5; have x2 := hX5.cell (i := 2) rfl; have y2 := hY5.cell (i := 2) rfl)
    | (go_at_call 56; (with_reducible refine (HP.out _ B5).mono ?_); rintro e w6 ⟨rfl, b6⟩; have B6 := below2 B5 b6))
  go_ret
  exact ⟨rfl, B6⟩
end Go.Proofs.YtnplgagaoeckoaaGreat
namespace Go.Proofs.YtnplgagaoeckoaaGreat
open Go.RowKit Go.Lib

structure Ac where
  who : Int
  op : Oq
def acV (a : Ac) : List Value := .int .i64 a.who :: [.int .i64 a.op.kind, .int .i64 a.op.lock, .int .i64 a.op.lk, .int .i64 a.op.ls, .int .i64 a.op.lt, .int .i64 a.op.old, .int .i64 a.op.new, .int .i64 a.op.vn, .bool a.op.pe.en.ad.v6, .int .u64 a.op.pe.en.ad.hi, .int .u64 a.op.pe.en.ad.lo, .int .i64 a.op.pe.en.port, .bool a.op.pe.came, .int .i64 a.op.pe.since, .int .i64 a.op.pe.pts, .int .i64 a.op.pe.at_, .int .i64 a.op.pe.ping, .int .i64 a.op.pe.work, a.op.bans.1, a.op.book.1, .bool a.op.mark]
def ReadsAc (w : World) (v : Value) (l : List Ac) : Prop := ReadsL acV 22 w v l ∧ ∀ a ∈ l, OqAt w a.op
theorem ReadsAc.below {w w' : World} {v : Value} {l : List Ac} (h : ReadsAc w v l) (hb : Below w.heap.size w w') : ReadsAc w' v l := ⟨ReadsL.below h.1 hb, fun a ha => (h.2 a ha).below hb⟩
/-- an act's cells -/
def AcIn (w : World) (b o : Nat) (a : Ac) : Prop := ∀ (j : Nat) (u : Value), (acV a)[j]? = some u → w.cell? ⟨b, o + j, none⟩ = some u
theorem AcIn.below {w w' : World} {b o : Nat} {a : Ac} (h : AcIn w b o a) (hb : Below w.heap.size w w') (hlt : b < w.heap.size) : AcIn w' b o a := fun j u hj => keep hb hlt (h j u hj)
end Go.Proofs.YtnplgagaoeckoaaGreat
