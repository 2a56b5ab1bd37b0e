/- Texts put together: New. No condition. -/
import Derived.Test.YtnplgagaoeckoaaRcqzkgexowi
import Derived.Test.YtnplgagaoeckoaaRlvcehnluwl
import Derived.Test.YtnplgagaoeckoaaRokbwlymucc
import Derived.Test.YtnplgagaoeckoaaRwioubrlxuu
import Derived.Test.YtnplgagaoeckoaaRhlgcrpufkt
namespace Go.Proofs.Ytnplgagaoeckoaa
open Go.RowKit

def newP (secret : Nat) (sh : Int) (bl : List Ba) (kl : List Ey) (pl : List Pe) : Pm := ⟨cntL true pl, (cntL false pl : Int) + (cntE 2 kl : Int), bl, kl, (List.range (partsN sh)).map (fun i => (((partL pl secret sh i).length : Int), partL pl secret sh i)), List.replicate (partsN sh + 2) (0, [])⟩
def zLk : Lk := zeroLk
theorem run_make_lk (m : Nat) (h : m ≤ 1000) (W : World) : (Instr.makeSlice 34 (.int .i64 (m : Nat)) (.int .i64 (m : Nat))).run Try.prog W = .ok (.slice (some ⟨W.heap.size, 0, none⟩) m m) (W.alloc (.cells ((List.replicate m zLk).flatMap lkV).toArray 63)) := by
  obtain ⟨i, hi, hz0, hz1, hz2⟩ := info_parts (show (Try.prog.info? 63).map (fun i => (i.zero, i.size, i.bytes)) = some (some (.agg #[.int .i64 0, .slice none 0 0]), 2, 32) by kernel_rfl)
  have := run_make (P := Try.prog) W 34 63 i (.agg #[.int .i64 0, .slice none 0 0]) Try.underlying34 hi hz0 .i64 .i64 m m (by omega) (by omega) (by rw [hz2]; omega) (by omega)
  have e1 : ((m : Nat) : Int).toNat = m := by omega
  have e2 : madeCells (Value.agg #[.int .i64 0, .slice none 0 0]).cells (m * 2) = ((List.replicate m zLk).flatMap lkV).toArray := by
    rw [made_pair _ _ (by simp [Value.cells]) (by simp [Value.cells]), List.flatMap_replicate]; rfl
  rw [this, e1, hz1, e2]
theorem parts_pl {ss : List Sh} {pl : List Pe} {s : Nat} {n : Int} (h : PartsOf ss pl s n) : ss.map (fun s => (s.size, s.l)) = (List.range (partsN n)).map (fun i => (((partL pl s n i).length : Int), partL pl s n i)) := by
  apply List.ext_getElem?
  intro i
  rw [List.getElem?_map, List.getElem?_map]
  by_cases hi : i < ss.length
  · have hx := List.getElem?_eq_getElem hi
    rw [hx, List.getElem?_range (by rw [← h.1]; exact hi)]
    simp only [Option.map_some]
    obtain ⟨e1, e2⟩ := h.2 i _ hx
    rw [e1, e2]
  · rw [List.getElem?_eq_none (by omega), List.getElem?_eq_none (by rw [List.length_range, ← h.1]; omega)]; rfl
theorem lks_made {W : World} {g M : Nat} (h : BlockIs W g ((List.replicate M zLk).flatMap lkV) 63) (hM : M ≤ 1000) (h0 : 0 < M) : ReadsLk W (.slice (some ⟨g, 0, none⟩) M M) (List.replicate M zLk) := by
  refine ⟨?_, fun k hk => by rw [List.eq_of_mem_replicate hk]; exact ReadsL.nil _ _ _ _ _⟩
  have hl : ((List.replicate M zLk).flatMap lkV).length = M * 2 := by
    rw [List.length_flatMap]; simp [lkV]
  have h2 : (List.replicate M zLk).length = M := List.length_replicate
  have := reads_blkC (n := 2) h (by omega) (by omega) (by rw [hl, h2])
  rwa [h2] at this

set_option maxRecDepth 100000 in
set_option maxHeartbeats 16000000 in
theorem memNew_any (c : Cf) (hs : c.secret < 18446744073709551616) (vb vk vp : Value) (bl : List Ba) (kl : List Ey) (pl : List Pe) (w : World) (hb : ReadsL baV 5 w vb bl) (hk : ReadsL eyV 7 w vk kl) (hp : ReadsL peV 10 w vp pl) (hf : ∀ p ∈ pl, p.en.ad.fits) (hbn : bl.length ≤ 1000) (hkn : kl.length ≤ 1000) (hpn : pl.length ≤ 1000000) :
    Calls Try.prog 7 #[.agg #[.int .i64 c.mi, .int .i64 c.mo, .int .i64 c.sh, .int .i64 c.mb, .int .i64 c.mbk, .int .u64 c.secret, .int .i64 c.qg, .int .i64 c.qp, .int .i64 c.qw, .int .i64 c.qt, .int .i64 c.half, .int .i64 c.limit, .int .i64 c.banfor, .int .i64 c.base, .int .i64 c.cap, .int .i64 c.jitter], .agg #[vb, vk, vp]] w fun e w' => ∃ m : Mm, e = .returned (.agg #[.int .i64 m.inn, .int .i64 m.out, m.bans.1, m.book.1, m.parts.1, m.locks.1]) ∧ (∀ W, (∀ b arr T, w.heap.size ≤ b → BlockIs w' b arr T → BlockIs W b arr T) → MmAt W m) ∧ m.pl = newP c.secret c.sh bl kl pl ∧ Below w.heap.size w w' := by
  have HSP := Lib.hid (fun (W : World) (hB : Below w.heap.size w W) => shSplit_firm vp pl c.secret hs c.sh W (ReadsL.below hp hB) hf hpn)
  have HCT := Lib.hid (fun (W : World) (hB : Below w.heap.size w W) => tcount_true vp pl W (ReadsL.below hp hB))
  have HCF := Lib.hid (fun (W : World) (hB : Below w.heap.size w W) => tcount_false vp pl W (ReadsL.below hp hB))
  have HCE := Lib.hid (fun (W : World) (hB : Below w.heap.size w W) => bookCount_any vk kl 2 W (ReadsL.below hk hB))
  have HCB := Lib.hid (fun (W : World) (hB : Below w.heap.size w W) => cloneBn vb bl.length (bl.flatMap baV) W (ReadsL.below hb hB) (baV_onesM _) (by omega))
  have HCK := Lib.hid (fun (W : World) (hB : Below w.heap.size w W) => cloneEy vk kl.length (kl.flatMap eyV) W (ReadsL.below hk hB) (eyV_ones _) (by omega))
  obtain ⟨_, a1, c1, e1, _⟩ := ba_open hb
  obtain ⟨_, a2, c2, e2, _⟩ := ey_open hk
  obtain ⟨_, a3, c3, e3, _⟩ := pes_open hp
  subst e1 e2 e3
  have hmi := partsN_in c.sh
  have hml : ∀ W, (Instr.makeSlice 34 (.int .i64 ((partsN c.sh : Int) + 2)) (.int .i64 ((partsN c.sh : Int) + 2))).run Try.prog W = .ok (.slice (some ⟨W.heap.size, 0, none⟩) (partsN c.sh + 2) (partsN c.sh + 2)) (W.alloc (.cells ((List.replicate (partsN c.sh + 2) zLk).flatMap lkV).toArray 63)) := fun W => by
    have := run_make_lk (partsN c.sh + 2) (by omega) W
    rwa [show ((partsN c.sh + 2 : Nat) : Int) = (partsN c.sh : Int) + 2 by omega] at this
  obtain ⟨M, hM⟩ : ∃ M, M = partsN c.sh := ⟨_, rfl⟩
  have hcw : IntKind.i64.wrap ((cntL false pl : Int) + (cntE 2 kl : Int)) = (cntL false pl : Int) + (cntE 2 kl : Int) := by
    have h1 := cntL_le false pl; have h2 := cntE_le 2 kl
    rw [IntKind.wrap_i64]; omega
  have HEND := Lib.hid (fun (a4 : Option Addr) (c4 : Nat) (ss : List Sh) (hPO : PartsOf ss pl c.secret c.sh) (a5 a6 : Option Addr) (c5 c6 : Nat) => True.intro)
  obtain ⟨n1, hn1⟩ : ∃ n, n = bl.length := ⟨_, rfl⟩
  obtain ⟨n2, hn2⟩ : ∃ n, n = kl.length := ⟨_, rfl⟩
  obtain ⟨n3, hn3⟩ : ∃ n, n = pl.length := ⟨_, rfl⟩
  simp only [← hn1, ← hn2, ← hn3] at HSP HCT HCF HCE HCB HCK ⊢
  rw [← hM] at hml hmi
  have hlen : IntKind.i64.wrap ((M : Int) + 2) = (M : Int) + 2 := by rw [IntKind.wrap_i64]; omega
  have HN1 := Lib.hid hn1; have HN2 := Lib.hid hn2; have HN3 := Lib.hid hn3; have HMM := Lib.hid hM
  clear hn1 hn2 hn3 hM hb hk hp hf hbn hkn hpn HEND hs
  go_enter Try.func7, Try.ntmps7
  go_upto_region 1 with fail
  obtain ⟨W3, hW3⟩ : ∃ W3, W3 = ((w.alloc (.cells #[.int .i64 c.mi, .int .i64 c.mo, .int .i64 c.sh, .int .i64 c.mb, .int .i64 c.mbk, .int .u64 c.secret, .int .i64 c.qg, .int .i64 c.qp, .int .i64 c.qw, .int .i64 c.qt, .int .i64 c.half, .int .i64 c.limit, .int .i64 c.banfor, .int .i64 c.base, .int .i64 c.cap, .int .i64 c.jitter] 26)).alloc (.cells #[.slice a1 n1 c1, .slice a2 n2 c2, .slice a3 n3 c3] 40)).alloc (.cells #[.int .i64 0, .int .i64 0, .slice none 0 0, .slice none 0 0, .slice none 0 0, .slice none 0 0] 36) := ⟨_, rfl⟩
  rw [← hW3]
  have B3 : Below w.heap.size w W3 := by subst hW3; (repeat (first | with_reducible assumption | with_reducible exact Below.refl _ _ | with_reducible refine Below.setCell ?_ (by first | omega | (simp; done) | (simp; omega)) _ | with_reducible refine Below.alloc ?_ (by first | omega | (simp; done) | (simp; omega)) _ | with_reducible refine Below.drew ?_ | (with_reducible refine Below.trans ?_ (Below.mono (by with_reducible assumption) (by first | omega | (simp; done) | (simp; omega)))) | (refine Below.trans ?_ (Below.mono (by assumption) (by first | omega | (simp; done) | (simp; omega))))))
  have hBc : BlockIs W3 w.heap.size [.int .i64 c.mi, .int .i64 c.mo, .int .i64 c.sh, .int .i64 c.mb, .int .i64 c.mbk, .int .u64 c.secret, .int .i64 c.qg, .int .i64 c.qp, .int .i64 c.qw, .int .i64 c.qt, .int .i64 c.half, .int .i64 c.limit, .int .i64 c.banfor, .int .i64 c.base, .int .i64 c.cap, .int .i64 c.jitter] 26 := by subst hW3; exact ((BlockIs.new w [.int .i64 c.mi, .int .i64 c.mo, .int .i64 c.sh, .int .i64 c.mb, .int .i64 c.mbk, .int .u64 c.secret, .int .i64 c.qg, .int .i64 c.qp, .int .i64 c.qw, .int .i64 c.qt, .int .i64 c.half, .int .i64 c.limit, .int .i64 c.banfor, .int .i64 c.base, .int .i64 c.cap, .int .i64 c.jitter] _).alloc' _).alloc' _
  have hBs : BlockIs W3 (w.heap.size + 1) [.slice a1 n1 c1, .slice a2 n2 c2, .slice a3 n3 c3] 40 := by subst hW3; exact (BlockIs.newAt' _ [.slice a1 n1 c1, .slice a2 n2 c2, .slice a3 n3 c3] _ (by simp)).alloc' _
  have hBr : BlockIs W3 (w.heap.size + 1 + 1) [.int .i64 0, .int .i64 0, .slice none 0 0, .slice none 0 0, .slice none 0 0, .slice none 0 0] 36 := by subst hW3; exact BlockIs.newAt' _ [.int .i64 0, .int .i64 0, .slice none 0 0, .slice none 0 0, .slice none 0 0, .slice none 0 0] _ (by simp)
  have hs3 : W3.heap.size = w.heap.size + 1 + 1 + 1 := by subst hW3; simp
  clear hW3
  have k2 := hBc.cell (i := 2) rfl; have k5 := hBc.cell (i := 5) rfl
  have s0 := hBs.cell (i := 0) rfl; have s1 := hBs.cell (i := 1) rfl; have s2 := hBs.cell (i := 2) rfl; have r0 := hBr.cell (i := 0) rfl; have r1 := hBr.cell (i := 1) rfl; have r2 := hBr.cell (i := 2) rfl; have r3 := hBr.cell (i := 3) rfl; have r4 := hBr.cell (i := 4) rfl; have r5 := hBr.cell (i := 5) rfl; have rf := hBr.frozen; have rl := hBr.lt
  go_upto_region 2 with (go_at_call 13; (with_reducible refine (HSP.out _ B3).mono ?_); rintro e w4 ⟨r4, ss, rfl, hS4, hPO, b4⟩)
  have B4 := below2 (w := w) B3 b4; have hBs4 := hBs.below b4; have hBr4 := hBr.below b4
  have HS4 := Lib.hid (fun (W : World) (hk : ∀ b arr T, w.heap.size + 1 + 1 + 1 ≤ b → BlockIs w4 b arr T → BlockIs W b arr T) => hS4 W fun b arr T h1 h2 => hk b arr T (by omega) h2)
  obtain ⟨_, a4, c4, e4, _⟩ := shs_open (hS4 w4 fun _ _ _ _ h => h).1
  have hMs : M = ss.length := by rw [hPO.1]; exact HMM.out
  rw [← hMs] at e4
  subst e4
  have HMS := Lib.hid hMs; have HPO := Lib.hid hPO
  have HEND : Hid (∀ (a5 : Option Addr) (c5 : Nat) (a6 : Option Addr) (c6 G : Nat) (wx w20 : World), (∀ k arr u, k ≠ w.heap.size + 1 + 1 → BlockIs wx k arr u → BlockIs w20 k arr u) → Below w.heap.size w w20 → w.heap.size + 1 + 1 + 1 ≤ G → Hid (wx.ownsRow (w.heap.size + 1 + 1 + 1) 74 5 (.slice a5 n1 c5) n1 (bl.flatMap baV)) → Hid (wx.ownsRow (w.heap.size + 1 + 1 + 1) 77 7 (.slice a6 n2 c6) n2 (kl.flatMap eyV)) → Hid (∀ W, (∀ b arr T, w.heap.size + 1 + 1 + 1 ≤ b → BlockIs wx b arr T → BlockIs W b arr T) → ReadsSh W (.slice a4 M c4) ss) → BlockIs wx G ((List.replicate (M + 2) zLk).flatMap lkV) 63 →
      ∃ m : Mm, Ending.returned (.agg #[.int .i64 (cntL true pl), .int .i64 ((cntL false pl : Int) + (cntE 2 kl : Int)), .slice a5 n1 c5, .slice a6 n2 c6, .slice a4 M c4, .slice (some ⟨G, 0, none⟩) (M + 2) (M + 2)]) = .returned (.agg #[.int .i64 m.inn, .int .i64 m.out, m.bans.1, m.book.1, m.parts.1, m.locks.1]) ∧ (∀ W, (∀ b arr T, w.heap.size ≤ b → BlockIs w20 b arr T → BlockIs W b arr T) → MmAt W m) ∧ m.pl = newP c.secret c.sh bl kl pl ∧ Below w.heap.size w w20) := by
    show ∀ _, _
    intro a5 c5 a6 c6 G wx w20 ho hbw hG h1 h2 h3 h4
    have hmv : ∀ b arr T, w.heap.size + 1 + 1 + 1 ≤ b → BlockIs wx b arr T → BlockIs w20 b arr T := fun b arr T hb hh => ho b arr T (by omega) hh
    refine ⟨⟨cntL true pl, (cntL false pl : Int) + (cntE 2 kl : Int), (.slice a5 n1 c5, bl), (.slice a6 n2 c6, kl), (.slice a4 M c4, ss), (.slice (some ⟨G, 0, none⟩) (M + 2) (M + 2), List.replicate (M + 2) zLk)⟩, rfl, fun W hW => ?_, ?_, hbw⟩
    · have hmW : ∀ b arr T, w.heap.size + 1 + 1 + 1 ≤ b → BlockIs wx b arr T → BlockIs W b arr T := fun b arr T hb hh => hW b arr T (by omega) (hmv b arr T hb hh)
      refine ⟨?_, ?_, h3.out W hmW, lks_made (hmW _ _ _ hG h4) (by omega) (by omega)⟩
      · unfold ReadsL; dsimp only; rw [← HN1.out]; exact owns_reads (owns_held h1.out fun g arr hg hb => hmW g arr _ hg hb)
      · unfold ReadsL; dsimp only; rw [← HN2.out]; exact owns_reads (owns_held h2.out fun g arr hg hb => hmW g arr _ hg hb)
    · unfold Mm.pl newP
      simp only [parts_pl HPO.out, HMM.out, List.map_replicate]
      rfl
  clear b4 hPO hMs hBc hBs hBr k2 k5 hS4 s0 s1 s2 r0 r1 r2 r3 r4 r5 rf rl
  have s0 := hBs4.cell (i := 0) rfl; have s1 := hBs4.cell (i := 1) rfl; have s2 := hBs4.cell (i := 2) rfl
  refine wp_region_noPanic ?_
  have hS0 : (fun wq => wq.cell? ⟨w.heap.size + 1, 0, none⟩ = some (.slice a1 n1 c1) ∧ wq.cell? ⟨w.heap.size + 1, 1, none⟩ = some (.slice a2 n2 c2) ∧ wq.cell? ⟨w.heap.size + 1, 2, none⟩ = some (.slice a3 n3 c3)) w4.drew := by
    dsimp only
    (repeat' apply And.intro) <;> assumption
  refine wp_region_headH (fun wq => wq.cell? ⟨w.heap.size + 1, 0, none⟩ = some (.slice a1 n1 c1) ∧ wq.cell? ⟨w.heap.size + 1, 1, none⟩ = some (.slice a2 n2 c2) ∧ wq.cell? ⟨w.heap.size + 1, 2, none⟩ = some (.slice a3 n3 c3)) 22 (by kernel_rfl) (by kernel_rfl) ?_
  obtain ⟨w5, hw5⟩ : ∃ w5, w5 = w4.drew := ⟨_, rfl⟩
  rw [← hw5] at hS0 ⊢
  have b5 : Below w4.heap.size w4 w5 := by subst hw5; exact Below.drew (Below.refl _ _)
  have B5 := below2 (w := w) B4 b5
  have hBs5 := hBs4.below b5; have hBr5 := hBr4.below b5
  have HS5 := Lib.hid (fun (W : World) (hk : ∀ b arr T, w.heap.size + 1 + 1 + 1 ≤ b → BlockIs w5 b arr T → BlockIs W b arr T) => HS4.out W fun b arr T h1 h2 => hk b arr T h1 (h2.below b5))
  clear hw5 s0 s1 s2
  have s0 := hBs5.cell (i := 0) rfl; have s1 := hBs5.cell (i := 1) rfl; have s2 := hBs5.cell (i := 2) rfl
  refine headH_take (i := 0) (v := ?qv0x1) (by kernel_rfl) rfl rfl (by kernel_rfl) (by kernel_rfl) (by kernel_rfl) (fun _ _ _ h => h) (Or.inl ⟨by rfl, ?qy0x1⟩) (by assumption) ?qr0x1
  case qy0x1 =>
    intro wq hSw
    try dsimp only at hSw
    go_simp
    try with_reducible rfl
  try simp only [Act.put, List.setIfInBounds_toArray, List.set_cons_zero, List.set_cons_succ]
  refine headH_take (i := 1) (v := ?qv1x2) (by kernel_rfl) rfl rfl (by kernel_rfl) (by kernel_rfl) (by kernel_rfl) (fun _ _ _ h => h) (Or.inl ⟨by rfl, ?qy1x2⟩) (by assumption) ?qr1x2
  case qy1x2 =>
    intro wq hSw
    try dsimp only at hSw
    go_simp
    try with_reducible rfl
  try simp only [Act.put, List.setIfInBounds_toArray, List.set_cons_zero, List.set_cons_succ]
  refine headH_take (i := 3) (v := ?qv3x3) (by kernel_rfl) rfl rfl (by kernel_rfl) (by kernel_rfl) (by kernel_rfl) (fun _ _ _ h => h) (Or.inl ⟨by rfl, ?qy3x3⟩) (by assumption) ?qr3x3
  case qy3x3 =>
    intro wq hSw
    try dsimp only at hSw
    go_simp
    try with_reducible rfl
  try simp only [Act.put, List.setIfInBounds_toArray, List.set_cons_zero, List.set_cons_succ]
  refine headH_take (i := 4) (v := ?qv4x4) (by kernel_rfl) rfl rfl (by kernel_rfl) (by kernel_rfl) (by kernel_rfl) (fun _ _ _ h => h) (Or.inl ⟨by rfl, ?qy4x4⟩) (by assumption) ?qr4x4
  case qy4x4 =>
    intro wq hSw
    try dsimp only at hSw
    go_simp
    try with_reducible rfl
  try simp only [Act.put, List.setIfInBounds_toArray, List.set_cons_zero, List.set_cons_succ]
  refine headH_take (i := 6) (v := ?qv6x5) (by kernel_rfl) rfl rfl (by kernel_rfl) (by kernel_rfl) (by kernel_rfl) (fun _ _ _ h => h) (Or.inl ⟨by rfl, ?qy6x5⟩) (by assumption) ?qr6x5
  case qy6x5 =>
    intro wq hSw
    try dsimp only at hSw
    go_simp
    try with_reducible rfl
  try simp only [Act.put, List.setIfInBounds_toArray, List.set_cons_zero, List.set_cons_succ]
  refine headH_take (i := 7) (v := ?qv7x6) (by kernel_rfl) rfl rfl (by kernel_rfl) (by kernel_rfl) (by kernel_rfl) (fun _ _ _ h => h) (Or.inl ⟨by rfl, ?qy7x6⟩) (by assumption) ?qr7x6
  case qy7x6 =>
    intro wq hSw
    try dsimp only at hSw
    go_simp
    try with_reducible rfl
  try simp only [Act.put, List.setIfInBounds_toArray, List.set_cons_zero, List.set_cons_succ]
  refine headH_take (i := 10) (v := ?qv10x7) (by kernel_rfl) rfl rfl (by kernel_rfl) (by kernel_rfl) (by kernel_rfl) (fun _ _ _ h => h) (Or.inl ⟨by rfl, ?qy10x7⟩) (by assumption) ?qr10x7
  case qy10x7 =>
    intro wq hSw
    try dsimp only at hSw
    go_simp
    try with_reducible rfl
  try simp only [Act.put, List.setIfInBounds_toArray, List.set_cons_zero, List.set_cons_succ]
  refine headH_take (i := 11) (v := ?qv11x8) (by kernel_rfl) rfl rfl (by kernel_rfl) (by kernel_rfl) (by kernel_rfl) (fun _ _ _ h => h) (Or.inl ⟨by rfl, ?qy11x8⟩) (by assumption) ?qr11x8
  case qy11x8 =>
    intro wq hSw
    try dsimp only at hSw
    go_simp
    try with_reducible rfl
  try simp only [Act.put, List.setIfInBounds_toArray, List.set_cons_zero, List.set_cons_succ]
  refine headH_take (i := 13) (v := ?qv13x9) (by kernel_rfl) rfl rfl (by kernel_rfl) (by kernel_rfl) (by kernel_rfl) (fun _ _ _ h => h) (Or.inl ⟨by rfl, ?qy13x9⟩) (by assumption) ?qr13x9
  case qy13x9 =>
    intro wq hSw
    try dsimp only at hSw
    go_simp
    try with_reducible rfl
  try simp only [Act.put, List.setIfInBounds_toArray, List.set_cons_zero, List.set_cons_succ]
  refine headH_take (i := 14) (v := ?qv14x10) (by kernel_rfl) rfl rfl (by kernel_rfl) (by kernel_rfl) (by kernel_rfl) (fun _ _ _ h => h) (Or.inl ⟨by rfl, ?qy14x10⟩) (by assumption) ?qr14x10
  case qy14x10 =>
    intro wq hSw
    try dsimp only at hSw
    go_simp
    try with_reducible rfl
  try simp only [Act.put, List.setIfInBounds_toArray, List.set_cons_zero, List.set_cons_succ]
  refine headH_take (i := 16) (v := ?qv16x11) (by kernel_rfl) rfl rfl (by kernel_rfl) (by kernel_rfl) (by kernel_rfl) (fun _ _ _ h => h) (Or.inl ⟨by rfl, ?qy16x11⟩) (by assumption) ?qr16x11
  case qy16x11 =>
    intro wq hSw
    try dsimp only at hSw
    go_simp
    try with_reducible rfl
  try simp only [Act.put, List.setIfInBounds_toArray, List.set_cons_zero, List.set_cons_succ]
  refine headH_take (i := 17) (v := ?qv17x12) (by kernel_rfl) rfl rfl (by kernel_rfl) (by kernel_rfl) (by kernel_rfl) (fun _ _ _ h => h) (Or.inl ⟨by rfl, ?qy17x12⟩) (by assumption) ?qr17x12
  case qy17x12 =>
    intro wq hSw
    try dsimp only at hSw
    go_simp
    try with_reducible rfl
  try simp only [Act.put, List.setIfInBounds_toArray, List.set_cons_zero, List.set_cons_succ]
  refine headH_take (i := 18) (v := ?qv18x13) (by kernel_rfl) rfl rfl (by kernel_rfl) (by kernel_rfl) (by kernel_rfl) (fun _ _ _ h => h) (Or.inl ⟨by rfl, ?qy18x13⟩) (by assumption) ?qr18x13
  case qy18x13 =>
    intro wq hSw
    try dsimp only at hSw
    go_simp
    try with_reducible rfl
  try simp only [Act.put, List.setIfInBounds_toArray, List.set_cons_zero, List.set_cons_succ]
  refine headH_take (i := 19) (v := ?qv19x14) (by kernel_rfl) rfl rfl (by kernel_rfl) (by kernel_rfl) (by kernel_rfl) (fun _ _ _ h => h) (Or.inl ⟨by rfl, ?qy19x14⟩) (by assumption) ?qr19x14
  case qy19x14 =>
    intro wq hSw
    try dsimp only at hSw
    go_simp
    try with_reducible rfl
  try simp only [Act.put, List.setIfInBounds_toArray, List.set_cons_zero, List.set_cons_succ]
  refine headH_two (i := 2) (j := 20) rfl rfl rfl rfl (by kernel_rfl) (fun K hK => ?_) (fun K hK => ?_)
  · go_simp
    go_at_call 14
    refine (HCT.out _ B5).mono ?_
    rintro e w6 ⟨rfl, b6⟩
    have B6 := below2 (w := w) B5 b6
    have hBs6 := hBs5.below b6; have hBr6 := hBr5.below b6
    have HS6 := Lib.hid (fun (W : World) (hk : ∀ b arr T, w.heap.size + 1 + 1 + 1 ≤ b → BlockIs w6 b arr T → BlockIs W b arr T) => HS5.out W fun b arr T h1 h2 => hk b arr T h1 (h2.below b6))
    clear s0 s1 s2
    have s0 := hBs6.cell (i := 0) rfl; have s1 := hBs6.cell (i := 1) rfl; have s2 := hBs6.cell (i := 2) rfl
    refine hK.out _ _ ?_ (fun hS6 => ?_)
    · try dsimp only
      (repeat' apply And.intro) <;> assumption
    clear hK K
    try simp only [Act.put, List.setIfInBounds_toArray, List.set_cons_zero, List.set_cons_succ]
    refine headH_two (i := 5) (j := 20) rfl rfl rfl rfl (by kernel_rfl) (fun K hK => ?_) (fun K hK => ?_)
    · go_simp
      go_at_call 14
      refine (HCF.out _ B6).mono ?_
      rintro e w7 ⟨rfl, b7⟩
      have B7 := below2 (w := w) B6 b7
      have hBs7 := hBs6.below b7; have hBr7 := hBr6.below b7
      have HS7 := Lib.hid (fun (W : World) (hk : ∀ b arr T, w.heap.size + 1 + 1 + 1 ≤ b → BlockIs w7 b arr T → BlockIs W b arr T) => HS6.out W fun b arr T h1 h2 => hk b arr T h1 (h2.below b7))
      clear s0 s1 s2
      have s0 := hBs7.cell (i := 0) rfl; have s1 := hBs7.cell (i := 1) rfl; have s2 := hBs7.cell (i := 2) rfl
      refine hK.out _ _ ?_ (fun hS7 => ?_)
      · try dsimp only
        (repeat' apply And.intro) <;> assumption
      clear hK K
      try simp only [Act.put, List.setIfInBounds_toArray, List.set_cons_zero, List.set_cons_succ]
      refine headH_two (i := 8) (j := 20) rfl rfl rfl rfl (by kernel_rfl) (fun K hK => ?_) (fun K hK => ?_)
      · go_simp
        go_at_call 15
        refine (HCE.out _ B7).mono ?_
        rintro e w8 ⟨rfl, b8⟩
        have B8 := below2 (w := w) B7 b8
        have hBs8 := hBs7.below b8; have hBr8 := hBr7.below b8
        have HS8 := Lib.hid (fun (W : World) (hk : ∀ b arr T, w.heap.size + 1 + 1 + 1 ≤ b → BlockIs w8 b arr T → BlockIs W b arr T) => HS7.out W fun b arr T h1 h2 => hk b arr T h1 (h2.below b8))
        clear s0 s1 s2
        have s0 := hBs8.cell (i := 0) rfl; have s1 := hBs8.cell (i := 1) rfl; have s2 := hBs8.cell (i := 2) rfl
        refine hK.out _ _ ?_ (fun hS8 => ?_)
        · try dsimp only
          (repeat' apply And.intro) <;> assumption
        clear hK K
        try simp only [Act.put, List.setIfInBounds_toArray, List.set_cons_zero, List.set_cons_succ]
        refine headH_take (i := 9) (v := ?qv9x15) (by kernel_rfl) rfl rfl (by kernel_rfl) (by kernel_rfl) (by kernel_rfl) (fun _ _ _ h => h) (Or.inl ⟨by rfl, ?qy9x15⟩) (by assumption) ?qr9x15
        case qy9x15 =>
          intro wq hSw
          try dsimp only at hSw
          go_simp
          try with_reducible rfl
        try simp only [Act.put, List.setIfInBounds_toArray, List.set_cons_zero, List.set_cons_succ]
        refine headH_two (i := 12) (j := 20) rfl rfl rfl rfl (by kernel_rfl) (fun K hK => ?_) (fun K hK => ?_)
        · go_simp
          go_at_call 16
          refine (HCB.out _ B8).mono ?_
          rintro e w9 ⟨r9, rfl, own9, b9⟩
          have B9 := below2 (w := w) B8 b9
          have hBs9 := hBs8.below b9; have hBr9 := hBr8.below b9
          have HS9 := Lib.hid (fun (W : World) (hk : ∀ b arr T, w.heap.size + 1 + 1 + 1 ≤ b → BlockIs w9 b arr T → BlockIs W b arr T) => HS8.out W fun b arr T h1 h2 => hk b arr T h1 (h2.below b9))
          obtain ⟨a5, c5, e9⟩ := owns_slice own9
          subst e9
          have HOb9 := Lib.hid (owns_base own9 (by have := hBr8.lt; omega) : w9.ownsRow (w.heap.size + 1 + 1 + 1) _ _ _ _ _)
          clear s0 s1 s2
          have s0 := hBs9.cell (i := 0) rfl; have s1 := hBs9.cell (i := 1) rfl; have s2 := hBs9.cell (i := 2) rfl
          refine hK.out _ _ ?_ (fun hS9 => ?_)
          · try dsimp only
            (repeat' apply And.intro) <;> assumption
          clear hK K
          try simp only [Act.put, List.setIfInBounds_toArray, List.set_cons_zero, List.set_cons_succ]
          refine headH_two (i := 15) (j := 20) rfl rfl rfl rfl (by kernel_rfl) (fun K hK => ?_) (fun K hK => ?_)
          · go_simp
            go_at_call 17
            refine (HCK.out _ B9).mono ?_
            rintro e w10 ⟨r10, rfl, own10, b10⟩
            have B10 := below2 (w := w) B9 b10
            have hBs10 := hBs9.below b10; have hBr10 := hBr9.below b10
            have HS10 := Lib.hid (fun (W : World) (hk : ∀ b arr T, w.heap.size + 1 + 1 + 1 ≤ b → BlockIs w10 b arr T → BlockIs W b arr T) => HS9.out W fun b arr T h1 h2 => hk b arr T h1 (h2.below b10))
            have HOb10 := Lib.hid (owns_below HOb9.out b10)
            obtain ⟨a6, c6, e10⟩ := owns_slice own10
            subst e10
            have HOk10 := Lib.hid (owns_base own10 (by have := hBr9.lt; omega) : w10.ownsRow (w.heap.size + 1 + 1 + 1) _ _ _ _ _)
            clear s0 s1 s2
            have s0 := hBs10.cell (i := 0) rfl; have s1 := hBs10.cell (i := 1) rfl; have s2 := hBs10.cell (i := 2) rfl
            refine hK.out _ _ ?_ (fun hS10 => ?_)
            · try dsimp only
              (repeat' apply And.intro) <;> assumption
            clear hK K
            try simp only [Act.put, List.setIfInBounds_toArray, List.set_cons_zero, List.set_cons_succ]
            refine headH_one (i := 20) rfl rfl (by kernel_rfl) (fun K hK => ?_)
            go_simp
            refine named_world (K := K) fun w11 hw11 => ?_
            obtain ⟨G11, hG11⟩ : ∃ G, G = w10.heap.size := ⟨_, rfl⟩
            rw [← hG11]
            have b11 : Below w10.heap.size w10 w11 := by subst hw11; exact (Below.refl _ _).alloc (Nat.le_refl _) _
            have hBl11 : BlockIs w11 G11 ((List.replicate (M + 2) zLk).flatMap lkV) 63 := by subst hw11 hG11; exact BlockIs.new w10 _ _
            have gL11 : w.heap.size + 1 + 1 + 1 ≤ G11 := by have := B10.size; have := hBr10.lt; omega
            clear hw11
            have B11 := below2 (w := w) B10 b11
            have hBs11 := hBs10.below b11; have hBr11 := hBr10.below b11
            have HS11 := Lib.hid (fun (W : World) (hk : ∀ b arr T, w.heap.size + 1 + 1 + 1 ≤ b → BlockIs w11 b arr T → BlockIs W b arr T) => HS10.out W fun b arr T h1 h2 => hk b arr T h1 (h2.below b11))
            have HOb11 := Lib.hid (owns_below HOb10.out b11)
            have HOk11 := Lib.hid (owns_below HOk10.out b11)
            clear s0 s1 s2
            have s0 := hBs11.cell (i := 0) rfl; have s1 := hBs11.cell (i := 1) rfl; have s2 := hBs11.cell (i := 2) rfl
            refine hK.out _ _ ?_ (fun hS11 => ?_)
            · try dsimp only
              (repeat' apply And.intro) <;> assumption
            clear hK K
            try simp only [Act.put, List.setIfInBounds_toArray, List.set_cons_zero, List.set_cons_succ]
            refine headH_take (i := 21) (v := ?qv21x16) (by kernel_rfl) rfl rfl (by kernel_rfl) (by kernel_rfl) (by kernel_rfl) (fun _ _ _ h => h) (Or.inl ⟨by rfl, ?qy21x16⟩) (by assumption) ?qr21x16
            case qy21x16 =>
              intro wq hSw
              try dsimp only at hSw
              go_simp
              try with_reducible rfl
            try simp only [Act.put, List.setIfInBounds_toArray, List.set_cons_zero, List.set_cons_succ]
            refine headH_done (by kernel_rfl) ?_
            simp only [List.drop_succ_cons, List.drop_zero]
            go_wp2_with (refine list_store_blk rfl 36 _ _ rfl (w.heap.size + 1 + 1) _ _ 36 hBr11 rfl rfl (by kernel_rfl) rfl (by simp [Value.oneCell']) w.heap.size w B11 (by omega) ?_; intro w20 hR20 hoth20 hsz20 bw20)
            refine NoPanic.normal ?_
            go_wp2_with fail
            have e0 := hR20.cell (i := 0) rfl; have e1 := hR20.cell (i := 1) rfl; have e2 := hR20.cell (i := 2) rfl; have e3 := hR20.cell (i := 3) rfl; have e4 := hR20.cell (i := 4) rfl; have e5 := hR20.cell (i := 5) rfl
            exact bodyPost_ret (v := .agg #[.int .i64 (cntL true pl), .int .i64 ((cntL false pl : Int) + (cntE 2 kl : Int)), .slice a5 n1 c5, .slice a6 n2 c6, .slice a4 M c4, .slice (some ⟨G11, 0, none⟩) (M + 2) (M + 2)]) (by simp [results, Try.results7, go_sem, e0, e1, e2, e3, e4, e5]) rfl (HEND.out _ _ _ _ _ _ _ (hoth20) bw20 gL11 HOb11 HOk11 HS11 hBl11)
          · go_simp
            refine named_world (K := K) fun w10 hw10 => ?_
            obtain ⟨G10, hG10⟩ : ∃ G, G = w9.heap.size := ⟨_, rfl⟩
            rw [← hG10]
            have b10 : Below w9.heap.size w9 w10 := by subst hw10; exact (Below.refl _ _).alloc (Nat.le_refl _) _
            have hBl10 : BlockIs w10 G10 ((List.replicate (M + 2) zLk).flatMap lkV) 63 := by subst hw10 hG10; exact BlockIs.new w9 _ _
            have gL10 : w.heap.size + 1 + 1 + 1 ≤ G10 := by have := B9.size; have := hBr9.lt; omega
            clear hw10
            have B10 := below2 (w := w) B9 b10
            have hBs10 := hBs9.below b10; have hBr10 := hBr9.below b10
            have HS10 := Lib.hid (fun (W : World) (hk : ∀ b arr T, w.heap.size + 1 + 1 + 1 ≤ b → BlockIs w10 b arr T → BlockIs W b arr T) => HS9.out W fun b arr T h1 h2 => hk b arr T h1 (h2.below b10))
            have HOb10 := Lib.hid (owns_below HOb9.out b10)
            clear s0 s1 s2
            have s0 := hBs10.cell (i := 0) rfl; have s1 := hBs10.cell (i := 1) rfl; have s2 := hBs10.cell (i := 2) rfl
            refine hK.out _ _ ?_ (fun hS10 => ?_)
            · try dsimp only
              (repeat' apply And.intro) <;> assumption
            clear hK K
            try simp only [Act.put, List.setIfInBounds_toArray, List.set_cons_zero, List.set_cons_succ]
            refine headH_one (i := 15) rfl rfl (by kernel_rfl) (fun K hK => ?_)
            go_simp
            go_at_call 17
            refine (HCK.out _ B10).mono ?_
            rintro e w11 ⟨r11, rfl, own11, b11⟩
            have B11 := below2 (w := w) B10 b11
            have hBs11 := hBs10.below b11; have hBr11 := hBr10.below b11
            have HS11 := Lib.hid (fun (W : World) (hk : ∀ b arr T, w.heap.size + 1 + 1 + 1 ≤ b → BlockIs w11 b arr T → BlockIs W b arr T) => HS10.out W fun b arr T h1 h2 => hk b arr T h1 (h2.below b11))
            have HOb11 := Lib.hid (owns_below HOb10.out b11)
            have hBl11 := hBl10.below b11; have gL11 := gL10
            obtain ⟨a6, c6, e11⟩ := owns_slice own11
            subst e11
            have HOk11 := Lib.hid (owns_base own11 (by have := hBr10.lt; omega) : w11.ownsRow (w.heap.size + 1 + 1 + 1) _ _ _ _ _)
            clear s0 s1 s2
            have s0 := hBs11.cell (i := 0) rfl; have s1 := hBs11.cell (i := 1) rfl; have s2 := hBs11.cell (i := 2) rfl
            refine hK.out _ _ ?_ (fun hS11 => ?_)
            · try dsimp only
              (repeat' apply And.intro) <;> assumption
            clear hK K
            try simp only [Act.put, List.setIfInBounds_toArray, List.set_cons_zero, List.set_cons_succ]
            refine headH_take (i := 21) (v := ?qv21x17) (by kernel_rfl) rfl rfl (by kernel_rfl) (by kernel_rfl) (by kernel_rfl) (fun _ _ _ h => h) (Or.inl ⟨by rfl, ?qy21x17⟩) (by assumption) ?qr21x17
            case qy21x17 =>
              intro wq hSw
              try dsimp only at hSw
              go_simp
              try with_reducible rfl
            try simp only [Act.put, List.setIfInBounds_toArray, List.set_cons_zero, List.set_cons_succ]
            refine headH_done (by kernel_rfl) ?_
            simp only [List.drop_succ_cons, List.drop_zero]
            go_wp2_with (refine list_store_blk rfl 36 _ _ rfl (w.heap.size + 1 + 1) _ _ 36 hBr11 rfl rfl (by kernel_rfl) rfl (by simp [Value.oneCell']) w.heap.size w B11 (by omega) ?_; intro w20 hR20 hoth20 hsz20 bw20)
            refine NoPanic.normal ?_
            go_wp2_with fail
            have e0 := hR20.cell (i := 0) rfl; have e1 := hR20.cell (i := 1) rfl; have e2 := hR20.cell (i := 2) rfl; have e3 := hR20.cell (i := 3) rfl; have e4 := hR20.cell (i := 4) rfl; have e5 := hR20.cell (i := 5) rfl
            exact bodyPost_ret (v := .agg #[.int .i64 (cntL true pl), .int .i64 ((cntL false pl : Int) + (cntE 2 kl : Int)), .slice a5 n1 c5, .slice a6 n2 c6, .slice a4 M c4, .slice (some ⟨G10, 0, none⟩) (M + 2) (M + 2)]) (by simp [results, Try.results7, go_sem, e0, e1, e2, e3, e4, e5]) rfl (HEND.out _ _ _ _ _ _ _ (hoth20) bw20 gL11 HOb11 HOk11 HS11 hBl11)
        · go_simp
          refine named_world (K := K) fun w9 hw9 => ?_
          obtain ⟨G9, hG9⟩ : ∃ G, G = w8.heap.size := ⟨_, rfl⟩
          rw [← hG9]
          have b9 : Below w8.heap.size w8 w9 := by subst hw9; exact (Below.refl _ _).alloc (Nat.le_refl _) _
          have hBl9 : BlockIs w9 G9 ((List.replicate (M + 2) zLk).flatMap lkV) 63 := by subst hw9 hG9; exact BlockIs.new w8 _ _
          have gL9 : w.heap.size + 1 + 1 + 1 ≤ G9 := by have := B8.size; have := hBr8.lt; omega
          clear hw9
          have B9 := below2 (w := w) B8 b9
          have hBs9 := hBs8.below b9; have hBr9 := hBr8.below b9
          have HS9 := Lib.hid (fun (W : World) (hk : ∀ b arr T, w.heap.size + 1 + 1 + 1 ≤ b → BlockIs w9 b arr T → BlockIs W b arr T) => HS8.out W fun b arr T h1 h2 => hk b arr T h1 (h2.below b9))
          clear s0 s1 s2
          have s0 := hBs9.cell (i := 0) rfl; have s1 := hBs9.cell (i := 1) rfl; have s2 := hBs9.cell (i := 2) rfl
          refine hK.out _ _ ?_ (fun hS9 => ?_)
          · try dsimp only
            (repeat' apply And.intro) <;> assumption
          clear hK K
          try simp only [Act.put, List.setIfInBounds_toArray, List.set_cons_zero, List.set_cons_succ]
          refine headH_one (i := 12) rfl rfl (by kernel_rfl) (fun K hK => ?_)
          go_simp
          go_at_call 16
          refine (HCB.out _ B9).mono ?_
          rintro e w10 ⟨r10, rfl, own10, b10⟩
          have B10 := below2 (w := w) B9 b10
          have hBs10 := hBs9.below b10; have hBr10 := hBr9.below b10
          have HS10 := Lib.hid (fun (W : World) (hk : ∀ b arr T, w.heap.size + 1 + 1 + 1 ≤ b → BlockIs w10 b arr T → BlockIs W b arr T) => HS9.out W fun b arr T h1 h2 => hk b arr T h1 (h2.below b10))
          have hBl10 := hBl9.below b10; have gL10 := gL9
          obtain ⟨a5, c5, e10⟩ := owns_slice own10
          subst e10
          have HOb10 := Lib.hid (owns_base own10 (by have := hBr9.lt; omega) : w10.ownsRow (w.heap.size + 1 + 1 + 1) _ _ _ _ _)
          clear s0 s1 s2
          have s0 := hBs10.cell (i := 0) rfl; have s1 := hBs10.cell (i := 1) rfl; have s2 := hBs10.cell (i := 2) rfl
          refine hK.out _ _ ?_ (fun hS10 => ?_)
          · try dsimp only
            (repeat' apply And.intro) <;> assumption
          clear hK K
          try simp only [Act.put, List.setIfInBounds_toArray, List.set_cons_zero, List.set_cons_succ]
          refine headH_one (i := 15) rfl rfl (by kernel_rfl) (fun K hK => ?_)
          go_simp
          go_at_call 17
          refine (HCK.out _ B10).mono ?_
          rintro e w11 ⟨r11, rfl, own11, b11⟩
          have B11 := below2 (w := w) B10 b11
          have hBs11 := hBs10.below b11; have hBr11 := hBr10.below b11
          have HS11 := Lib.hid (fun (W : World) (hk : ∀ b arr T, w.heap.size + 1 + 1 + 1 ≤ b → BlockIs w11 b arr T → BlockIs W b arr T) => HS10.out W fun b arr T h1 h2 => hk b arr T h1 (h2.below b11))
          have HOb11 := Lib.hid (owns_below HOb10.out b11)
          have hBl11 := hBl10.below b11; have gL11 := gL10
          obtain ⟨a6, c6, e11⟩ := owns_slice own11
          subst e11
          have HOk11 := Lib.hid (owns_base own11 (by have := hBr10.lt; omega) : w11.ownsRow (w.heap.size + 1 + 1 + 1) _ _ _ _ _)
          clear s0 s1 s2
          have s0 := hBs11.cell (i := 0) rfl; have s1 := hBs11.cell (i := 1) rfl; have s2 := hBs11.cell (i := 2) rfl
          refine hK.out _ _ ?_ (fun hS11 => ?_)
          · try dsimp only
            (repeat' apply And.intro) <;> assumption
          clear hK K
          try simp only [Act.put, List.setIfInBounds_toArray, List.set_cons_zero, List.set_cons_succ]
          refine headH_take (i := 21) (v := ?qv21x18) (by kernel_rfl) rfl rfl (by kernel_rfl) (by kernel_rfl) (by kernel_rfl) (fun _ _ _ h => h) (Or.inl ⟨by rfl, ?qy21x18⟩) (by assumption) ?qr21x18
          case qy21x18 =>
            intro wq hSw
            try dsimp only at hSw
            go_simp
            try with_reducible rfl
          try simp only [Act.put, List.setIfInBounds_toArray, List.set_cons_zero, List.set_cons_succ]
          refine headH_done (by kernel_rfl) ?_
          simp only [List.drop_succ_cons, List.drop_zero]
          go_wp2_with (refine list_store_blk rfl 36 _ _ rfl (w.heap.size + 1 + 1) _ _ 36 hBr11 rfl rfl (by kernel_rfl) rfl (by simp [Value.oneCell']) w.heap.size w B11 (by omega) ?_; intro w20 hR20 hoth20 hsz20 bw20)
          refine NoPanic.normal ?_
          go_wp2_with fail
          have e0 := hR20.cell (i := 0) rfl; have e1 := hR20.cell (i := 1) rfl; have e2 := hR20.cell (i := 2) rfl; have e3 := hR20.cell (i := 3) rfl; have e4 := hR20.cell (i := 4) rfl; have e5 := hR20.cell (i := 5) rfl
          exact bodyPost_ret (v := .agg #[.int .i64 (cntL true pl), .int .i64 ((cntL false pl : Int) + (cntE 2 kl : Int)), .slice a5 n1 c5, .slice a6 n2 c6, .slice a4 M c4, .slice (some ⟨G9, 0, none⟩) (M + 2) (M + 2)]) (by simp [results, Try.results7, go_sem, e0, e1, e2, e3, e4, e5]) rfl (HEND.out _ _ _ _ _ _ _ (hoth20) bw20 gL11 HOb11 HOk11 HS11 hBl11)
      · go_simp
        refine named_world (K := K) fun w8 hw8 => ?_
        obtain ⟨G8, hG8⟩ : ∃ G, G = w7.heap.size := ⟨_, rfl⟩
        rw [← hG8]
        have b8 : Below w7.heap.size w7 w8 := by subst hw8; exact (Below.refl _ _).alloc (Nat.le_refl _) _
        have hBl8 : BlockIs w8 G8 ((List.replicate (M + 2) zLk).flatMap lkV) 63 := by subst hw8 hG8; exact BlockIs.new w7 _ _
        have gL8 : w.heap.size + 1 + 1 + 1 ≤ G8 := by have := B7.size; have := hBr7.lt; omega
        clear hw8
        have B8 := below2 (w := w) B7 b8
        have hBs8 := hBs7.below b8; have hBr8 := hBr7.below b8
        have HS8 := Lib.hid (fun (W : World) (hk : ∀ b arr T, w.heap.size + 1 + 1 + 1 ≤ b → BlockIs w8 b arr T → BlockIs W b arr T) => HS7.out W fun b arr T h1 h2 => hk b arr T h1 (h2.below b8))
        clear s0 s1 s2
        have s0 := hBs8.cell (i := 0) rfl; have s1 := hBs8.cell (i := 1) rfl; have s2 := hBs8.cell (i := 2) rfl
        refine hK.out _ _ ?_ (fun hS8 => ?_)
        · try dsimp only
          (repeat' apply And.intro) <;> assumption
        clear hK K
        try simp only [Act.put, List.setIfInBounds_toArray, List.set_cons_zero, List.set_cons_succ]
        refine headH_one (i := 8) rfl rfl (by kernel_rfl) (fun K hK => ?_)
        go_simp
        go_at_call 15
        refine (HCE.out _ B8).mono ?_
        rintro e w9 ⟨rfl, b9⟩
        have B9 := below2 (w := w) B8 b9
        have hBs9 := hBs8.below b9; have hBr9 := hBr8.below b9
        have HS9 := Lib.hid (fun (W : World) (hk : ∀ b arr T, w.heap.size + 1 + 1 + 1 ≤ b → BlockIs w9 b arr T → BlockIs W b arr T) => HS8.out W fun b arr T h1 h2 => hk b arr T h1 (h2.below b9))
        have hBl9 := hBl8.below b9; have gL9 := gL8
        clear s0 s1 s2
        have s0 := hBs9.cell (i := 0) rfl; have s1 := hBs9.cell (i := 1) rfl; have s2 := hBs9.cell (i := 2) rfl
        refine hK.out _ _ ?_ (fun hS9 => ?_)
        · try dsimp only
          (repeat' apply And.intro) <;> assumption
        clear hK K
        try simp only [Act.put, List.setIfInBounds_toArray, List.set_cons_zero, List.set_cons_succ]
        refine headH_take (i := 9) (v := ?qv9x19) (by kernel_rfl) rfl rfl (by kernel_rfl) (by kernel_rfl) (by kernel_rfl) (fun _ _ _ h => h) (Or.inl ⟨by rfl, ?qy9x19⟩) (by assumption) ?qr9x19
        case qy9x19 =>
          intro wq hSw
          try dsimp only at hSw
          go_simp
          try with_reducible rfl
        try simp only [Act.put, List.setIfInBounds_toArray, List.set_cons_zero, List.set_cons_succ]
        refine headH_one (i := 12) rfl rfl (by kernel_rfl) (fun K hK => ?_)
        go_simp
        go_at_call 16
        refine (HCB.out _ B9).mono ?_
        rintro e w10 ⟨r10, rfl, own10, b10⟩
        have B10 := below2 (w := w) B9 b10
        have hBs10 := hBs9.below b10; have hBr10 := hBr9.below b10
        have HS10 := Lib.hid (fun (W : World) (hk : ∀ b arr T, w.heap.size + 1 + 1 + 1 ≤ b → BlockIs w10 b arr T → BlockIs W b arr T) => HS9.out W fun b arr T h1 h2 => hk b arr T h1 (h2.below b10))
        have hBl10 := hBl9.below b10; have gL10 := gL9
        obtain ⟨a5, c5, e10⟩ := owns_slice own10
        subst e10
        have HOb10 := Lib.hid (owns_base own10 (by have := hBr9.lt; omega) : w10.ownsRow (w.heap.size + 1 + 1 + 1) _ _ _ _ _)
        clear s0 s1 s2
        have s0 := hBs10.cell (i := 0) rfl; have s1 := hBs10.cell (i := 1) rfl; have s2 := hBs10.cell (i := 2) rfl
        refine hK.out _ _ ?_ (fun hS10 => ?_)
        · try dsimp only
          (repeat' apply And.intro) <;> assumption
        clear hK K
        try simp only [Act.put, List.setIfInBounds_toArray, List.set_cons_zero, List.set_cons_succ]
        refine headH_one (i := 15) rfl rfl (by kernel_rfl) (fun K hK => ?_)
        go_simp
        go_at_call 17
        refine (HCK.out _ B10).mono ?_
        rintro e w11 ⟨r11, rfl, own11, b11⟩
        have B11 := below2 (w := w) B10 b11
        have hBs11 := hBs10.below b11; have hBr11 := hBr10.below b11
        have HS11 := Lib.hid (fun (W : World) (hk : ∀ b arr T, w.heap.size + 1 + 1 + 1 ≤ b → BlockIs w11 b arr T → BlockIs W b arr T) => HS10.out W fun b arr T h1 h2 => hk b arr T h1 (h2.below b11))
        have HOb11 := Lib.hid (owns_below HOb10.out b11)
        have hBl11 := hBl10.below b11; have gL11 := gL10
        obtain ⟨a6, c6, e11⟩ := owns_slice own11
        subst e11
        have HOk11 := Lib.hid (owns_base own11 (by have := hBr10.lt; omega) : w11.ownsRow (w.heap.size + 1 + 1 + 1) _ _ _ _ _)
        clear s0 s1 s2
        have s0 := hBs11.cell (i := 0) rfl; have s1 := hBs11.cell (i := 1) rfl; have s2 := hBs11.cell (i := 2) rfl
        refine hK.out _ _ ?_ (fun hS11 => ?_)
        · try dsimp only
          (repeat' apply And.intro) <;> assumption
        clear hK K
        try simp only [Act.put, List.setIfInBounds_toArray, List.set_cons_zero, List.set_cons_succ]
        refine headH_take (i := 21) (v := ?qv21x20) (by kernel_rfl) rfl rfl (by kernel_rfl) (by kernel_rfl) (by kernel_rfl) (fun _ _ _ h => h) (Or.inl ⟨by rfl, ?qy21x20⟩) (by assumption) ?qr21x20
        case qy21x20 =>
          intro wq hSw
          try dsimp only at hSw
          go_simp
          try with_reducible rfl
        try simp only [Act.put, List.setIfInBounds_toArray, List.set_cons_zero, List.set_cons_succ]
        refine headH_done (by kernel_rfl) ?_
        simp only [List.drop_succ_cons, List.drop_zero]
        go_wp2_with (refine list_store_blk rfl 36 _ _ rfl (w.heap.size + 1 + 1) _ _ 36 hBr11 rfl rfl (by kernel_rfl) rfl (by simp [Value.oneCell']) w.heap.size w B11 (by omega) ?_; intro w20 hR20 hoth20 hsz20 bw20)
        refine NoPanic.normal ?_
        go_wp2_with fail
        have e0 := hR20.cell (i := 0) rfl; have e1 := hR20.cell (i := 1) rfl; have e2 := hR20.cell (i := 2) rfl; have e3 := hR20.cell (i := 3) rfl; have e4 := hR20.cell (i := 4) rfl; have e5 := hR20.cell (i := 5) rfl
        exact bodyPost_ret (v := .agg #[.int .i64 (cntL true pl), .int .i64 ((cntL false pl : Int) + (cntE 2 kl : Int)), .slice a5 n1 c5, .slice a6 n2 c6, .slice a4 M c4, .slice (some ⟨G8, 0, none⟩) (M + 2) (M + 2)]) (by simp [results, Try.results7, go_sem, e0, e1, e2, e3, e4, e5]) rfl (HEND.out _ _ _ _ _ _ _ (hoth20) bw20 gL11 HOb11 HOk11 HS11 hBl11)
    · go_simp
      refine named_world (K := K) fun w7 hw7 => ?_
      obtain ⟨G7, hG7⟩ : ∃ G, G = w6.heap.size := ⟨_, rfl⟩
      rw [← hG7]
      have b7 : Below w6.heap.size w6 w7 := by subst hw7; exact (Below.refl _ _).alloc (Nat.le_refl _) _
      have hBl7 : BlockIs w7 G7 ((List.replicate (M + 2) zLk).flatMap lkV) 63 := by subst hw7 hG7; exact BlockIs.new w6 _ _
      have gL7 : w.heap.size + 1 + 1 + 1 ≤ G7 := by have := B6.size; have := hBr6.lt; omega
      clear hw7
      have B7 := below2 (w := w) B6 b7
      have hBs7 := hBs6.below b7; have hBr7 := hBr6.below b7
      have HS7 := Lib.hid (fun (W : World) (hk : ∀ b arr T, w.heap.size + 1 + 1 + 1 ≤ b → BlockIs w7 b arr T → BlockIs W b arr T) => HS6.out W fun b arr T h1 h2 => hk b arr T h1 (h2.below b7))
      clear s0 s1 s2
      have s0 := hBs7.cell (i := 0) rfl; have s1 := hBs7.cell (i := 1) rfl; have s2 := hBs7.cell (i := 2) rfl
      refine hK.out _ _ ?_ (fun hS7 => ?_)
      · try dsimp only
        (repeat' apply And.intro) <;> assumption
      clear hK K
      try simp only [Act.put, List.setIfInBounds_toArray, List.set_cons_zero, List.set_cons_succ]
      refine headH_one (i := 5) rfl rfl (by kernel_rfl) (fun K hK => ?_)
      go_simp
      go_at_call 14
      refine (HCF.out _ B7).mono ?_
      rintro e w8 ⟨rfl, b8⟩
      have B8 := below2 (w := w) B7 b8
      have hBs8 := hBs7.below b8; have hBr8 := hBr7.below b8
      have HS8 := Lib.hid (fun (W : World) (hk : ∀ b arr T, w.heap.size + 1 + 1 + 1 ≤ b → BlockIs w8 b arr T → BlockIs W b arr T) => HS7.out W fun b arr T h1 h2 => hk b arr T h1 (h2.below b8))
      have hBl8 := hBl7.below b8; have gL8 := gL7
      clear s0 s1 s2
      have s0 := hBs8.cell (i := 0) rfl; have s1 := hBs8.cell (i := 1) rfl; have s2 := hBs8.cell (i := 2) rfl
      refine hK.out _ _ ?_ (fun hS8 => ?_)
      · try dsimp only
        (repeat' apply And.intro) <;> assumption
      clear hK K
      try simp only [Act.put, List.setIfInBounds_toArray, List.set_cons_zero, List.set_cons_succ]
      refine headH_one (i := 8) rfl rfl (by kernel_rfl) (fun K hK => ?_)
      go_simp
      go_at_call 15
      refine (HCE.out _ B8).mono ?_
      rintro e w9 ⟨rfl, b9⟩
      have B9 := below2 (w := w) B8 b9
      have hBs9 := hBs8.below b9; have hBr9 := hBr8.below b9
      have HS9 := Lib.hid (fun (W : World) (hk : ∀ b arr T, w.heap.size + 1 + 1 + 1 ≤ b → BlockIs w9 b arr T → BlockIs W b arr T) => HS8.out W fun b arr T h1 h2 => hk b arr T h1 (h2.below b9))
      have hBl9 := hBl8.below b9; have gL9 := gL8
      clear s0 s1 s2
      have s0 := hBs9.cell (i := 0) rfl; have s1 := hBs9.cell (i := 1) rfl; have s2 := hBs9.cell (i := 2) rfl
      refine hK.out _ _ ?_ (fun hS9 => ?_)
      · try dsimp only
        (repeat' apply And.intro) <;> assumption
      clear hK K
      try simp only [Act.put, List.setIfInBounds_toArray, List.set_cons_zero, List.set_cons_succ]
      refine headH_take (i := 9) (v := ?qv9x21) (by kernel_rfl) rfl rfl (by kernel_rfl) (by kernel_rfl) (by kernel_rfl) (fun _ _ _ h => h) (Or.inl ⟨by rfl, ?qy9x21⟩) (by assumption) ?qr9x21
      case qy9x21 =>
        intro wq hSw
        try dsimp only at hSw
        go_simp
        try with_reducible rfl
      try simp only [Act.put, List.setIfInBounds_toArray, List.set_cons_zero, List.set_cons_succ]
      refine headH_one (i := 12) rfl rfl (by kernel_rfl) (fun K hK => ?_)
      go_simp
      go_at_call 16
      refine (HCB.out _ B9).mono ?_
      rintro e w10 ⟨r10, rfl, own10, b10⟩
      have B10 := below2 (w := w) B9 b10
      have hBs10 := hBs9.below b10; have hBr10 := hBr9.below b10
      have HS10 := Lib.hid (fun (W : World) (hk : ∀ b arr T, w.heap.size + 1 + 1 + 1 ≤ b → BlockIs w10 b arr T → BlockIs W b arr T) => HS9.out W fun b arr T h1 h2 => hk b arr T h1 (h2.below b10))
      have hBl10 := hBl9.below b10; have gL10 := gL9
      obtain ⟨a5, c5, e10⟩ := owns_slice own10
      subst e10
      have HOb10 := Lib.hid (owns_base own10 (by have := hBr9.lt; omega) : w10.ownsRow (w.heap.size + 1 + 1 + 1) _ _ _ _ _)
      clear s0 s1 s2
      have s0 := hBs10.cell (i := 0) rfl; have s1 := hBs10.cell (i := 1) rfl; have s2 := hBs10.cell (i := 2) rfl
      refine hK.out _ _ ?_ (fun hS10 => ?_)
      · try dsimp only
        (repeat' apply And.intro) <;> assumption
      clear hK K
      try simp only [Act.put, List.setIfInBounds_toArray, List.set_cons_zero, List.set_cons_succ]
      refine headH_one (i := 15) rfl rfl (by kernel_rfl) (fun K hK => ?_)
      go_simp
      go_at_call 17
      refine (HCK.out _ B10).mono ?_
      rintro e w11 ⟨r11, rfl, own11, b11⟩
      have B11 := below2 (w := w) B10 b11
      have hBs11 := hBs10.below b11; have hBr11 := hBr10.below b11
      have HS11 := Lib.hid (fun (W : World) (hk : ∀ b arr T, w.heap.size + 1 + 1 + 1 ≤ b → BlockIs w11 b arr T → BlockIs W b arr T) => HS10.out W fun b arr T h1 h2 => hk b arr T h1 (h2.below b11))
      have HOb11 := Lib.hid (owns_below HOb10.out b11)
      have hBl11 := hBl10.below b11; have gL11 := gL10
      obtain ⟨a6, c6, e11⟩ := owns_slice own11
      subst e11
      have HOk11 := Lib.hid (owns_base own11 (by have := hBr10.lt; omega) : w11.ownsRow (w.heap.size + 1 + 1 + 1) _ _ _ _ _)
      clear s0 s1 s2
      have s0 := hBs11.cell (i := 0) rfl; have s1 := hBs11.cell (i := 1) rfl; have s2 := hBs11.cell (i := 2) rfl
      refine hK.out _ _ ?_ (fun hS11 => ?_)
      · try dsimp only
        (repeat' apply And.intro) <;> assumption
      clear hK K
      try simp only [Act.put, List.setIfInBounds_toArray, List.set_cons_zero, List.set_cons_succ]
      refine headH_take (i := 21) (v := ?qv21x22) (by kernel_rfl) rfl rfl (by kernel_rfl) (by kernel_rfl) (by kernel_rfl) (fun _ _ _ h => h) (Or.inl ⟨by rfl, ?qy21x22⟩) (by assumption) ?qr21x22
      case qy21x22 =>
        intro wq hSw
        try dsimp only at hSw
        go_simp
        try with_reducible rfl
      try simp only [Act.put, List.setIfInBounds_toArray, List.set_cons_zero, List.set_cons_succ]
      refine headH_done (by kernel_rfl) ?_
      simp only [List.drop_succ_cons, List.drop_zero]
      go_wp2_with (refine list_store_blk rfl 36 _ _ rfl (w.heap.size + 1 + 1) _ _ 36 hBr11 rfl rfl (by kernel_rfl) rfl (by simp [Value.oneCell']) w.heap.size w B11 (by omega) ?_; intro w20 hR20 hoth20 hsz20 bw20)
      refine NoPanic.normal ?_
      go_wp2_with fail
      have e0 := hR20.cell (i := 0) rfl; have e1 := hR20.cell (i := 1) rfl; have e2 := hR20.cell (i := 2) rfl; have e3 := hR20.cell (i := 3) rfl; have e4 := hR20.cell (i := 4) rfl; have e5 := hR20.cell (i := 5) rfl
      exact bodyPost_ret (v := .agg #[.int .i64 (cntL true pl), .int .i64 ((cntL false pl : Int) + (cntE 2 kl : Int)), .slice a5 n1 c5, .slice a6 n2 c6, .slice a4 M c4, .slice (some ⟨G7, 0, none⟩) (M + 2) (M + 2)]) (by simp [results, Try.results7, go_sem, e0, e1, e2, e3, e4, e5]) rfl (HEND.out _ _ _ _ _ _ _ (hoth20) bw20 gL11 HOb11 HOk11 HS11 hBl11)
  · go_simp
    refine named_world (K := K) fun w6 hw6 => ?_
    obtain ⟨G6, hG6⟩ : ∃ G, G = w5.heap.size := ⟨_, rfl⟩
    rw [← hG6]
    have b6 : Below w5.heap.size w5 w6 := by subst hw6; exact (Below.refl _ _).alloc (Nat.le_refl _) _
    have hBl6 : BlockIs w6 G6 ((List.replicate (M + 2) zLk).flatMap lkV) 63 := by subst hw6 hG6; exact BlockIs.new w5 _ _
    have gL6 : w.heap.size + 1 + 1 + 1 ≤ G6 := by have := B5.size; have := hBr5.lt; omega
    clear hw6
    have B6 := below2 (w := w) B5 b6
    have hBs6 := hBs5.below b6; have hBr6 := hBr5.below b6
    have HS6 := Lib.hid (fun (W : World) (hk : ∀ b arr T, w.heap.size + 1 + 1 + 1 ≤ b → BlockIs w6 b arr T → BlockIs W b arr T) => HS5.out W fun b arr T h1 h2 => hk b arr T h1 (h2.below b6))
    clear s0 s1 s2
    have s0 := hBs6.cell (i := 0) rfl; have s1 := hBs6.cell (i := 1) rfl; have s2 := hBs6.cell (i := 2) rfl
    refine hK.out _ _ ?_ (fun hS6 => ?_)
    · try dsimp only
      (repeat' apply And.intro) <;> assumption
    clear hK K
    try simp only [Act.put, List.setIfInBounds_toArray, List.set_cons_zero, List.set_cons_succ]
    refine headH_one (i := 2) rfl rfl (by kernel_rfl) (fun K hK => ?_)
    go_simp
    go_at_call 14
    refine (HCT.out _ B6).mono ?_
    rintro e w7 ⟨rfl, b7⟩
    have B7 := below2 (w := w) B6 b7
    have hBs7 := hBs6.below b7; have hBr7 := hBr6.below b7
    have HS7 := Lib.hid (fun (W : World) (hk : ∀ b arr T, w.heap.size + 1 + 1 + 1 ≤ b → BlockIs w7 b arr T → BlockIs W b arr T) => HS6.out W fun b arr T h1 h2 => hk b arr T h1 (h2.below b7))
    have hBl7 := hBl6.below b7; have gL7 := gL6
    clear s0 s1 s2
    have s0 := hBs7.cell (i := 0) rfl; have s1 := hBs7.cell (i := 1) rfl; have s2 := hBs7.cell (i := 2) rfl
    refine hK.out _ _ ?_ (fun hS7 => ?_)
    · try dsimp only
      (repeat' apply And.intro) <;> assumption
    clear hK K
    try simp only [Act.put, List.setIfInBounds_toArray, List.set_cons_zero, List.set_cons_succ]
    refine headH_one (i := 5) rfl rfl (by kernel_rfl) (fun K hK => ?_)
    go_simp
    go_at_call 14
    refine (HCF.out _ B7).mono ?_
    rintro e w8 ⟨rfl, b8⟩
    have B8 := below2 (w := w) B7 b8
    have hBs8 := hBs7.below b8; have hBr8 := hBr7.below b8
    have HS8 := Lib.hid (fun (W : World) (hk : ∀ b arr T, w.heap.size + 1 + 1 + 1 ≤ b → BlockIs w8 b arr T → BlockIs W b arr T) => HS7.out W fun b arr T h1 h2 => hk b arr T h1 (h2.below b8))
    have hBl8 := hBl7.below b8; have gL8 := gL7
    clear s0 s1 s2
    have s0 := hBs8.cell (i := 0) rfl; have s1 := hBs8.cell (i := 1) rfl; have s2 := hBs8.cell (i := 2) rfl
    refine hK.out _ _ ?_ (fun hS8 => ?_)
    · try dsimp only
      (repeat' apply And.intro) <;> assumption
    clear hK K
    try simp only [Act.put, List.setIfInBounds_toArray, List.set_cons_zero, List.set_cons_succ]
    refine headH_one (i := 8) rfl rfl (by kernel_rfl) (fun K hK => ?_)
    go_simp
    go_at_call 15
    refine (HCE.out _ B8).mono ?_
    rintro e w9 ⟨rfl, b9⟩
    have B9 := below2 (w := w) B8 b9
    have hBs9 := hBs8.below b9; have hBr9 := hBr8.below b9
    have HS9 := Lib.hid (fun (W : World) (hk : ∀ b arr T, w.heap.size + 1 + 1 + 1 ≤ b → BlockIs w9 b arr T → BlockIs W b arr T) => HS8.out W fun b arr T h1 h2 => hk b arr T h1 (h2.below b9))
    have hBl9 := hBl8.below b9; have gL9 := gL8
    clear s0 s1 s2
    have s0 := hBs9.cell (i := 0) rfl; have s1 := hBs9.cell (i := 1) rfl; have s2 := hBs9.cell (i := 2) rfl
    refine hK.out _ _ ?_ (fun hS9 => ?_)
    · try dsimp only
      (repeat' apply And.intro) <;> assumption
    clear hK K
    try simp only [Act.put, List.setIfInBounds_toArray, List.set_cons_zero, List.set_cons_succ]
    refine headH_take (i := 9) (v := ?qv9x23) (by kernel_rfl) rfl rfl (by kernel_rfl) (by kernel_rfl) (by kernel_rfl) (fun _ _ _ h => h) (Or.inl ⟨by rfl, ?qy9x23⟩) (by assumption) ?qr9x23
    case qy9x23 =>
      intro wq hSw
      try dsimp only at hSw
      go_simp
      try with_reducible rfl
    try simp only [Act.put, List.setIfInBounds_toArray, List.set_cons_zero, List.set_cons_succ]
    refine headH_one (i := 12) rfl rfl (by kernel_rfl) (fun K hK => ?_)
    go_simp
    go_at_call 16
    refine (HCB.out _ B9).mono ?_
    rintro e w10 ⟨r10, rfl, own10, b10⟩
    have B10 := below2 (w := w) B9 b10
    have hBs10 := hBs9.below b10; have hBr10 := hBr9.below b10
    have HS10 := Lib.hid (fun (W : World) (hk : ∀ b arr T, w.heap.size + 1 + 1 + 1 ≤ b → BlockIs w10 b arr T → BlockIs W b arr T) => HS9.out W fun b arr T h1 h2 => hk b arr T h1 (h2.below b10))
    have hBl10 := hBl9.below b10; have gL10 := gL9
    obtain ⟨a5, c5, e10⟩ := owns_slice own10
    subst e10
    have HOb10 := Lib.hid (owns_base own10 (by have := hBr9.lt; omega) : w10.ownsRow (w.heap.size + 1 + 1 + 1) _ _ _ _ _)
    clear s0 s1 s2
    have s0 := hBs10.cell (i := 0) rfl; have s1 := hBs10.cell (i := 1) rfl; have s2 := hBs10.cell (i := 2) rfl
    refine hK.out _ _ ?_ (fun hS10 => ?_)
    · try dsimp only
      (repeat' apply And.intro) <;> assumption
    clear hK K
    try simp only [Act.put, List.setIfInBounds_toArray, List.set_cons_zero, List.set_cons_succ]
    refine headH_one (i := 15) rfl rfl (by kernel_rfl) (fun K hK => ?_)
    go_simp
    go_at_call 17
    refine (HCK.out _ B10).mono ?_
    rintro e w11 ⟨r11, rfl, own11, b11⟩
    have B11 := below2 (w := w) B10 b11
    have hBs11 := hBs10.below b11; have hBr11 := hBr10.below b11
    have HS11 := Lib.hid (fun (W : World) (hk : ∀ b arr T, w.heap.size + 1 + 1 + 1 ≤ b → BlockIs w11 b arr T → BlockIs W b arr T) => HS10.out W fun b arr T h1 h2 => hk b arr T h1 (h2.below b11))
    have HOb11 := Lib.hid (owns_below HOb10.out b11)
    have hBl11 := hBl10.below b11; have gL11 := gL10
    obtain ⟨a6, c6, e11⟩ := owns_slice own11
    subst e11
    have HOk11 := Lib.hid (owns_base own11 (by have := hBr10.lt; omega) : w11.ownsRow (w.heap.size + 1 + 1 + 1) _ _ _ _ _)
    clear s0 s1 s2
    have s0 := hBs11.cell (i := 0) rfl; have s1 := hBs11.cell (i := 1) rfl; have s2 := hBs11.cell (i := 2) rfl
    refine hK.out _ _ ?_ (fun hS11 => ?_)
    · try dsimp only
      (repeat' apply And.intro) <;> assumption
    clear hK K
    try simp only [Act.put, List.setIfInBounds_toArray, List.set_cons_zero, List.set_cons_succ]
    refine headH_take (i := 21) (v := ?qv21x24) (by kernel_rfl) rfl rfl (by kernel_rfl) (by kernel_rfl) (by kernel_rfl) (fun _ _ _ h => h) (Or.inl ⟨by rfl, ?qy21x24⟩) (by assumption) ?qr21x24
    case qy21x24 =>
      intro wq hSw
      try dsimp only at hSw
      go_simp
      try with_reducible rfl
    try simp only [Act.put, List.setIfInBounds_toArray, List.set_cons_zero, List.set_cons_succ]
    refine headH_done (by kernel_rfl) ?_
    simp only [List.drop_succ_cons, List.drop_zero]
    go_wp2_with (refine list_store_blk rfl 36 _ _ rfl (w.heap.size + 1 + 1) _ _ 36 hBr11 rfl rfl (by kernel_rfl) rfl (by simp [Value.oneCell']) w.heap.size w B11 (by omega) ?_; intro w20 hR20 hoth20 hsz20 bw20)
    refine NoPanic.normal ?_
    go_wp2_with fail
    have e0 := hR20.cell (i := 0) rfl; have e1 := hR20.cell (i := 1) rfl; have e2 := hR20.cell (i := 2) rfl; have e3 := hR20.cell (i := 3) rfl; have e4 := hR20.cell (i := 4) rfl; have e5 := hR20.cell (i := 5) rfl
    exact bodyPost_ret (v := .agg #[.int .i64 (cntL true pl), .int .i64 ((cntL false pl : Int) + (cntE 2 kl : Int)), .slice a5 n1 c5, .slice a6 n2 c6, .slice a4 M c4, .slice (some ⟨G6, 0, none⟩) (M + 2) (M + 2)]) (by simp [results, Try.results7, go_sem, e0, e1, e2, e3, e4, e5]) rfl (HEND.out _ _ _ _ _ _ _ (hoth20) bw20 gL11 HOb11 HOk11 HS11 hBl11)

end Go.Proofs.Ytnplgagaoeckoaa
