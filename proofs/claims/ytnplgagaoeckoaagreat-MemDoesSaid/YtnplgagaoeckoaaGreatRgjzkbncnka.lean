/- Texts put together: MemC, MemF, RfL, RfM, RfE. No condition. -/
import Derived.Test.YtnplgagaoeckoaaGreatRapolmtkczm
import Derived.Deep.RegionHeld3
import Derived.Deep.RegionWith
import Derived.BigRegion
import Derived.Test.YtnplgagaoeckoaaGreatRbdwevbvwye
import Derived.Test.YtnplgagaoeckoaaGreatRbocrvkvair
import Derived.Test.YtnplgagaoeckoaaGreatRihppkpqfio
import Derived.Test.YtnplgagaoeckoaaGreatRgbeffxkyes
import Derived.Test.YtnplgagaoeckoaaGreatRmmjmhtuwoe
set_option maxRecDepth 100000
set_option linter.unusedSimpArgs false
set_option linter.unusedVariables false
namespace Go.Proofs.YtnplgagaoeckoaaGreat
open Go.RowKit

structure Vm where
 n : Int
 pe : Pe
 bans : Value × List Ba
 book : Value × List Ey
def Vm.pl (v : Vm) : Vp := ⟨v.n, v.pe, v.bans.2, v.book.2⟩
def VmAt (w : World) (v : Vm) : Prop := ReadsL baV 5 w v.bans.1 v.bans.2 ∧ ReadsL eyV 7 w v.book.1 v.book.2
theorem VmAt.below {w w' : World} {v : Vm} (h : VmAt w v) (hb : Below w.heap.size w w') : VmAt w' v := ⟨ReadsL.below h.1 hb, ReadsL.below h.2 hb⟩
def numVm (n : Int) : Vm := ⟨n, zeroPe, (.slice none 0 0, []), (.slice none 0 0, [])⟩
theorem numVm_at (w : World) (n : Int) : VmAt w (numVm n) := ⟨ReadsL.nil _ _ _ _ _, ReadsL.nil _ _ _ _ _⟩
theorem owns_oth {w w' : World} {base B n size : Nat} {e : TypeId} {v : Value} {xs : List Value} (h : w.ownsRow base e size v n xs) (hoth : ∀ k arr u, k ≠ B → BlockIs w k arr u → BlockIs w' k arr u) (hB : B < base) : w'.ownsRow base e size v n xs := by
 refine ⟨h.1, ?_⟩
 rcases h.2 with h2 | ⟨g, cap, cur, rfl, hg, hh, r⟩
 ·exact Or.inl h2
 ·exact Or.inr ⟨g, cap, cur, rfl, hg, hoth g _ _ (by omega) hh, r⟩
theorem eyV_ones (l : List Ey) : ∀ u ∈ l.flatMap eyV, u.oneCell' = true := by
 intro u hu
 obtain ⟨p, _, hp⟩ := List.mem_flatMap.1 hu
 unfold eyV at hp
 simp only [List.mem_cons, List.not_mem_nil, or_false] at hp
 rcases hp with rfl | rfl | rfl | rfl | rfl | rfl | rfl <;> rfl
theorem baV_onesM (l : List Ba) : ∀ u ∈ l.flatMap baV, u.oneCell' = true := by
 intro u hu
 obtain ⟨p, _, hp⟩ := List.mem_flatMap.1 hu
 unfold baV at hp
 simp only [List.mem_cons, List.not_mem_nil, or_false] at hp
 rcases hp with rfl | rfl | rfl | rfl | rfl <;> rfl
set_option maxHeartbeats 8000000 in
theorem memSlot_any (s : Sh) (t : Int) (w : World) (h : ReadsL peV 10 w s.v s.l) (ht : 0 ≤ t) :
  Calls Tryz.prog 74 #[.agg #[.int .i64 s.size, s.v], .int .i64 t] w fun e w' => e = .returned (.agg #[.bool ((slotP s.l t)).en.ad.v6, .int .u64 ((slotP s.l t)).en.ad.hi, .int .u64 ((slotP s.l t)).en.ad.lo, .int .i64 ((slotP s.l t)).en.port, .bool ((slotP s.l t)).came, .int .i64 ((slotP s.l t)).since, .int .i64 ((slotP s.l t)).pts, .int .i64 ((slotP s.l t)).at_, .int .i64 ((slotP s.l t)).ping, .int .i64 ((slotP s.l t)).work]) ∧ Below w.heap.size w w' := by
 obtain ⟨hm, p, c, e1, h3⟩ := pes_open h
 obtain ⟨j, rfl⟩ : ∃ j : Nat, t = (j : Int) := ⟨t.toNat, by omega⟩
 have hs : slotP s.l (j : Int) = s.l.getD j zeroPe := by unfold slotP getAt; rw [if_pos ht, Int.toNat_natCast]
 rw [hs, e1]
 clear e1 h hs ht
 generalize s.size = z
 generalize s.l = l at *
 rcases Nat.lt_or_ge j l.length with hj | hj
 ·obtain ⟨x, hx⟩ : ∃ x, l[j]? = some x := ⟨_, List.getElem?_eq_getElem hj⟩
  obtain ⟨b, o, rfl, h4, h5, h6⟩ := h3 (by omega)
  obtain ⟨k0, k1, k2, k3, k4, k5, k6, k7, k8, k9⟩ := h6 j x hx
  rw [List.getD_eq_getElem?_getD, hx, Option.getD_some]
  have q1 : ¬ (l.length : Int) ≤ (j : Int) := by omega
  have q2 : (j : Int) < (l.length : Int) := by omega
  have q3 : (0 : Int) ≤ (j : Int) := by omega
  clear hx h3 h6
  go_enter Tryz.func74, Tryz.ntmps74
  go_wp2_with fail
  refine bodyPost_named fun W9 h9 => ?_
  have e90 : W9.cell? ⟨w.heap.size + 1, 0, none⟩ = some (.bool x.en.ad.v6) := by subst h9; (first | (simp [go_sem, *]; done) | (simp (disch := first | omega | (simp; omega) | (simp [go_sem, *]; done)) [go_sem, World.cell?_setCell_far, World.cell?_alloc_past, *]; done))
  have e91 : W9.cell? ⟨w.heap.size + 1, 1, none⟩ = some (.int .u64 x.en.ad.hi) := by subst h9; (first | (simp [go_sem, *]; done) | (simp (disch := first | omega | (simp; omega) | (simp [go_sem, *]; done)) [go_sem, World.cell?_setCell_far, World.cell?_alloc_past, *]; done))
  have e92 : W9.cell? ⟨w.heap.size + 1, 2, none⟩ = some (.int .u64 x.en.ad.lo) := by subst h9; (first | (simp [go_sem, *]; done) | (simp (disch := first | omega | (simp; omega) | (simp [go_sem, *]; done)) [go_sem, World.cell?_setCell_far, World.cell?_alloc_past, *]; done))
  have e93 : W9.cell? ⟨w.heap.size + 1, 3, none⟩ = some (.int .i64 x.en.port) := by subst h9; (first | (simp [go_sem, *]; done) | (simp (disch := first | omega | (simp; omega) | (simp [go_sem, *]; done)) [go_sem, World.cell?_setCell_far, World.cell?_alloc_past, *]; done))
  have e94 : W9.cell? ⟨w.heap.size + 1, 4, none⟩ = some (.bool x.came) := by subst h9; (first | (simp [go_sem, *]; done) | (simp (disch := first | omega | (simp; omega) | (simp [go_sem, *]; done)) [go_sem, World.cell?_setCell_far, World.cell?_alloc_past, *]; done))
  have e95 : W9.cell? ⟨w.heap.size + 1, 5, none⟩ = some (.int .i64 x.since) := by subst h9; (first | (simp [go_sem, *]; done) | (simp (disch := first | omega | (simp; omega) | (simp [go_sem, *]; done)) [go_sem, World.cell?_setCell_far, World.cell?_alloc_past, *]; done))
  have e96 : W9.cell? ⟨w.heap.size + 1, 6, none⟩ = some (.int .i64 x.pts) := by subst h9; (first | (simp [go_sem, *]; done) | (simp (disch := first | omega | (simp; omega) | (simp [go_sem, *]; done)) [go_sem, World.cell?_setCell_far, World.cell?_alloc_past, *]; done))
  have e97 : W9.cell? ⟨w.heap.size + 1, 7, none⟩ = some (.int .i64 x.at_) := by subst h9; (first | (simp [go_sem, *]; done) | (simp (disch := first | omega | (simp; omega) | (simp [go_sem, *]; done)) [go_sem, World.cell?_setCell_far, World.cell?_alloc_past, *]; done))
  have e98 : W9.cell? ⟨w.heap.size + 1, 8, none⟩ = some (.int .i64 x.ping) := by subst h9; (first | (simp [go_sem, *]; done) | (simp (disch := first | omega | (simp; omega) | (simp [go_sem, *]; done)) [go_sem, World.cell?_setCell_far, World.cell?_alloc_past, *]; done))
  have e99 : W9.cell? ⟨w.heap.size + 1, 9, none⟩ = some (.int .i64 x.work) := by subst h9; (first | (simp [go_sem, *]; done) | (simp (disch := first | omega | (simp; omega) | (simp [go_sem, *]; done)) [go_sem, World.cell?_setCell_far, World.cell?_alloc_past, *]; done))
  have b9 : Below w.heap.size w W9 := by subst h9; exact bel
  clear h9
  refine bodyPost_ret (v := .agg #[.bool x.en.ad.v6, .int .u64 x.en.ad.hi, .int .u64 x.en.ad.lo, .int .i64 x.en.port, .bool x.came, .int .i64 x.since, .int .i64 x.pts, .int .i64 x.at_, .int .i64 x.ping, .int .i64 x.work]) (by simp [results, Tryz.results74, go_sem, e90, e91, e92, e93, e94, e95, e96, e97, e98, e99]) rfl ⟨?_, b9⟩
  rfl
 ·rw [List.getD_eq_getElem?_getD, List.getElem?_eq_none hj, Option.getD_none]
  unfold zeroPe zeroEn
  simp only [show ((0 : Nat) : Int) = 0 from rfl]
  have q1 : (l.length : Int) ≤ (j : Int) := by omega
  clear h3
  go_enter Tryz.func74, Tryz.ntmps74
  go_wp2_with fail
  refine bodyPost_named fun W9 h9 => ?_
  have e90 : W9.cell? ⟨w.heap.size + 1, 0, none⟩ = some (.bool false) := by subst h9; (first | (simp [go_sem, *]; done) | (simp (disch := first | omega | (simp; omega) | (simp [go_sem, *]; done)) [go_sem, World.cell?_setCell_far, World.cell?_alloc_past, *]; done))
  have e91 : W9.cell? ⟨w.heap.size + 1, 1, none⟩ = some (.int .u64 0) := by subst h9; (first | (simp [go_sem, *]; done) | (simp (disch := first | omega | (simp; omega) | (simp [go_sem, *]; done)) [go_sem, World.cell?_setCell_far, World.cell?_alloc_past, *]; done))
  have e92 : W9.cell? ⟨w.heap.size + 1, 2, none⟩ = some (.int .u64 0) := by subst h9; (first | (simp [go_sem, *]; done) | (simp (disch := first | omega | (simp; omega) | (simp [go_sem, *]; done)) [go_sem, World.cell?_setCell_far, World.cell?_alloc_past, *]; done))
  have e93 : W9.cell? ⟨w.heap.size + 1, 3, none⟩ = some (.int .i64 0) := by subst h9; (first | (simp [go_sem, *]; done) | (simp (disch := first | omega | (simp; omega) | (simp [go_sem, *]; done)) [go_sem, World.cell?_setCell_far, World.cell?_alloc_past, *]; done))
  have e94 : W9.cell? ⟨w.heap.size + 1, 4, none⟩ = some (.bool false) := by subst h9; (first | (simp [go_sem, *]; done) | (simp (disch := first | omega | (simp; omega) | (simp [go_sem, *]; done)) [go_sem, World.cell?_setCell_far, World.cell?_alloc_past, *]; done))
  have e95 : W9.cell? ⟨w.heap.size + 1, 5, none⟩ = some (.int .i64 0) := by subst h9; (first | (simp [go_sem, *]; done) | (simp (disch := first | omega | (simp; omega) | (simp [go_sem, *]; done)) [go_sem, World.cell?_setCell_far, World.cell?_alloc_past, *]; done))
  have e96 : W9.cell? ⟨w.heap.size + 1, 6, none⟩ = some (.int .i64 0) := by subst h9; (first | (simp [go_sem, *]; done) | (simp (disch := first | omega | (simp; omega) | (simp [go_sem, *]; done)) [go_sem, World.cell?_setCell_far, World.cell?_alloc_past, *]; done))
  have e97 : W9.cell? ⟨w.heap.size + 1, 7, none⟩ = some (.int .i64 0) := by subst h9; (first | (simp [go_sem, *]; done) | (simp (disch := first | omega | (simp; omega) | (simp [go_sem, *]; done)) [go_sem, World.cell?_setCell_far, World.cell?_alloc_past, *]; done))
  have e98 : W9.cell? ⟨w.heap.size + 1, 8, none⟩ = some (.int .i64 0) := by subst h9; (first | (simp [go_sem, *]; done) | (simp (disch := first | omega | (simp; omega) | (simp [go_sem, *]; done)) [go_sem, World.cell?_setCell_far, World.cell?_alloc_past, *]; done))
  have e99 : W9.cell? ⟨w.heap.size + 1, 9, none⟩ = some (.int .i64 0) := by subst h9; (first | (simp [go_sem, *]; done) | (simp (disch := first | omega | (simp; omega) | (simp [go_sem, *]; done)) [go_sem, World.cell?_setCell_far, World.cell?_alloc_past, *]; done))
  have b9 : Below w.heap.size w W9 := by subst h9; exact bel
  clear h9
  refine bodyPost_ret (v := .agg #[.bool false, .int .u64 0, .int .u64 0, .int .i64 0, .bool false, .int .i64 0, .int .i64 0, .int .i64 0, .int .i64 0, .int .i64 0]) (by simp [results, Tryz.results74, go_sem, e90, e91, e92, e93, e94, e95, e96, e97, e98, e99]) rfl ⟨?_, b9⟩
  rfl
def shOf (m : Mm) (k : Int) : Sh := getAt m.parts.2 k ⟨0, .slice none 0 0, []⟩
theorem shOf_pl (m : Mm) (k : Int) : partP m.pl k = ((shOf m k).size, (shOf m k).l) := getAt_map (fun k : Sh => (k.size, k.l)) m.parts.2 k ⟨0, .slice none 0 0, []⟩
theorem shOf_at {w : World} {m : Mm} (h : MmAt w m) (k : Int) : ReadsL peV 10 w (shOf m k).v (shOf m k).l := by
 rcases getAt_mem (l := m.parts.2) (k := k) (d := (⟨0, .slice none 0 0, []⟩ : Sh)) with e | e
 ·exact h.2.2.1.2 _ e
 ·unfold shOf; rw [e]; exact ReadsL.nil _ _ _ _ _
def GivesVm (w : World) (r : Vp) (e : Ending) (w' : World) : Prop := ∃ v : Vm, e = .returned (.agg #[.int .i64 v.n, .bool v.pe.en.ad.v6, .int .u64 v.pe.en.ad.hi, .int .u64 v.pe.en.ad.lo, .int .i64 v.pe.en.port, .bool v.pe.came, .int .i64 v.pe.since, .int .i64 v.pe.pts, .int .i64 v.pe.at_, .int .i64 v.pe.ping, .int .i64 v.pe.work, v.bans.1, v.book.1]) ∧ (∀ w0 B, B ≤ w.heap.size → Firm w0 B w' fun W => VmAt W v) ∧ v.pl = r ∧ Below w.heap.size w w'

set_option maxHeartbeats 8000000 in
theorem memLoad_1 (m : Mm) (s t : Int) (w : World) (h : MmAt w m) :
  Calls Tryz.prog 47 #[.agg #[.int .i64 m.inn, .int .i64 m.out, m.bans.1, m.book.1, m.parts.1, m.locks.1], .agg #[.int .i64 1, .int .i64 s, .int .i64 t]] w (GivesVm w (loadP m.pl 1 s t)) := by
 unfold GivesVm
 obtain ⟨a1, a2, a3, a4, c1, c2, c3, c4, e1, e2, e3, e4⟩ := mm_slices h
 rw [e1, e2, e3, e4]
 clear e1 e2 e3 e4 h
 go_enter Tryz.func47, Tryz.ntmps47
 go_wp2_with (refine list_store_blk rfl 54 _ _ rfl (w.heap.size + 1 + 1) [.int .i64 0, .bool false, .int .u64 0, .int .u64 0, .int .i64 0, .bool false, .int .i64 0, .int .i64 0, .int .i64 0, .int .i64 0, .int .i64 0, .slice none 0 0, .slice none 0 0] _ 54 (BlockIs.newAt' _ [.int .i64 0, .bool false, .int .u64 0, .int .u64 0, .int .i64 0, .bool false, .int .i64 0, .int .i64 0, .int .i64 0, .int .i64 0, .int .i64 0, .slice none 0 0, .slice none 0 0] _ (by simp)) rfl rfl (by kernel_rfl) rfl (by simp [Value.oneCell']) w.heap.size w (by exact bel) (by omega) ?_; intro wz hOz hothz hszz bwz)
 refine bodyPost_named fun W9 h9 => ?_
 have hO9 : BlockIs W9 (w.heap.size + 1 + 1) [.int .i64 m.inn, .bool false, .int .u64 0, .int .u64 0, .int .i64 0, .bool false, .int .i64 0, .int .i64 0, .int .i64 0, .int .i64 0, .int .i64 0, .slice none 0 0, .slice none 0 0] 54 := by subst h9; first | exact hOz | exact rcx hOz
 have b9 : Below w.heap.size w W9 := by subst h9; exact bwz
 clear h9
 obtain ⟨e90, e91, e92, e93, e94, e95, e96, e97, e98, e99, e910, e911, e912⟩ := hO9.e13
 exact bodyPost_ret (v := .agg #[.int .i64 m.inn, .bool false, .int .u64 0, .int .u64 0, .int .i64 0, .bool false, .int .i64 0, .int .i64 0, .int .i64 0, .int .i64 0, .int .i64 0, .slice none 0 0, .slice none 0 0]) (by simp [results, Tryz.results47, go_sem, e90, e91, e92, e93, e94, e95, e96, e97, e98, e99, e910, e911, e912]) rfl ⟨numVm m.inn, rfl, fun _ _ _ _ _ _ => numVm_at _ _, rfl, b9⟩

set_option maxHeartbeats 8000000 in
theorem memLoad_2 (m : Mm) (s t : Int) (w : World) (h : MmAt w m) :
  Calls Tryz.prog 47 #[.agg #[.int .i64 m.inn, .int .i64 m.out, m.bans.1, m.book.1, m.parts.1, m.locks.1], .agg #[.int .i64 2, .int .i64 s, .int .i64 t]] w (GivesVm w (loadP m.pl 2 s t)) := by
 unfold GivesVm
 obtain ⟨a1, a2, a3, a4, c1, c2, c3, c4, e1, e2, e3, e4⟩ := mm_slices h
 rw [e1, e2, e3, e4]
 clear e1 e2 e3 e4 h
 go_enter Tryz.func47, Tryz.ntmps47
 go_wp2_with (refine list_store_blk rfl 54 _ _ rfl (w.heap.size + 1 + 1) [.int .i64 0, .bool false, .int .u64 0, .int .u64 0, .int .i64 0, .bool false, .int .i64 0, .int .i64 0, .int .i64 0, .int .i64 0, .int .i64 0, .slice none 0 0, .slice none 0 0] _ 54 (BlockIs.newAt' _ [.int .i64 0, .bool false, .int .u64 0, .int .u64 0, .int .i64 0, .bool false, .int .i64 0, .int .i64 0, .int .i64 0, .int .i64 0, .int .i64 0, .slice none 0 0, .slice none 0 0] _ (by simp)) rfl rfl (by kernel_rfl) rfl (by simp [Value.oneCell']) w.heap.size w (by exact bel) (by omega) ?_; intro wz hOz hothz hszz bwz)
 refine bodyPost_named fun W9 h9 => ?_
 have hO9 : BlockIs W9 (w.heap.size + 1 + 1) [.int .i64 m.out, .bool false, .int .u64 0, .int .u64 0, .int .i64 0, .bool false, .int .i64 0, .int .i64 0, .int .i64 0, .int .i64 0, .int .i64 0, .slice none 0 0, .slice none 0 0] 54 := by subst h9; first | exact hOz | exact rcx hOz
 have b9 : Below w.heap.size w W9 := by subst h9; exact bwz
 clear h9
 obtain ⟨e90, e91, e92, e93, e94, e95, e96, e97, e98, e99, e910, e911, e912⟩ := hO9.e13
 exact bodyPost_ret (v := .agg #[.int .i64 m.out, .bool false, .int .u64 0, .int .u64 0, .int .i64 0, .bool false, .int .i64 0, .int .i64 0, .int .i64 0, .int .i64 0, .int .i64 0, .slice none 0 0, .slice none 0 0]) (by simp [results, Tryz.results47, go_sem, e90, e91, e92, e93, e94, e95, e96, e97, e98, e99, e910, e911, e912]) rfl ⟨numVm m.out, rfl, fun _ _ _ _ _ _ => numVm_at _ _, rfl, b9⟩

set_option maxHeartbeats 8000000 in
theorem memLoad_3 (m : Mm) (s t : Int) (w : World) (h : MmAt w m) (hl : m.bans.2.length ≤ 1000) :
  Calls Tryz.prog 47 #[.agg #[.int .i64 m.inn, .int .i64 m.out, m.bans.1, m.book.1, m.parts.1, m.locks.1], .agg #[.int .i64 3, .int .i64 s, .int .i64 t]] w (GivesVm w (loadP m.pl 3 s t)) := by
 unfold GivesVm
 have HC := zh (fun (W : World) (hb : Below w.heap.size w W) => cloneBn m.bans.1 m.bans.2.length (m.bans.2.flatMap baV) W (ReadsL.below h.1 hb) (baV_onesM _) (by omega))
 obtain ⟨a1, a2, a3, a4, c1, c2, c3, c4, e1, e2, e3, e4⟩ := mm_slices h
 simp only [e1, e2, e3, e4] at HC ⊢
 clear e1 e2 e3 e4 h
 obtain ⟨n1, hn1⟩ : ∃ n, n = m.bans.2.length := ⟨_, rfl⟩
 rw [← hn1] at HC ⊢
 have HN1 := zh hn1
 clear hn1
 go_enter Tryz.func47, Tryz.ntmps47
 go_wp2_with (first
  | (go_at_call 32; (with_reducible refine (HC.out _ (by exact bel)).mono ?_); rintro e w1 ⟨r1, rfl, o1, b1⟩; obtain ⟨a5, c5, e5⟩ := owns_slice o1; subst e5; simp only [World.size_alloc] at o1; have HO5 := zh o1; have z1 := b1.size; have b1o := b1; simp only [World.size_alloc] at z1; have hRes : BlockIs w1 (w.heap.size + 1 + 1) [.int .i64 0, .bool false, .int .u64 0, .int .u64 0, .int .i64 0, .bool false, .int .i64 0, .int .i64 0, .int .i64 0, .int .i64 0, .int .i64 0, .slice none 0 0, .slice none 0 0] 54 := (BlockIs.newAt' _ _ _ (by simp)).below b1o)
  | (refine list_store_blk rfl 54 _ _ rfl (w.heap.size + 1 + 1) [.int .i64 0, .bool false, .int .u64 0, .int .u64 0, .int .i64 0, .bool false, .int .i64 0, .int .i64 0, .int .i64 0, .int .i64 0, .int .i64 0, .slice none 0 0, .slice none 0 0] _ 54 (hRes) rfl rfl (by kernel_rfl) rfl (by simp [Value.oneCell']) w.heap.size w (by exact bel) (by omega) ?_; intro wz hOz hothz hszz bwz))
 refine bodyPost_named fun W9 h9 => ?_
 have hO9 : BlockIs W9 (w.heap.size + 1 + 1) [.int .i64 0, .bool false, .int .u64 0, .int .u64 0, .int .i64 0, .bool false, .int .i64 0, .int .i64 0, .int .i64 0, .int .i64 0, .int .i64 0, .slice a5 n1 c5, .slice none 0 0] 54 := by subst h9; first | exact hOz | exact rcx hOz
 have b9 : Below w.heap.size w W9 := by subst h9; exact bwz
 have HV9 : Hid (W9.ownsRow (w.heap.size + 1 + 1 + 1) 84 5 (.slice a5 n1 c5) n1 (m.bans.2.flatMap baV)) := by
  subst h9
  unfold Hid
  exact owns_oth HO5.out hothz (by omega)
 clear h9
 obtain ⟨e90, e91, e92, e93, e94, e95, e96, e97, e98, e99, e910, e911, e912⟩ := hO9.e13
 exact bodyPost_ret (v := .agg #[.int .i64 0, .bool false, .int .u64 0, .int .u64 0, .int .i64 0, .bool false, .int .i64 0, .int .i64 0, .int .i64 0, .int .i64 0, .int .i64 0, .slice a5 n1 c5, .slice none 0 0]) (by simp [results, Tryz.results47, go_sem, e90, e91, e92, e93, e94, e95, e96, e97, e98, e99, e910, e911, e912]) rfl ⟨⟨0, zeroPe, (.slice a5 n1 c5, m.bans.2), (.slice none 0 0, [])⟩, rfl, fun w0 B hB W h0 hkp => ⟨by (unfold ReadsL; rw [← HN1.out]; exact owns_reads (owns_held HV9.out fun g arr hg hb => hkp g arr _ (by omega) hb)), ReadsL.nil _ _ _ _ _⟩, rfl, b9⟩

set_option maxHeartbeats 8000000 in
theorem memLoad_4 (m : Mm) (s t : Int) (w : World) (h : MmAt w m) (hl : m.book.2.length ≤ 1000) :
  Calls Tryz.prog 47 #[.agg #[.int .i64 m.inn, .int .i64 m.out, m.bans.1, m.book.1, m.parts.1, m.locks.1], .agg #[.int .i64 4, .int .i64 s, .int .i64 t]] w (GivesVm w (loadP m.pl 4 s t)) := by
 unfold GivesVm
 have HC := zh (fun (W : World) (hb : Below w.heap.size w W) => cloneEy m.book.1 m.book.2.length (m.book.2.flatMap eyV) W (ReadsL.below h.2.1 hb) (eyV_ones _) (by omega))
 obtain ⟨a1, a2, a3, a4, c1, c2, c3, c4, e1, e2, e3, e4⟩ := mm_slices h
 simp only [e1, e2, e3, e4] at HC ⊢
 clear e1 e2 e3 e4 h
 obtain ⟨n1, hn1⟩ : ∃ n, n = m.book.2.length := ⟨_, rfl⟩
 rw [← hn1] at HC ⊢
 have HN1 := zh hn1
 clear hn1
 go_enter Tryz.func47, Tryz.ntmps47
 go_wp2_with (first
  | (go_at_call 33; (with_reducible refine (HC.out _ (by exact bel)).mono ?_); rintro e w1 ⟨r1, rfl, o1, b1⟩; obtain ⟨a5, c5, e5⟩ := owns_slice o1; subst e5; simp only [World.size_alloc] at o1; have HO5 := zh o1; have z1 := b1.size; have b1o := b1; simp only [World.size_alloc] at z1; have hRes : BlockIs w1 (w.heap.size + 1 + 1) [.int .i64 0, .bool false, .int .u64 0, .int .u64 0, .int .i64 0, .bool false, .int .i64 0, .int .i64 0, .int .i64 0, .int .i64 0, .int .i64 0, .slice none 0 0, .slice none 0 0] 54 := (BlockIs.newAt' _ _ _ (by simp)).below b1o)
  | (refine list_store_blk rfl 54 _ _ rfl (w.heap.size + 1 + 1) [.int .i64 0, .bool false, .int .u64 0, .int .u64 0, .int .i64 0, .bool false, .int .i64 0, .int .i64 0, .int .i64 0, .int .i64 0, .int .i64 0, .slice none 0 0, .slice none 0 0] _ 54 (hRes) rfl rfl (by kernel_rfl) rfl (by simp [Value.oneCell']) w.heap.size w (by exact bel) (by omega) ?_; intro wz hOz hothz hszz bwz))
 refine bodyPost_named fun W9 h9 => ?_
 have hO9 : BlockIs W9 (w.heap.size + 1 + 1) [.int .i64 0, .bool false, .int .u64 0, .int .u64 0, .int .i64 0, .bool false, .int .i64 0, .int .i64 0, .int .i64 0, .int .i64 0, .int .i64 0, .slice none 0 0, .slice a5 n1 c5] 54 := by subst h9; first | exact hOz | exact rcx hOz
 have b9 : Below w.heap.size w W9 := by subst h9; exact bwz
 have HV9 : Hid (W9.ownsRow (w.heap.size + 1 + 1 + 1) 87 7 (.slice a5 n1 c5) n1 (m.book.2.flatMap eyV)) := by
  subst h9
  unfold Hid
  exact owns_oth HO5.out hothz (by omega)
 clear h9
 obtain ⟨e90, e91, e92, e93, e94, e95, e96, e97, e98, e99, e910, e911, e912⟩ := hO9.e13
 exact bodyPost_ret (v := .agg #[.int .i64 0, .bool false, .int .u64 0, .int .u64 0, .int .i64 0, .bool false, .int .i64 0, .int .i64 0, .int .i64 0, .int .i64 0, .int .i64 0, .slice none 0 0, .slice a5 n1 c5]) (by simp [results, Tryz.results47, go_sem, e90, e91, e92, e93, e94, e95, e96, e97, e98, e99, e910, e911, e912]) rfl ⟨⟨0, zeroPe, (.slice none 0 0, []), (.slice a5 n1 c5, m.book.2)⟩, rfl, fun w0 B hB W h0 hkp => ⟨ReadsL.nil _ _ _ _ _, by (unfold ReadsL; rw [← HN1.out]; exact owns_reads (owns_held HV9.out fun g arr hg hb => hkp g arr _ (by omega) hb))⟩, rfl, b9⟩

set_option maxHeartbeats 8000000 in
theorem memLoad_5 (m : Mm) (s t : Int) (w : World) (h : MmAt w m) (hs : 0 ≤ s ∧ s < (m.parts.2.length : Int)) :
  Calls Tryz.prog 47 #[.agg #[.int .i64 m.inn, .int .i64 m.out, m.bans.1, m.book.1, m.parts.1, m.locks.1], .agg #[.int .i64 5, .int .i64 s, .int .i64 t]] w (GivesVm w (loadP m.pl 5 s t)) := by
 unfold GivesVm
 rw [show loadP m.pl 5 s t = { zeroVp with n := (shOf m s).size } by unfold loadP; rw [shOf_pl]; rfl]
 have hAt := shOf_at h s
 obtain ⟨j, rfl⟩ : ∃ j : Nat, s = (j : Int) := ⟨s.toNat, by omega⟩
 obtain ⟨x, hx⟩ : ∃ x, m.parts.2[j]? = some x := ⟨_, List.getElem?_eq_getElem (by omega)⟩
 have hsx : shOf m (j : Int) = x := by unfold shOf getAt; rw [if_pos hs.1, Int.toNat_natCast, List.getD_eq_getElem?_getD, hx]; rfl
 rw [hsx] at hAt
 obtain ⟨_, a5, c5, e5, _⟩ := pes_open hAt
 obtain ⟨_, p, c, e6, h3⟩ := shs_open h.2.2.1.1
 obtain ⟨b, o, rfl, h4, h5, h6⟩ := h3 (by omega)
 obtain ⟨k0, k1⟩ := h6 j x hx
 rw [e5] at k1
 have HX := zh hsx
 obtain ⟨a1, a2, a3, a4, c1, c2, c3, c4, e1, e2, e3, e4⟩ := mm_slices h
 rw [e1, e2, e4, e6]
 have q1 : (j : Int) < (m.parts.2.length : Int) := hs.2
 have q2 : (0 : Int) ≤ (j : Int) := by omega
 generalize m.parts.2.length = np at *
 obtain ⟨W3, hW3⟩ : ∃ W3, W3 = ((w.alloc (.cells #[.int .i64 m.inn, .int .i64 m.out, .slice a1 m.bans.2.length c1, .slice a2 m.book.2.length c2, .slice (some ⟨b, o, none⟩) np c, .slice a4 m.locks.2.length c4] 40)).alloc (.cells #[.int .i64 5, .int .i64 j, .int .i64 t] 44)).alloc (.cells #[.int .i64 0, .bool false, .int .u64 0, .int .u64 0, .int .i64 0, .bool false, .int .i64 0, .int .i64 0, .int .i64 0, .int .i64 0, .int .i64 0, .slice none 0 0, .slice none 0 0] 54) := ⟨_, rfl⟩
 have B3 : Below w.heap.size w W3 := by subst hW3; exact bel
 have z0 := keep B3 h5 k0
 have z1 := keep B3 h5 k1
 have y2 : W3.cell? ⟨w.heap.size, 4, none⟩ = some (.slice (some ⟨b, o, none⟩) np c) := by subst hW3; simp [go_sem]
 have y3 : W3.cell? ⟨w.heap.size + 1, 1, none⟩ = some (.int .i64 j) := by subst hW3; simp [go_sem]
 have y4 : W3.cell? ⟨w.heap.size + 1, 2, none⟩ = some (.int .i64 t) := by subst hW3; simp [go_sem]
 have hRes : BlockIs W3 (w.heap.size + 1 + 1) [.int .i64 0, .bool false, .int .u64 0, .int .u64 0, .int .i64 0, .bool false, .int .i64 0, .int .i64 0, .int .i64 0, .int .i64 0, .int .i64 0, .slice none 0 0, .slice none 0 0] 54 := by subst hW3; exact BlockIs.newAt' _ [.int .i64 0, .bool false, .int .u64 0, .int .u64 0, .int .i64 0, .bool false, .int .i64 0, .int .i64 0, .int .i64 0, .int .i64 0, .int .i64 0, .slice none 0 0, .slice none 0 0] _ (by simp)
 have zl := hRes.lt
 rw [hsx]
 clear e1 e2 e3 e4 e5 e6 h hx hsx h3 h6 hAt
 go_enter Tryz.func47, Tryz.ntmps47
 go_upto_region 11 with fail
 rw [← hW3]
 clear hW3
 go_wp2_with (refine list_store_blk rfl 54 _ _ rfl (w.heap.size + 1 + 1) [.int .i64 0, .bool false, .int .u64 0, .int .u64 0, .int .i64 0, .bool false, .int .i64 0, .int .i64 0, .int .i64 0, .int .i64 0, .int .i64 0, .slice none 0 0, .slice none 0 0] _ 54 (hRes) rfl rfl (by kernel_rfl) rfl (by simp [Value.oneCell']) w.heap.size w B3 (by omega) ?_; intro wz hOz hothz hszz bwz)
 refine bodyPost_named fun W9 h9 => ?_
 have hO9 : BlockIs W9 (w.heap.size + 1 + 1) [.int .i64 x.size, .bool false, .int .u64 0, .int .u64 0, .int .i64 0, .bool false, .int .i64 0, .int .i64 0, .int .i64 0, .int .i64 0, .int .i64 0, .slice none 0 0, .slice none 0 0] 54 := by subst h9; first | exact hOz | exact rcx hOz
 have b9 : Below w.heap.size w W9 := by subst h9; exact bwz
 clear h9
 obtain ⟨e90, e91, e92, e93, e94, e95, e96, e97, e98, e99, e910, e911, e912⟩ := hO9.e13
 exact bodyPost_ret (v := .agg #[.int .i64 x.size, .bool false, .int .u64 0, .int .u64 0, .int .i64 0, .bool false, .int .i64 0, .int .i64 0, .int .i64 0, .int .i64 0, .int .i64 0, .slice none 0 0, .slice none 0 0]) (by simp [results, Tryz.results47, go_sem, e90, e91, e92, e93, e94, e95, e96, e97, e98, e99, e910, e911, e912]) rfl ⟨numVm x.size, rfl, fun _ _ _ _ _ _ => numVm_at _ _, rfl, b9⟩

set_option maxHeartbeats 8000000 in
theorem memLoad_6 (m : Mm) (s t : Int) (w : World) (h : MmAt w m) (hs : 0 ≤ s ∧ s < (m.parts.2.length : Int)) (ht : 0 ≤ t) :
  Calls Tryz.prog 47 #[.agg #[.int .i64 m.inn, .int .i64 m.out, m.bans.1, m.book.1, m.parts.1, m.locks.1], .agg #[.int .i64 6, .int .i64 s, .int .i64 t]] w (GivesVm w (loadP m.pl 6 s t)) := by
 unfold GivesVm
 rw [show loadP m.pl 6 s t = { zeroVp with pe := slotP (shOf m s).l t } by unfold loadP; rw [shOf_pl]; rfl]
 have hAt := shOf_at h s
 obtain ⟨j, rfl⟩ : ∃ j : Nat, s = (j : Int) := ⟨s.toNat, by omega⟩
 obtain ⟨x, hx⟩ : ∃ x, m.parts.2[j]? = some x := ⟨_, List.getElem?_eq_getElem (by omega)⟩
 have hsx : shOf m (j : Int) = x := by unfold shOf getAt; rw [if_pos hs.1, Int.toNat_natCast, List.getD_eq_getElem?_getD, hx]; rfl
 rw [hsx] at hAt
 obtain ⟨_, a5, c5, e5, _⟩ := pes_open hAt
 obtain ⟨_, p, c, e6, h3⟩ := shs_open h.2.2.1.1
 obtain ⟨b, o, rfl, h4, h5, h6⟩ := h3 (by omega)
 obtain ⟨k0, k1⟩ := h6 j x hx
 rw [e5] at k1
 have HX := zh hsx
 obtain ⟨a1, a2, a3, a4, c1, c2, c3, c4, e1, e2, e3, e4⟩ := mm_slices h
 rw [e1, e2, e4, e6]
 have q1 : (j : Int) < (m.parts.2.length : Int) := hs.2
 have q2 : (0 : Int) ≤ (j : Int) := by omega
 generalize m.parts.2.length = np at *
 obtain ⟨W3, hW3⟩ : ∃ W3, W3 = ((w.alloc (.cells #[.int .i64 m.inn, .int .i64 m.out, .slice a1 m.bans.2.length c1, .slice a2 m.book.2.length c2, .slice (some ⟨b, o, none⟩) np c, .slice a4 m.locks.2.length c4] 40)).alloc (.cells #[.int .i64 6, .int .i64 j, .int .i64 t] 44)).alloc (.cells #[.int .i64 0, .bool false, .int .u64 0, .int .u64 0, .int .i64 0, .bool false, .int .i64 0, .int .i64 0, .int .i64 0, .int .i64 0, .int .i64 0, .slice none 0 0, .slice none 0 0] 54) := ⟨_, rfl⟩
 have B3 : Below w.heap.size w W3 := by subst hW3; exact bel
 have z0 := keep B3 h5 k0
 have z1 := keep B3 h5 k1
 have y2 : W3.cell? ⟨w.heap.size, 4, none⟩ = some (.slice (some ⟨b, o, none⟩) np c) := by subst hW3; simp [go_sem]
 have y3 : W3.cell? ⟨w.heap.size + 1, 1, none⟩ = some (.int .i64 j) := by subst hW3; simp [go_sem]
 have y4 : W3.cell? ⟨w.heap.size + 1, 2, none⟩ = some (.int .i64 t) := by subst hW3; simp [go_sem]
 have hRes : BlockIs W3 (w.heap.size + 1 + 1) [.int .i64 0, .bool false, .int .u64 0, .int .u64 0, .int .i64 0, .bool false, .int .i64 0, .int .i64 0, .int .i64 0, .int .i64 0, .int .i64 0, .slice none 0 0, .slice none 0 0] 54 := by subst hW3; exact BlockIs.newAt' _ [.int .i64 0, .bool false, .int .u64 0, .int .u64 0, .int .i64 0, .bool false, .int .i64 0, .int .i64 0, .int .i64 0, .int .i64 0, .int .i64 0, .slice none 0 0, .slice none 0 0] _ (by simp)
 have zl := hRes.lt
 have HS := zh (fun (W : World) (hb : Below w.heap.size w W) => memSlot_any x t W (ReadsL.below hAt hb) ht)
 rw [hsx]
 rw [e5] at HS
 clear e1 e2 e3 e4 e5 e6 h hx hsx h3 h6 hAt HX
 generalize slotP x.l t = pe at *
 generalize x.l.length = xn at *
 generalize x.size = xz at *
 go_enter Tryz.func47, Tryz.ntmps47
 go_upto_region 12 with fail
 rw [← hW3]
 clear hW3
 have hRl := hRes.c0
 have hRf := hRes.frozen
 go_region_with (first | (go_at_call 74; (with_reducible refine (HS.out _ (by first | exact B3 | exact B3.drew)).mono ?_); rintro e w5 ⟨rfl, b5⟩; have hR5 : BlockIs w5 (w.heap.size + 1 + 1) [.int .i64 0, .bool false, .int .u64 0, .int .u64 0, .int .i64 0, .bool false, .int .i64 0, .int .i64 0, .int .i64 0, .int .i64 0, .int .i64 0, .slice none 0 0, .slice none 0 0] 54 := (by first | exact hRes.below b5 | exact (BlockIs.drew' hRes).below b5); have B5 : Below w.heap.size w w5 := (by first | exact below2 B3 b5 | exact below2 (Below.drew B3) b5); have l5 := hR5.lt; obtain ⟨c0_, c1_, c2_, c3_, c4_, c5_, c6_, c7_, c8_, c9_, c10_, c11_, c12_⟩ := hR5.e13; have f5 := hR5.frozen))
 all_goals
  go_wp2_with fail
  refine bodyPost_named fun W9 h9 => ?_
  have hO9 : BlockIs W9 (w.heap.size + 1 + 1) [.int .i64 0, .bool pe.en.ad.v6, .int .u64 pe.en.ad.hi, .int .u64 pe.en.ad.lo, .int .i64 pe.en.port, .bool pe.came, .int .i64 pe.since, .int .i64 pe.pts, .int .i64 pe.at_, .int .i64 pe.ping, .int .i64 pe.work, .slice none 0 0, .slice none 0 0] 54 := by subst h9; exact rcx hR5
  have b9 : Below w.heap.size w W9 := by subst h9; exact bel
  clear h9
  obtain ⟨e90, e91, e92, e93, e94, e95, e96, e97, e98, e99, e910, e911, e912⟩ := hO9.e13
  exact bodyPost_ret (v := .agg #[.int .i64 0, .bool pe.en.ad.v6, .int .u64 pe.en.ad.hi, .int .u64 pe.en.ad.lo, .int .i64 pe.en.port, .bool pe.came, .int .i64 pe.since, .int .i64 pe.pts, .int .i64 pe.at_, .int .i64 pe.ping, .int .i64 pe.work, .slice none 0 0, .slice none 0 0]) (by simp [results, Tryz.results47, go_sem, e90, e91, e92, e93, e94, e95, e96, e97, e98, e99, e910, e911, e912]) rfl ⟨⟨0, pe, (.slice none 0 0, []), (.slice none 0 0, [])⟩, rfl, fun _ _ _ _ _ _ => ⟨ReadsL.nil _ _ _ _ _, ReadsL.nil _ _ _ _ _⟩, rfl, b9⟩

/-- what an operation's slices are -/
def OqAt (w : World) (o : Oq) : Prop := ReadsL baV 5 w o.bans.1 o.bans.2 ∧ ReadsL eyV 7 w o.book.1 o.book.2
theorem OqAt.below {w w' : World} {o : Oq} (h : OqAt w o) (hb : Below w.heap.size w w') : OqAt w' o := ⟨ReadsL.below h.1 hb, ReadsL.below h.2 hb⟩
def GivesMv (w : World) (m0 : Mm) (r : Pm × Vp) (e : Ending) (w' : World) : Prop := ∃ (m : Mm) (v : Vm), e = .returned (.tuple #[.agg #[.int .i64 m.inn, .int .i64 m.out, m.bans.1, m.book.1, m.parts.1, m.locks.1], .agg #[.int .i64 v.n, .bool v.pe.en.ad.v6, .int .u64 v.pe.en.ad.hi, .int .u64 v.pe.en.ad.lo, .int .i64 v.pe.en.port, .bool v.pe.came, .int .i64 v.pe.since, .int .i64 v.pe.pts, .int .i64 v.pe.at_, .int .i64 v.pe.ping, .int .i64 v.pe.work, v.bans.1, v.book.1]]) ∧ (∀ W, MmAt W m0 → MmAt W m) ∧ (∀ W, VmAt W v) ∧ m.pl = r.1 ∧ v.pl = r.2 ∧ Below w.heap.size w w'
set_option maxHeartbeats 32000000 in
theorem memSwap_all (m : Mm) (o : Oq) (w : World) (h : MmAt w m) (ho : OqAt w o) :
  Calls Tryz.prog 49 #[.agg #[.int .i64 m.inn, .int .i64 m.out, m.bans.1, m.book.1, m.parts.1, m.locks.1], .agg #[.int .i64 o.kind, .int .i64 o.lock, .int .i64 o.lk, .int .i64 o.ls, .int .i64 o.lt, .int .i64 o.old, .int .i64 o.new, .int .i64 o.vn, .bool o.pe.en.ad.v6, .int .u64 o.pe.en.ad.hi, .int .u64 o.pe.en.ad.lo, .int .i64 o.pe.en.port, .bool o.pe.came, .int .i64 o.pe.since, .int .i64 o.pe.pts, .int .i64 o.pe.at_, .int .i64 o.pe.ping, .int .i64 o.pe.work, o.bans.1, o.book.1, .bool o.mark]] w (GivesMv w m (swapP m.pl o.lk o.old o.new)) := by
 have hdis : ((o.lk == 2) = true ∧ (m.out != o.old) = false ∧ swapP m.pl o.lk o.old o.new = ({ m.pl with out := o.new }, { zeroVp with n := 1 })) ∨ ((o.lk == 2) = true ∧ (m.out != o.old) = true ∧ swapP m.pl o.lk o.old o.new = (m.pl, zeroVp)) ∨ ((o.lk == 2) = false ∧ (m.inn != o.old) = false ∧ swapP m.pl o.lk o.old o.new = ({ m.pl with inn := o.new }, { zeroVp with n := 1 })) ∨ ((o.lk == 2) = false ∧ (m.inn != o.old) = true ∧ swapP m.pl o.lk o.old o.new = (m.pl, zeroVp)) := by
  by_cases h2 : o.lk = 2
  ·by_cases he : m.out = o.old
   ·exact Or.inl ⟨beq_iff_eq.2 h2, by simpa using he, by unfold swapP; rw [if_pos h2]; exact if_pos he⟩
   ·exact Or.inr (Or.inl ⟨beq_iff_eq.2 h2, by simpa using he, by unfold swapP; rw [if_pos h2]; exact if_neg he⟩)
  ·by_cases he : m.inn = o.old
   ·exact Or.inr (Or.inr (Or.inl ⟨beq_eq_false_iff_ne.2 h2, by simpa using he, by unfold swapP; rw [if_neg h2]; exact if_pos he⟩))
   ·exact Or.inr (Or.inr (Or.inr ⟨beq_eq_false_iff_ne.2 h2, by simpa using he, by unfold swapP; rw [if_neg h2]; exact if_neg he⟩))
 unfold GivesMv
 have HM := zh h
 obtain ⟨a1, a2, a3, a4, c1, c2, c3, c4, e1, e2, e3, e4⟩ := mm_slices h
 obtain ⟨_, oa, oc, eo, _⟩ := ba_open ho.1
 obtain ⟨_, ka, kc, ek, _⟩ := ey_open ho.2
 have hmm := zmm e1 e2 e3 e4
 have HMM := zh hmm
 rw [e1, e2, e3, e4, eo, ek]
 clear e1 e2 e3 e4 eo ek ho hmm
 obtain ⟨x0, hx0, x1, hx1, n1, hn1, n2, hn2, n3, hn3, n4, hn4⟩ := nz6 m.inn m.out m.bans.2.length m.book.2.length m.parts.2.length m.locks.2.length
 rw [← hx0, ← hx1, ← hn1, ← hn2, ← hn3, ← hn4]
 rw [← hx0, ← hx1, ← hn1, ← hn2, ← hn3, ← hn4] at HMM
 rw [← hx0, ← hx1] at hdis
 obtain ⟨HX0, HX1⟩ := zh2 hx0 hx1
 generalize hob : (Value.slice oa o.bans.2.length oc) = ob at *
 generalize hok : (Value.slice ka o.book.2.length kc) = ok at *
 have hb1 : ob.oneCell' = true := by rw [← hob]; rfl
 have hk1 : ok.oneCell' = true := by rw [← hok]; rfl
 clear h hx0 hx1 hn1 hn2 hn3 hn4 hob hok
 rcases hdis with ⟨f1, f2, hs⟩ | ⟨f1, f2, hs⟩ | ⟨f1, f2, hs⟩ | ⟨f1, f2, hs⟩
 all_goals
  rw [hs]
  clear hs
  go_enter Tryz.func49, Tryz.ntmps49
  go_upto_region 4 with fail
  refine nmw4 fun W4 B4 hBm hBo hBr hBv hs4 => ?_
  have p0 := fun Y => (hBm.below (ext_below W4 Y)).cell (i := 0) rfl
  have p1 := fun Y => (hBm.below (ext_below W4 Y)).cell (i := 1) rfl
  have p5 := fun Y => (hBo.below (ext_below W4 Y)).cell (i := 5) rfl
  refine wp_region_ext (by kernel_rfl) (by kernel_rfl) ?_
  repeat (go_big_quiet_step (fail))
  refine wpQuiet_nil ?_
  intro _ hw'
  obtain ⟨gx, hw''⟩ := hw'
  subst hw''
  clear p0 p1 p5
  have B5 : Below w.heap.size w (ext W4 gx) := B4.trans ((ext_below W4 gx).mono B4.size)
  have hBm := hBm.below (ext_below W4 gx); have hBo := hBo.below (ext_below W4 gx); have hBr := hBr.below (ext_below W4 gx); have hBv := hBv.below (ext_below W4 gx)
  clear hs4
  generalize ext W4 gx = W5 at *
  obtain ⟨m0, m1, m2, m3, m4, m5⟩ := hBm.e6; have mf := hBm.frozen; have ml := hBm.lt; have o6 := hBo.c6; obtain ⟨r0, r1, r2, r3, r4, r5⟩ := hBr.e6; have rf := hBr.frozen; have rl := hBr.lt
  go_wp2_with (refine list_store_blk rfl 54 _ _ rfl (w.heap.size + 1 + 1 + 1) _ _ 54 (show BlockIs _ _ [.int .i64 0, .bool false, .int .u64 0, .int .u64 0, .int .i64 0, .bool false, .int .i64 0, .int .i64 0, .int .i64 0, .int .i64 0, .int .i64 0, .slice none 0 0, .slice none 0 0] _ from by exact rcx hBv) rfl rfl (by kernel_rfl) rfl (by simp [Value.oneCell']) w.heap.size w (by exact bel) (by omega) ?_; intro wz hOz hothz hszz bwz)
  first
   | (have hM9 := hothz (w.heap.size + 1 + 1) [.int .i64 x0, .int .i64 x1, .slice a1 n1 c1, .slice a2 n2 c2, .slice a3 n3 c3, .slice a4 n4 c4] 40 (by omega) (by exact rcx hBr); have hV9 : BlockIs wz (w.heap.size + 1 + 1 + 1) [.int .i64 0, .bool false, .int .u64 0, .int .u64 0, .int .i64 0, .bool false, .int .i64 0, .int .i64 0, .int .i64 0, .int .i64 0, .int .i64 0, .slice none 0 0, .slice none 0 0] 54 := hOz; obtain ⟨e90, e91, e92, e93, e94, e95⟩ := hM9.e6; obtain ⟨v90, v91, v92, v93, v94, v95, v96, v97, v98, v99, v910, v911, v912⟩ := hV9.e13; exact bodyPost_ret (v := .tuple #[.agg #[.int .i64 x0, .int .i64 x1, .slice a1 n1 c1, .slice a2 n2 c2, .slice a3 n3 c3, .slice a4 n4 c4], .agg #[.int .i64 0, .bool false, .int .u64 0, .int .u64 0, .int .i64 0, .bool false, .int .i64 0, .int .i64 0, .int .i64 0, .int .i64 0, .int .i64 0, .slice none 0 0, .slice none 0 0]]) (by simp [results, Tryz.results49, go_sem, e90, e91, e92, e93, e94, e95, v90, v91, v92, v93, v94, v95, v96, v97, v98, v99, v910, v911, v912]) rfl ⟨m, numVm 0, (by rw [HMM.out]; rfl), fun W hW => hW, fun W => numVm_at _ _, rfl, rfl, bwz⟩)
   | (have hM9 := hothz (w.heap.size + 1 + 1) [.int .i64 o.new, .int .i64 x1, .slice a1 n1 c1, .slice a2 n2 c2, .slice a3 n3 c3, .slice a4 n4 c4] 40 (by omega) (by exact rcx hBr); have hV9 : BlockIs wz (w.heap.size + 1 + 1 + 1) [.int .i64 1, .bool false, .int .u64 0, .int .u64 0, .int .i64 0, .bool false, .int .i64 0, .int .i64 0, .int .i64 0, .int .i64 0, .int .i64 0, .slice none 0 0, .slice none 0 0] 54 := hOz; obtain ⟨e90, e91, e92, e93, e94, e95⟩ := hM9.e6; obtain ⟨v90, v91, v92, v93, v94, v95, v96, v97, v98, v99, v910, v911, v912⟩ := hV9.e13; exact bodyPost_ret (v := .tuple #[.agg #[.int .i64 o.new, .int .i64 x1, .slice a1 n1 c1, .slice a2 n2 c2, .slice a3 n3 c3, .slice a4 n4 c4], .agg #[.int .i64 1, .bool false, .int .u64 0, .int .u64 0, .int .i64 0, .bool false, .int .i64 0, .int .i64 0, .int .i64 0, .int .i64 0, .int .i64 0, .slice none 0 0, .slice none 0 0]]) (by simp [results, Tryz.results49, go_sem, e90, e91, e92, e93, e94, e95, v90, v91, v92, v93, v94, v95, v96, v97, v98, v99, v910, v911, v912]) rfl ⟨{ m with inn := o.new }, numVm 1, (by rw [HMM.out]; rfl), fun W hW => hW, fun W => numVm_at _ _, rfl, rfl, bwz⟩)
   | (have hM9 := hothz (w.heap.size + 1 + 1) [.int .i64 x0, .int .i64 o.new, .slice a1 n1 c1, .slice a2 n2 c2, .slice a3 n3 c3, .slice a4 n4 c4] 40 (by omega) (by exact rcx hBr); have hV9 : BlockIs wz (w.heap.size + 1 + 1 + 1) [.int .i64 1, .bool false, .int .u64 0, .int .u64 0, .int .i64 0, .bool false, .int .i64 0, .int .i64 0, .int .i64 0, .int .i64 0, .int .i64 0, .slice none 0 0, .slice none 0 0] 54 := hOz; obtain ⟨e90, e91, e92, e93, e94, e95⟩ := hM9.e6; obtain ⟨v90, v91, v92, v93, v94, v95, v96, v97, v98, v99, v910, v911, v912⟩ := hV9.e13; exact bodyPost_ret (v := .tuple #[.agg #[.int .i64 x0, .int .i64 o.new, .slice a1 n1 c1, .slice a2 n2 c2, .slice a3 n3 c3, .slice a4 n4 c4], .agg #[.int .i64 1, .bool false, .int .u64 0, .int .u64 0, .int .i64 0, .bool false, .int .i64 0, .int .i64 0, .int .i64 0, .int .i64 0, .int .i64 0, .slice none 0 0, .slice none 0 0]]) (by simp [results, Tryz.results49, go_sem, e90, e91, e92, e93, e94, e95, v90, v91, v92, v93, v94, v95, v96, v97, v98, v99, v910, v911, v912]) rfl ⟨{ m with out := o.new }, numVm 1, (by rw [HMM.out]; rfl), fun W hW => hW, fun W => numVm_at _ _, rfl, rfl, bwz⟩)

theorem range_pe {w : World} {b o : Nat} {pe : Pe} (h : PeIn w b o pe) : w.rangeAt b o [.bool pe.en.ad.v6, .int .u64 pe.en.ad.hi, .int .u64 pe.en.ad.lo, .int .i64 pe.en.port, .bool pe.came, .int .i64 pe.since, .int .i64 pe.pts, .int .i64 pe.at_, .int .i64 pe.ping, .int .i64 pe.work] := by
 obtain ⟨t0, t1, t2, t3, t4, t5, t6, t7, t8, t9⟩ := h
 intro j u hj
 rcases j with _ | _ | _ | _ | _ | _ | _ | _ | _ | _ | j
 ·cases hj; exact t0
 ·cases hj; exact t1
 ·cases hj; exact t2
 ·cases hj; exact t3
 ·cases hj; exact t4
 ·cases hj; exact t5
 ·cases hj; exact t6
 ·cases hj; exact t7
 ·cases hj; exact t8
 ·cases hj; exact t9
 ·simp at hj
def GivesVr (m : Mm) (w : World) (r : Vp) (e : Ending) (w' : World) : Prop := ∃ v : Vm, e = .returned (.agg #[.int .i64 v.n, .bool v.pe.en.ad.v6, .int .u64 v.pe.en.ad.hi, .int .u64 v.pe.en.ad.lo, .int .i64 v.pe.en.port, .bool v.pe.came, .int .i64 v.pe.since, .int .i64 v.pe.pts, .int .i64 v.pe.at_, .int .i64 v.pe.ping, .int .i64 v.pe.work, v.bans.1, v.book.1]) ∧ (∀ W, MmAt W m → VmAt W v) ∧ v.pl = r ∧ Below w.heap.size w w'

set_option maxHeartbeats 8000000 in
theorem refLoad_1 (m : Mm) (s t : Int) (w : World) (h : MmAt w m) :
  Calls Tryz.prog 53 #[.agg #[.int .i64 m.inn, .int .i64 m.out, m.bans.1, m.book.1, m.parts.1, m.locks.1], .agg #[.int .i64 1, .int .i64 s, .int .i64 t]] w (GivesVr m w (loadP m.pl 1 s t)) := by
 unfold GivesVr
 obtain ⟨a1, a2, a3, a4, c1, c2, c3, c4, e1, e2, e3, e4⟩ := mm_slices h
 rw [e1, e2, e3, e4]
 clear e1 e2 e3 e4 h
 go_enter Tryz.func53, Tryz.ntmps53
 go_wp2_with (refine list_store_blk rfl 54 _ _ rfl (w.heap.size + 1 + 1) [.int .i64 0, .bool false, .int .u64 0, .int .u64 0, .int .i64 0, .bool false, .int .i64 0, .int .i64 0, .int .i64 0, .int .i64 0, .int .i64 0, .slice none 0 0, .slice none 0 0] _ 54 (BlockIs.newAt' _ [.int .i64 0, .bool false, .int .u64 0, .int .u64 0, .int .i64 0, .bool false, .int .i64 0, .int .i64 0, .int .i64 0, .int .i64 0, .int .i64 0, .slice none 0 0, .slice none 0 0] _ (by simp)) rfl rfl (by kernel_rfl) rfl (by simp [Value.oneCell']) w.heap.size w (by exact bel) (by omega) ?_; intro wz hOz hothz hszz bwz)
 refine bodyPost_named fun W9 h9 => ?_
 have hO9 : BlockIs W9 (w.heap.size + 1 + 1) [.int .i64 m.inn, .bool false, .int .u64 0, .int .u64 0, .int .i64 0, .bool false, .int .i64 0, .int .i64 0, .int .i64 0, .int .i64 0, .int .i64 0, .slice none 0 0, .slice none 0 0] 54 := by subst h9; first | exact hOz | exact rcx hOz
 have b9 : Below w.heap.size w W9 := by subst h9; exact bwz
 clear h9
 obtain ⟨e90, e91, e92, e93, e94, e95, e96, e97, e98, e99, e910, e911, e912⟩ := hO9.e13
 exact bodyPost_ret (v := .agg #[.int .i64 m.inn, .bool false, .int .u64 0, .int .u64 0, .int .i64 0, .bool false, .int .i64 0, .int .i64 0, .int .i64 0, .int .i64 0, .int .i64 0, .slice none 0 0, .slice none 0 0]) (by simp [results, Tryz.results53, go_sem, e90, e91, e92, e93, e94, e95, e96, e97, e98, e99, e910, e911, e912]) rfl ⟨numVm m.inn, rfl, fun W _ => numVm_at W _, rfl, b9⟩

set_option maxHeartbeats 8000000 in
theorem refLoad_2 (m : Mm) (s t : Int) (w : World) (h : MmAt w m) :
  Calls Tryz.prog 53 #[.agg #[.int .i64 m.inn, .int .i64 m.out, m.bans.1, m.book.1, m.parts.1, m.locks.1], .agg #[.int .i64 2, .int .i64 s, .int .i64 t]] w (GivesVr m w (loadP m.pl 2 s t)) := by
 unfold GivesVr
 obtain ⟨a1, a2, a3, a4, c1, c2, c3, c4, e1, e2, e3, e4⟩ := mm_slices h
 rw [e1, e2, e3, e4]
 clear e1 e2 e3 e4 h
 go_enter Tryz.func53, Tryz.ntmps53
 go_wp2_with (refine list_store_blk rfl 54 _ _ rfl (w.heap.size + 1 + 1) [.int .i64 0, .bool false, .int .u64 0, .int .u64 0, .int .i64 0, .bool false, .int .i64 0, .int .i64 0, .int .i64 0, .int .i64 0, .int .i64 0, .slice none 0 0, .slice none 0 0] _ 54 (BlockIs.newAt' _ [.int .i64 0, .bool false, .int .u64 0, .int .u64 0, .int .i64 0, .bool false, .int .i64 0, .int .i64 0, .int .i64 0, .int .i64 0, .int .i64 0, .slice none 0 0, .slice none 0 0] _ (by simp)) rfl rfl (by kernel_rfl) rfl (by simp [Value.oneCell']) w.heap.size w (by exact bel) (by omega) ?_; intro wz hOz hothz hszz bwz)
 refine bodyPost_named fun W9 h9 => ?_
 have hO9 : BlockIs W9 (w.heap.size + 1 + 1) [.int .i64 m.out, .bool false, .int .u64 0, .int .u64 0, .int .i64 0, .bool false, .int .i64 0, .int .i64 0, .int .i64 0, .int .i64 0, .int .i64 0, .slice none 0 0, .slice none 0 0] 54 := by subst h9; first | exact hOz | exact rcx hOz
 have b9 : Below w.heap.size w W9 := by subst h9; exact bwz
 clear h9
 obtain ⟨e90, e91, e92, e93, e94, e95, e96, e97, e98, e99, e910, e911, e912⟩ := hO9.e13
 exact bodyPost_ret (v := .agg #[.int .i64 m.out, .bool false, .int .u64 0, .int .u64 0, .int .i64 0, .bool false, .int .i64 0, .int .i64 0, .int .i64 0, .int .i64 0, .int .i64 0, .slice none 0 0, .slice none 0 0]) (by simp [results, Tryz.results53, go_sem, e90, e91, e92, e93, e94, e95, e96, e97, e98, e99, e910, e911, e912]) rfl ⟨numVm m.out, rfl, fun W _ => numVm_at W _, rfl, b9⟩

set_option maxHeartbeats 8000000 in
theorem refLoad_3 (m : Mm) (s t : Int) (w : World) (h : MmAt w m) :
  Calls Tryz.prog 53 #[.agg #[.int .i64 m.inn, .int .i64 m.out, m.bans.1, m.book.1, m.parts.1, m.locks.1], .agg #[.int .i64 3, .int .i64 s, .int .i64 t]] w (GivesVr m w (loadP m.pl 3 s t)) := by
 unfold GivesVr
 obtain ⟨a1, a2, a3, a4, c1, c2, c3, c4, e1, e2, e3, e4⟩ := mm_slices h
 rw [e1, e2, e3, e4]
 have E := zh e1
 clear e1 e2 e3 e4 h
 go_enter Tryz.func53, Tryz.ntmps53
 go_wp2_with (refine list_store_blk rfl 54 _ _ rfl (w.heap.size + 1 + 1) [.int .i64 0, .bool false, .int .u64 0, .int .u64 0, .int .i64 0, .bool false, .int .i64 0, .int .i64 0, .int .i64 0, .int .i64 0, .int .i64 0, .slice none 0 0, .slice none 0 0] _ 54 (BlockIs.newAt' _ [.int .i64 0, .bool false, .int .u64 0, .int .u64 0, .int .i64 0, .bool false, .int .i64 0, .int .i64 0, .int .i64 0, .int .i64 0, .int .i64 0, .slice none 0 0, .slice none 0 0] _ (by simp)) rfl rfl (by kernel_rfl) rfl (by simp [Value.oneCell']) w.heap.size w (by exact bel) (by omega) ?_; intro wz hOz hothz hszz bwz)
 refine bodyPost_named fun W9 h9 => ?_
 have hO9 : BlockIs W9 (w.heap.size + 1 + 1) [.int .i64 0, .bool false, .int .u64 0, .int .u64 0, .int .i64 0, .bool false, .int .i64 0, .int .i64 0, .int .i64 0, .int .i64 0, .int .i64 0, .slice a1 m.bans.2.length c1, .slice none 0 0] 54 := by subst h9; first | exact hOz | exact rcx hOz
 have b9 : Below w.heap.size w W9 := by subst h9; exact bwz
 clear h9
 obtain ⟨e90, e91, e92, e93, e94, e95, e96, e97, e98, e99, e910, e911, e912⟩ := hO9.e13
 exact bodyPost_ret (v := .agg #[.int .i64 0, .bool false, .int .u64 0, .int .u64 0, .int .i64 0, .bool false, .int .i64 0, .int .i64 0, .int .i64 0, .int .i64 0, .int .i64 0, .slice a1 m.bans.2.length c1, .slice none 0 0]) (by simp [results, Tryz.results53, go_sem, e90, e91, e92, e93, e94, e95, e96, e97, e98, e99, e910, e911, e912]) rfl ⟨⟨0, zeroPe, (.slice a1 m.bans.2.length c1, m.bans.2), (.slice none 0 0, [])⟩, rfl, fun W hW => ⟨by (rw [← E.out]; exact hW.1), ReadsL.nil _ _ _ _ _⟩, rfl, b9⟩

set_option maxHeartbeats 8000000 in
theorem refLoad_4 (m : Mm) (s t : Int) (w : World) (h : MmAt w m) :
  Calls Tryz.prog 53 #[.agg #[.int .i64 m.inn, .int .i64 m.out, m.bans.1, m.book.1, m.parts.1, m.locks.1], .agg #[.int .i64 4, .int .i64 s, .int .i64 t]] w (GivesVr m w (loadP m.pl 4 s t)) := by
 unfold GivesVr
 obtain ⟨a1, a2, a3, a4, c1, c2, c3, c4, e1, e2, e3, e4⟩ := mm_slices h
 rw [e1, e2, e3, e4]
 have E := zh e2
 clear e1 e2 e3 e4 h
 go_enter Tryz.func53, Tryz.ntmps53
 go_wp2_with (refine list_store_blk rfl 54 _ _ rfl (w.heap.size + 1 + 1) [.int .i64 0, .bool false, .int .u64 0, .int .u64 0, .int .i64 0, .bool false, .int .i64 0, .int .i64 0, .int .i64 0, .int .i64 0, .int .i64 0, .slice none 0 0, .slice none 0 0] _ 54 (BlockIs.newAt' _ [.int .i64 0, .bool false, .int .u64 0, .int .u64 0, .int .i64 0, .bool false, .int .i64 0, .int .i64 0, .int .i64 0, .int .i64 0, .int .i64 0, .slice none 0 0, .slice none 0 0] _ (by simp)) rfl rfl (by kernel_rfl) rfl (by simp [Value.oneCell']) w.heap.size w (by exact bel) (by omega) ?_; intro wz hOz hothz hszz bwz)
 refine bodyPost_named fun W9 h9 => ?_
 have hO9 : BlockIs W9 (w.heap.size + 1 + 1) [.int .i64 0, .bool false, .int .u64 0, .int .u64 0, .int .i64 0, .bool false, .int .i64 0, .int .i64 0, .int .i64 0, .int .i64 0, .int .i64 0, .slice none 0 0, .slice a2 m.book.2.length c2] 54 := by subst h9; first | exact hOz | exact rcx hOz
 have b9 : Below w.heap.size w W9 := by subst h9; exact bwz
 clear h9
 obtain ⟨e90, e91, e92, e93, e94, e95, e96, e97, e98, e99, e910, e911, e912⟩ := hO9.e13
 exact bodyPost_ret (v := .agg #[.int .i64 0, .bool false, .int .u64 0, .int .u64 0, .int .i64 0, .bool false, .int .i64 0, .int .i64 0, .int .i64 0, .int .i64 0, .int .i64 0, .slice none 0 0, .slice a2 m.book.2.length c2]) (by simp [results, Tryz.results53, go_sem, e90, e91, e92, e93, e94, e95, e96, e97, e98, e99, e910, e911, e912]) rfl ⟨⟨0, zeroPe, (.slice none 0 0, []), (.slice a2 m.book.2.length c2, m.book.2)⟩, rfl, fun W hW => ⟨ReadsL.nil _ _ _ _ _, by (rw [← E.out]; exact hW.2.1)⟩, rfl, b9⟩

set_option maxHeartbeats 8000000 in
theorem refLoad_5 (m : Mm) (s t : Int) (w : World) (h : MmAt w m) (hs : 0 ≤ s ∧ s < (m.parts.2.length : Int)) :
  Calls Tryz.prog 53 #[.agg #[.int .i64 m.inn, .int .i64 m.out, m.bans.1, m.book.1, m.parts.1, m.locks.1], .agg #[.int .i64 5, .int .i64 s, .int .i64 t]] w (GivesVr m w (loadP m.pl 5 s t)) := by
 unfold GivesVr
 rw [show loadP m.pl 5 s t = { zeroVp with n := (shOf m s).size } by unfold loadP; rw [shOf_pl]; rfl]
 have hAt := shOf_at h s
 obtain ⟨j, rfl⟩ : ∃ j : Nat, s = (j : Int) := ⟨s.toNat, by omega⟩
 obtain ⟨x, hx⟩ : ∃ x, m.parts.2[j]? = some x := ⟨_, List.getElem?_eq_getElem (by omega)⟩
 have hsx : shOf m (j : Int) = x := by unfold shOf getAt; rw [if_pos hs.1, Int.toNat_natCast, List.getD_eq_getElem?_getD, hx]; rfl
 rw [hsx] at hAt
 obtain ⟨_, a5, c5, e5, hz5⟩ := pes_open hAt
 obtain ⟨_, p, c, e6, h3⟩ := shs_open h.2.2.1.1
 obtain ⟨b, o, rfl, h4, h5, h6⟩ := h3 (by omega)
 obtain ⟨k0, k1⟩ := h6 j x hx
 rw [e5] at k1
 have HX := zh hsx
 obtain ⟨a1, a2, a3, a4, c1, c2, c3, c4, e1, e2, e3, e4⟩ := mm_slices h
 rw [e1, e2, e4, e6]
 have q1 : (j : Int) < (m.parts.2.length : Int) := hs.2
 have q2 : (0 : Int) ≤ (j : Int) := by omega
 generalize m.parts.2.length = np at *
 skip
 obtain ⟨W3, hW3⟩ : ∃ W3, W3 = ((w.alloc (.cells #[.int .i64 m.inn, .int .i64 m.out, .slice a1 m.bans.2.length c1, .slice a2 m.book.2.length c2, .slice (some ⟨b, o, none⟩) np c, .slice a4 m.locks.2.length c4] 40)).alloc (.cells #[.int .i64 5, .int .i64 j, .int .i64 t] 44)).alloc (.cells #[.int .i64 0, .bool false, .int .u64 0, .int .u64 0, .int .i64 0, .bool false, .int .i64 0, .int .i64 0, .int .i64 0, .int .i64 0, .int .i64 0, .slice none 0 0, .slice none 0 0] 54) := ⟨_, rfl⟩
 have B3 : Below w.heap.size w W3 := by subst hW3; exact bel
 have z0 := keep B3 h5 k0
 have z1 := keep B3 h5 k1
 have y2 : W3.cell? ⟨w.heap.size, 4, none⟩ = some (.slice (some ⟨b, o, none⟩) np c) := by subst hW3; simp [go_sem]
 have y3 : W3.cell? ⟨w.heap.size + 1, 1, none⟩ = some (.int .i64 j) := by subst hW3; simp [go_sem]
 have y4 : W3.cell? ⟨w.heap.size + 1, 2, none⟩ = some (.int .i64 t) := by subst hW3; simp [go_sem]
 have hRes : BlockIs W3 (w.heap.size + 1 + 1) [.int .i64 0, .bool false, .int .u64 0, .int .u64 0, .int .i64 0, .bool false, .int .i64 0, .int .i64 0, .int .i64 0, .int .i64 0, .int .i64 0, .slice none 0 0, .slice none 0 0] 54 := by subst hW3; exact BlockIs.newAt' _ [.int .i64 0, .bool false, .int .u64 0, .int .u64 0, .int .i64 0, .bool false, .int .i64 0, .int .i64 0, .int .i64 0, .int .i64 0, .int .i64 0, .slice none 0 0, .slice none 0 0] _ (by simp)
 have zl := hRes.lt
 have hb3 : b < W3.heap.size := Nat.lt_of_lt_of_le h5 B3.size
 rw [hsx]
 skip
 clear e1 e2 e3 e4 e5 e6 h hx hsx h3 h6 hAt HX
 go_enter Tryz.func53, Tryz.ntmps53
 go_upto_region 11 with fail
 rw [← hW3]
 clear hW3
 go_wp2_with (refine list_store_blk rfl 54 _ _ rfl (w.heap.size + 1 + 1) [.int .i64 0, .bool false, .int .u64 0, .int .u64 0, .int .i64 0, .bool false, .int .i64 0, .int .i64 0, .int .i64 0, .int .i64 0, .int .i64 0, .slice none 0 0, .slice none 0 0] _ 54 hRes rfl rfl (by kernel_rfl) rfl (by simp [Value.oneCell']) w.heap.size w B3 (by omega) ?_; intro wz hOz hothz hszz bwz)
 refine bodyPost_named fun W9 h9 => ?_
 have hO9 : BlockIs W9 (w.heap.size + 1 + 1) [.int .i64 x.size, .bool false, .int .u64 0, .int .u64 0, .int .i64 0, .bool false, .int .i64 0, .int .i64 0, .int .i64 0, .int .i64 0, .int .i64 0, .slice none 0 0, .slice none 0 0] 54 := by subst h9; first | exact hOz | exact rcx hOz
 have b9 : Below w.heap.size w W9 := by subst h9; exact bwz
 clear h9
 obtain ⟨e90, e91, e92, e93, e94, e95, e96, e97, e98, e99, e910, e911, e912⟩ := hO9.e13
 exact bodyPost_ret (v := .agg #[.int .i64 x.size, .bool false, .int .u64 0, .int .u64 0, .int .i64 0, .bool false, .int .i64 0, .int .i64 0, .int .i64 0, .int .i64 0, .int .i64 0, .slice none 0 0, .slice none 0 0]) (by simp [results, Tryz.results53, go_sem, e90, e91, e92, e93, e94, e95, e96, e97, e98, e99, e910, e911, e912]) rfl ⟨numVm x.size, rfl, fun W _ => numVm_at W _, rfl, b9⟩

set_option maxHeartbeats 8000000 in
theorem refLoad_6o (m : Mm) (s t : Int) (w : World) (h : MmAt w m) (hs : 0 ≤ s ∧ s < (m.parts.2.length : Int)) (ht : 0 ≤ t) (ho : ((shOf m s).l.length : Int) ≤ t) :
  Calls Tryz.prog 53 #[.agg #[.int .i64 m.inn, .int .i64 m.out, m.bans.1, m.book.1, m.parts.1, m.locks.1], .agg #[.int .i64 6, .int .i64 s, .int .i64 t]] w (GivesVr m w (loadP m.pl 6 s t)) := by
 unfold GivesVr
 rw [show loadP m.pl 6 s t = { zeroVp with pe := slotP (shOf m s).l t } by unfold loadP; rw [shOf_pl]; rfl]
 have hAt := shOf_at h s
 obtain ⟨j, rfl⟩ : ∃ j : Nat, s = (j : Int) := ⟨s.toNat, by omega⟩
 obtain ⟨x, hx⟩ : ∃ x, m.parts.2[j]? = some x := ⟨_, List.getElem?_eq_getElem (by omega)⟩
 have hsx : shOf m (j : Int) = x := by unfold shOf getAt; rw [if_pos hs.1, Int.toNat_natCast, List.getD_eq_getElem?_getD, hx]; rfl
 rw [hsx] at hAt
 obtain ⟨_, a5, c5, e5, hz5⟩ := pes_open hAt
 obtain ⟨_, p, c, e6, h3⟩ := shs_open h.2.2.1.1
 obtain ⟨b, o, rfl, h4, h5, h6⟩ := h3 (by omega)
 obtain ⟨k0, k1⟩ := h6 j x hx
 rw [e5] at k1
 have HX := zh hsx
 obtain ⟨a1, a2, a3, a4, c1, c2, c3, c4, e1, e2, e3, e4⟩ := mm_slices h
 rw [e1, e2, e4, e6]
 have q1 : (j : Int) < (m.parts.2.length : Int) := hs.2
 have q2 : (0 : Int) ≤ (j : Int) := by omega
 generalize m.parts.2.length = np at *
 skip
 obtain ⟨W3, hW3⟩ : ∃ W3, W3 = ((w.alloc (.cells #[.int .i64 m.inn, .int .i64 m.out, .slice a1 m.bans.2.length c1, .slice a2 m.book.2.length c2, .slice (some ⟨b, o, none⟩) np c, .slice a4 m.locks.2.length c4] 40)).alloc (.cells #[.int .i64 6, .int .i64 j, .int .i64 t] 44)).alloc (.cells #[.int .i64 0, .bool false, .int .u64 0, .int .u64 0, .int .i64 0, .bool false, .int .i64 0, .int .i64 0, .int .i64 0, .int .i64 0, .int .i64 0, .slice none 0 0, .slice none 0 0] 54) := ⟨_, rfl⟩
 have B3 : Below w.heap.size w W3 := by subst hW3; exact bel
 have z0 := keep B3 h5 k0
 have z1 := keep B3 h5 k1
 have y2 : W3.cell? ⟨w.heap.size, 4, none⟩ = some (.slice (some ⟨b, o, none⟩) np c) := by subst hW3; simp [go_sem]
 have y3 : W3.cell? ⟨w.heap.size + 1, 1, none⟩ = some (.int .i64 j) := by subst hW3; simp [go_sem]
 have y4 : W3.cell? ⟨w.heap.size + 1, 2, none⟩ = some (.int .i64 t) := by subst hW3; simp [go_sem]
 have hRes : BlockIs W3 (w.heap.size + 1 + 1) [.int .i64 0, .bool false, .int .u64 0, .int .u64 0, .int .i64 0, .bool false, .int .i64 0, .int .i64 0, .int .i64 0, .int .i64 0, .int .i64 0, .slice none 0 0, .slice none 0 0] 54 := by subst hW3; exact BlockIs.newAt' _ [.int .i64 0, .bool false, .int .u64 0, .int .u64 0, .int .i64 0, .bool false, .int .i64 0, .int .i64 0, .int .i64 0, .int .i64 0, .int .i64 0, .slice none 0 0, .slice none 0 0] _ (by simp)
 have zl := hRes.lt
 have hb3 : b < W3.heap.size := Nat.lt_of_lt_of_le h5 B3.size
 rw [hsx]
 rw [hsx] at ho
 have hsl : slotP x.l t = zeroPe := by unfold slotP getAt; rw [if_pos ht, List.getD_eq_getElem?_getD, List.getElem?_eq_none (by omega), Option.getD_none]
 rw [hsl]
 have p1 : ¬ t < (x.l.length : Int) := by omega
 have p2 : decide (t < (x.l.length : Int)) = false := decide_eq_false p1
 clear hsl ho
 clear e1 e2 e3 e4 e5 e6 h hx hsx h3 h6 hAt HX
 go_enter Tryz.func53, Tryz.ntmps53
 go_upto_region 12 with fail
 rw [← hW3]
 clear hW3
 have f1 := fun y => (ext_cell W3 y (p := ⟨w.heap.size, 4, none⟩) (by show w.heap.size < _; omega)).trans y2
 have f2 := fun y => (ext_cell W3 y (p := ⟨w.heap.size + 1, 1, none⟩) (by show w.heap.size + 1 < _; omega)).trans y3
 have f3 := fun y => (ext_cell W3 y (p := ⟨w.heap.size + 1, 2, none⟩) (by show w.heap.size + 1 < _; omega)).trans y4
 have f4 := fun y => (ext_cell W3 y (p := ⟨b, o + j * 2 + 1, none⟩) hb3).trans z1
 refine wp_region_ext (by kernel_rfl) (by kernel_rfl) ?_
 repeat (go_big_quiet_step (fail))
 refine wpQuiet_nil ?_
 intro _ hw'
 obtain ⟨gx, hw''⟩ := hw'
 subst hw''
 have F1 := f1 gx; have F2 := f2 gx; have F3 := f3 gx; have F4 := f4 gx
 have B3 := below2 B3 (ext_below W3 gx)
 have hRes := hRes.below (ext_below W3 gx)
 clear f1 f2 f3 f4 y2 y3 y4 z0 z1 zl
 generalize Go.Proofs.YtnplgagaoeckoaaGreat.ext W3 gx = wo at *
 go_wp2_with (refine list_store_blk rfl 54 _ _ rfl (w.heap.size + 1 + 1) [.int .i64 0, .bool false, .int .u64 0, .int .u64 0, .int .i64 0, .bool false, .int .i64 0, .int .i64 0, .int .i64 0, .int .i64 0, .int .i64 0, .slice none 0 0, .slice none 0 0] _ 54 hRes rfl rfl (by kernel_rfl) rfl (by simp [Value.oneCell']) w.heap.size w B3 (by omega) ?_; intro wz hOz hothz hszz bwz)
 refine bodyPost_named fun W9 h9 => ?_
 have hO9 : BlockIs W9 (w.heap.size + 1 + 1) [.int .i64 0, .bool false, .int .u64 0, .int .u64 0, .int .i64 0, .bool false, .int .i64 0, .int .i64 0, .int .i64 0, .int .i64 0, .int .i64 0, .slice none 0 0, .slice none 0 0] 54 := by subst h9; first | exact hOz | exact rcx hOz
 have b9 : Below w.heap.size w W9 := by subst h9; exact bwz
 clear h9
 obtain ⟨e90, e91, e92, e93, e94, e95, e96, e97, e98, e99, e910, e911, e912⟩ := hO9.e13
 exact bodyPost_ret (v := .agg #[.int .i64 0, .bool false, .int .u64 0, .int .u64 0, .int .i64 0, .bool false, .int .i64 0, .int .i64 0, .int .i64 0, .int .i64 0, .int .i64 0, .slice none 0 0, .slice none 0 0]) (by simp [results, Tryz.results53, go_sem, e90, e91, e92, e93, e94, e95, e96, e97, e98, e99, e910, e911, e912]) rfl ⟨numVm 0, rfl, fun W _ => numVm_at W _, rfl, b9⟩

set_option maxHeartbeats 8000000 in
theorem refLoad_6i (m : Mm) (s t : Int) (w : World) (h : MmAt w m) (hs : 0 ≤ s ∧ s < (m.parts.2.length : Int)) (ht : 0 ≤ t) (ho : t < ((shOf m s).l.length : Int)) :
  Calls Tryz.prog 53 #[.agg #[.int .i64 m.inn, .int .i64 m.out, m.bans.1, m.book.1, m.parts.1, m.locks.1], .agg #[.int .i64 6, .int .i64 s, .int .i64 t]] w (GivesVr m w (loadP m.pl 6 s t)) := by
 unfold GivesVr
 rw [show loadP m.pl 6 s t = { zeroVp with pe := slotP (shOf m s).l t } by unfold loadP; rw [shOf_pl]; rfl]
 have hAt := shOf_at h s
 obtain ⟨j, rfl⟩ : ∃ j : Nat, s = (j : Int) := ⟨s.toNat, by omega⟩
 obtain ⟨x, hx⟩ : ∃ x, m.parts.2[j]? = some x := ⟨_, List.getElem?_eq_getElem (by omega)⟩
 have hsx : shOf m (j : Int) = x := by unfold shOf getAt; rw [if_pos hs.1, Int.toNat_natCast, List.getD_eq_getElem?_getD, hx]; rfl
 rw [hsx] at hAt
 obtain ⟨_, a5, c5, e5, hz5⟩ := pes_open hAt
 obtain ⟨_, p, c, e6, h3⟩ := shs_open h.2.2.1.1
 obtain ⟨b, o, rfl, h4, h5, h6⟩ := h3 (by omega)
 obtain ⟨k0, k1⟩ := h6 j x hx
 rw [e5] at k1
 have HX := zh hsx
 obtain ⟨a1, a2, a3, a4, c1, c2, c3, c4, e1, e2, e3, e4⟩ := mm_slices h
 rw [e1, e2, e4, e6]
 have q1 : (j : Int) < (m.parts.2.length : Int) := hs.2
 have q2 : (0 : Int) ≤ (j : Int) := by omega
 generalize m.parts.2.length = np at *
 obtain ⟨T, rfl⟩ : ∃ T : Nat, t = (T : Int) := ⟨t.toNat, by omega⟩
 obtain ⟨W3, hW3⟩ : ∃ W3, W3 = ((w.alloc (.cells #[.int .i64 m.inn, .int .i64 m.out, .slice a1 m.bans.2.length c1, .slice a2 m.book.2.length c2, .slice (some ⟨b, o, none⟩) np c, .slice a4 m.locks.2.length c4] 40)).alloc (.cells #[.int .i64 6, .int .i64 j, .int .i64 T] 44)).alloc (.cells #[.int .i64 0, .bool false, .int .u64 0, .int .u64 0, .int .i64 0, .bool false, .int .i64 0, .int .i64 0, .int .i64 0, .int .i64 0, .int .i64 0, .slice none 0 0, .slice none 0 0] 54) := ⟨_, rfl⟩
 have B3 : Below w.heap.size w W3 := by subst hW3; exact bel
 have z0 := keep B3 h5 k0
 have z1 := keep B3 h5 k1
 have y2 : W3.cell? ⟨w.heap.size, 4, none⟩ = some (.slice (some ⟨b, o, none⟩) np c) := by subst hW3; simp [go_sem]
 have y3 : W3.cell? ⟨w.heap.size + 1, 1, none⟩ = some (.int .i64 j) := by subst hW3; simp [go_sem]
 have y4 : W3.cell? ⟨w.heap.size + 1, 2, none⟩ = some (.int .i64 T) := by subst hW3; simp [go_sem]
 have hRes : BlockIs W3 (w.heap.size + 1 + 1) [.int .i64 0, .bool false, .int .u64 0, .int .u64 0, .int .i64 0, .bool false, .int .i64 0, .int .i64 0, .int .i64 0, .int .i64 0, .int .i64 0, .slice none 0 0, .slice none 0 0] 54 := by subst hW3; exact BlockIs.newAt' _ [.int .i64 0, .bool false, .int .u64 0, .int .u64 0, .int .i64 0, .bool false, .int .i64 0, .int .i64 0, .int .i64 0, .int .i64 0, .int .i64 0, .slice none 0 0, .slice none 0 0] _ (by simp)
 have zl := hRes.lt
 have hb3 : b < W3.heap.size := Nat.lt_of_lt_of_le h5 B3.size
 rw [hsx]
 rw [hsx] at ho
 obtain ⟨pe, hpe⟩ : ∃ pe, x.l[T]? = some pe := ⟨_, List.getElem?_eq_getElem (by omega)⟩
 have hsl : slotP x.l (T : Int) = pe := by unfold slotP getAt; rw [if_pos ht, Int.toNat_natCast, List.getD_eq_getElem?_getD, hpe, Option.getD_some]
 rw [hsl]
 obtain ⟨b5, o5, rfl, hz6, hz7, hz8⟩ := hz5 (by omega)
 have KX := (hz8 T pe hpe).below B3 hz7
 obtain ⟨xn, hxn⟩ : ∃ n, n = x.l.length := ⟨_, rfl⟩
 rw [← hxn] at ho z1 hz6
 have p1 : (T : Int) < (xn : Int) := ho
 have p2 : decide ((T : Int) < (xn : Int)) = true := decide_eq_true p1
 have p3 : (0 : Int) ≤ (T : Int) := by omega
 have p4 : (T : Int) < (c5 : Int) := by omega
 clear hsl hz5 hz8 hpe hxn k1 k0
 clear e1 e2 e3 e4 e5 e6 h hx hsx h3 h6 hAt HX
 go_enter Tryz.func53, Tryz.ntmps53
 go_upto_region 12 with fail
 rw [← hW3]
 clear hW3
 have f1 := fun y => (ext_cell W3 y (p := ⟨w.heap.size, 4, none⟩) (by show w.heap.size < _; omega)).trans y2
 have f2 := fun y => (ext_cell W3 y (p := ⟨w.heap.size + 1, 1, none⟩) (by show w.heap.size + 1 < _; omega)).trans y3
 have f3 := fun y => (ext_cell W3 y (p := ⟨w.heap.size + 1, 2, none⟩) (by show w.heap.size + 1 < _; omega)).trans y4
 have f4 := fun y => (ext_cell W3 y (p := ⟨b, o + j * 2 + 1, none⟩) hb3).trans z1
 refine wp_region_ext (by kernel_rfl) (by kernel_rfl) ?_
 repeat (go_big_quiet_step (fail))
 refine wpQuiet_nil ?_
 intro _ hw'
 obtain ⟨gx, hw''⟩ := hw'
 subst hw''
 have KX := KX.below (ext_below W3 gx) (Nat.lt_of_lt_of_le hz7 (by have := B3.size; omega))
 have F1 := f1 gx; have F2 := f2 gx; have F3 := f3 gx; have F4 := f4 gx
 have B3 := below2 B3 (ext_below W3 gx)
 have hRes := hRes.below (ext_below W3 gx)
 clear f1 f2 f3 f4 y2 y3 y4 z0 z1 zl
 generalize Go.Proofs.YtnplgagaoeckoaaGreat.ext W3 gx = wo at *
 go_wp2_with fail
 refine wp_region_noPanic ?_
 have hS0 : (fun wq => wq.cell? ⟨w.heap.size, 4, none⟩ = some (.slice (some ⟨b, o, none⟩) np c) ∧ wq.cell? ⟨w.heap.size + 1, 1, none⟩ = some (.int .i64 j) ∧ wq.cell? ⟨w.heap.size + 1, 2, none⟩ = some (.int .i64 T) ∧ wq.cell? ⟨b, o + j * 2 + 1, none⟩ = some (.slice (some ⟨b5, o5, none⟩) xn c5) ∧ wq.rangeAt b5 (o5 + T * 10) [.bool pe.en.ad.v6, .int .u64 pe.en.ad.hi, .int .u64 pe.en.ad.lo, .int .i64 pe.en.port, .bool pe.came, .int .i64 pe.since, .int .i64 pe.pts, .int .i64 pe.at_, .int .i64 pe.ping, .int .i64 pe.work]) wo.drew := ⟨F1, F2, F3, F4, range_pe KX⟩
 refine wp_region_headH (fun wq => wq.cell? ⟨w.heap.size, 4, none⟩ = some (.slice (some ⟨b, o, none⟩) np c) ∧ wq.cell? ⟨w.heap.size + 1, 1, none⟩ = some (.int .i64 j) ∧ wq.cell? ⟨w.heap.size + 1, 2, none⟩ = some (.int .i64 T) ∧ wq.cell? ⟨b, o + j * 2 + 1, none⟩ = some (.slice (some ⟨b5, o5, none⟩) xn c5) ∧ wq.rangeAt b5 (o5 + T * 10) [.bool pe.en.ad.v6, .int .u64 pe.en.ad.hi, .int .u64 pe.en.ad.lo, .int .i64 pe.en.port, .bool pe.came, .int .i64 pe.since, .int .i64 pe.pts, .int .i64 pe.at_, .int .i64 pe.ping, .int .i64 pe.work]) 12 (by kernel_rfl) (by kernel_rfl) ?_
 refine hP 0 rfl ?_
 refine hP 1 rfl ?_
 refine hP 2 rfl ?_
 refine hP 3 rfl ?_
 refine hP 4 rfl ?_
 refine hP 5 rfl ?_
 refine hP 6 rfl ?_
 refine hP 7 rfl ?_
 refine hP 8 rfl ?_
 refine hP 9 rfl ?_
 refine hQ 10 rfl (yieldsIf_load_mid (by rfl) _ _ rfl _ _ rfl _ _ (fun wq hq => hq.2.2.2.2) Tryz.underlying52 rfl (by kernel_rfl)) ?_
 refine hP 11 rfl ?_
 refine headH_done (by kernel_rfl) ?_
 simp only [List.drop_succ_cons, List.drop_zero]
 go_wp2_with (refine list_store_blk rfl 54 _ _ rfl (w.heap.size + 1 + 1) [.int .i64 0, .bool false, .int .u64 0, .int .u64 0, .int .i64 0, .bool false, .int .i64 0, .int .i64 0, .int .i64 0, .int .i64 0, .int .i64 0, .slice none 0 0, .slice none 0 0] _ 54 (BlockIs.drew' hRes) rfl rfl (by kernel_rfl) rfl (by simp [Value.oneCell']) w.heap.size w (Below.drew B3) (by omega) ?_; intro wz hOz hothz hszz bwz)
 refine NoPanic.normal ?_
 go_wp2_with fail
 refine bodyPost_named fun W9 h9 => ?_
 have hO9 : BlockIs W9 (w.heap.size + 1 + 1) [.int .i64 0, .bool pe.en.ad.v6, .int .u64 pe.en.ad.hi, .int .u64 pe.en.ad.lo, .int .i64 pe.en.port, .bool pe.came, .int .i64 pe.since, .int .i64 pe.pts, .int .i64 pe.at_, .int .i64 pe.ping, .int .i64 pe.work, .slice none 0 0, .slice none 0 0] 54 := by subst h9; first | exact hOz | exact rcx hOz
 have b9 : Below w.heap.size w W9 := by subst h9; exact bwz
 clear h9
 obtain ⟨e90, e91, e92, e93, e94, e95, e96, e97, e98, e99, e910, e911, e912⟩ := hO9.e13
 exact bodyPost_ret (v := .agg #[.int .i64 0, .bool pe.en.ad.v6, .int .u64 pe.en.ad.hi, .int .u64 pe.en.ad.lo, .int .i64 pe.en.port, .bool pe.came, .int .i64 pe.since, .int .i64 pe.pts, .int .i64 pe.at_, .int .i64 pe.ping, .int .i64 pe.work, .slice none 0 0, .slice none 0 0]) (by simp [results, Tryz.results53, go_sem, e90, e91, e92, e93, e94, e95, e96, e97, e98, e99, e910, e911, e912]) rfl ⟨⟨0, pe, (.slice none 0 0, []), (.slice none 0 0, [])⟩, rfl, fun W _ => ⟨ReadsL.nil _ _ _ _ _, ReadsL.nil _ _ _ _ _⟩, rfl, b9⟩

theorem refLoad_any (m : Mm) (k s t : Int) (w : World) (h : MmAt w m) (h16 : 1 ≤ k ∧ k ≤ 6) (hs : k = 5 ∨ k = 6 → 0 ≤ s ∧ s < (m.parts.2.length : Int)) (ht : k = 6 → 0 ≤ t) :
  Calls Tryz.prog 53 #[.agg #[.int .i64 m.inn, .int .i64 m.out, m.bans.1, m.book.1, m.parts.1, m.locks.1], .agg #[.int .i64 k, .int .i64 s, .int .i64 t]] w (GivesVr m w (loadP m.pl k s t)) := by
 rcases (show k = 1 ∨ k = 2 ∨ k = 3 ∨ k = 4 ∨ k = 5 ∨ k = 6 by omega) with rfl | rfl | rfl | rfl | rfl | rfl
 ·exact refLoad_1 m s t w h
 ·exact refLoad_2 m s t w h
 ·exact refLoad_3 m s t w h
 ·exact refLoad_4 m s t w h
 ·exact refLoad_5 m s t w h (hs (Or.inl rfl))
 ·rcases Int.lt_or_le t ((shOf m s).l.length : Int) with ho | ho
  ·exact refLoad_6i m s t w h (hs (Or.inr rfl)) (ht rfl) ho
  ·exact refLoad_6o m s t w h (hs (Or.inr rfl)) (ht rfl) ho

/-- a row of pairs of the call's own that is not empty, opened -/
theorem owns_open2 {w : World} {B n : Nat} {ty : TypeId} {r : Value} {xs : List Value} (hn : 0 < n) (ho : w.ownsRow B ty 2 r n xs) : ∃ (g cap : Nat) (cur : List Value), r = .slice (some ⟨g, 0, none⟩) n cap ∧ B ≤ g ∧ g < w.heap.size ∧ n ≤ cap ∧ cap ≤ maxLen ∧ RowBlk w ty g cap 2 cur ∧ cur.take (n * 2) = xs := by
 have hv : ∃ g cap, r = .slice (some ⟨g, 0, none⟩) n cap := by
  rcases ho.2 with ⟨_, h0⟩ | ⟨g, cap, _, rfl, _⟩
  ·omega
  ·exact ⟨_, _, rfl⟩
 obtain ⟨g, cap, rfl⟩ := hv
 obtain ⟨h1, h2, h3, cur, h4, h5⟩ := owns_blk2 ho
 exact ⟨g, cap, cur, rfl, h1, (ho.lt g rfl).2, h2, h3, h4, h5⟩
set_option maxHeartbeats 8000000 in
theorem ref_with_in (w0 : World → Prop) (hg : Grows w0) (B : Nat) (m : Mm) (n : Nat) (k : Lk) (w : World) (hb0 : w0 w) (hB : B ≤ w.heap.size) (hm : ∀ W, w0 W → MmAt W m) (hk : Firm w0 B w fun W => ReadsL inV 1 W k.v k.l) (hn : n < m.locks.2.length) (hl : m.locks.2.length ≤ 1000) :
  Calls Tryz.prog 50 #[.agg #[.int .i64 m.inn, .int .i64 m.out, m.bans.1, m.book.1, m.parts.1, m.locks.1], .int .i64 n, .agg #[.int .i64 k.b, k.v]] w fun e w' => ∃ v, e = .returned (.agg #[.int .i64 ({ m with locks := (v, m.locks.2.set n k) }).inn, .int .i64 ({ m with locks := (v, m.locks.2.set n k) }).out, ({ m with locks := (v, m.locks.2.set n k) }).bans.1, ({ m with locks := (v, m.locks.2.set n k) }).book.1, ({ m with locks := (v, m.locks.2.set n k) }).parts.1, ({ m with locks := (v, m.locks.2.set n k) }).locks.1]) ∧ Firm w0 B w' (fun W => MmAt W { m with locks := (v, m.locks.2.set n k) }) ∧ Below w.heap.size w w' := by
 have h := hm w hb0
 have HM := zh hm
 have HK := zh hk
 obtain ⟨a1, a2, a3, a4, c1, c2, c3, c4, e1, e2, e3, e4⟩ := mm_slices h
 obtain ⟨_, a5, c5, e5, _⟩ := ins_open (hk.now hb0)
 have HC := zh (fun (W : World) (hb : Below w.heap.size w W) => ReadsL.below h.2.2.2.1 hb)
 have HO := zh (lkV_ones h.2.2.2.2)
 have hV : lkV k = [.int .i64 k.b, k.v] := rfl
 have HV := zh hV
 simp only [e1, e2, e3, e4] at HC ⊢
 rw [e5] at hV ⊢
 clear e1 e2 e3 e4 h hk hV hm hg
 obtain ⟨x0, x1, ⟨y1, z1⟩, ⟨y2, z2⟩, ⟨y3, z3⟩, ⟨y4, z4⟩⟩ := m
 simp only at *
 obtain ⟨L, hL⟩ : ∃ L, L = z4 := ⟨_, rfl⟩
 subst hL
 obtain ⟨n1, hn1, n2, hn2, n3, hno⟩ := nz3 z1.length z2.length z3.length
 rw [← hn1, ← hn2, ← hno]
 generalize hkb : k.b = kb at *
 generalize hkl : k.l.length = kn at *
 obtain ⟨HE5, HN1, HN2, HNO, HKB, HKL⟩ := zh6 e5 hn1 hn2 hno hkb hkl
 clear e5 hn1 hn2 hno hkb hkl
 have q1 : ¬ (n : Int) < 0 := by omega
 have q2 : ¬ (L.length : Int) ≤ (n : Int) := by omega
 have q3 : (n : Int) < (L.length : Int) := by omega
 have q4 : (0 : Int) ≤ (n : Int) := by omega
 have hpos : 0 < L.length := by omega
 go_enter Tryz.func50, Tryz.ntmps50
 go_upto_region 1 with fail
 refine wpn3 fun W4 B4 hBox4 hKb4 hRes4 hs4 => ?_
 obtain ⟨m00, m01, m02, m03, m04, m05⟩ := hBox4.e6; have m0f := hBox4.frozen; have m0l := hBox4.lt; obtain ⟨k00, k01⟩ := hKb4.e2; have k0f := hKb4.frozen; have k0l := hKb4.lt; obtain ⟨r00, r01, r02, r03, r04, r05⟩ := hRes4.e6; have r0f := hRes4.frozen; have r0l := hRes4.lt
 go_wp2_with (at_builtin; refine list_app_reads_at rowLk rfl _ _ rfl W4.heap.size _ 0 [] rfl (own_made hs4.symm (Nat.le_refl _)) _ L.length (L.flatMap lkV) rfl (HC.out _ (B4.alloc B4.size _)) HO.out (by omega) (by omega) (by simp) ?_; intro v7 w7 o7 g7 a7; have b7 : Below W4.heap.size W4 w7 := below_grown (own_made (e := 90) (size := 2) hs4.symm (Nat.le_refl _)) ((Below.refl _ _).alloc (Nat.le_refl _) _) (Nat.le_refl _) (by simp) g7; rw [Nat.zero_add, List.nil_append] at o7; obtain ⟨g, cap, cur, rfl, hBg, hgl, hnc, hcm, hR, hcur⟩ := owns_open2 hpos o7; have b1 := below2 B4 b7; have zz1 := b7.size; have hRB : BlockIs w7 g cur 90 := hR.1; have hcl := hR.2; obtain ⟨HR, HCUR⟩ := zh2 hR hcur; have g0 := hRB.cell (i := n * 2) (List.getElem?_eq_getElem (by omega)); have g1 := hRB.cell (i := n * 2 + 1) (List.getElem?_eq_getElem (by omega)); have gf := hRB.frozen; have hBox := hBox4.below b7; have hKb := hKb4.below b7; have hRes := hRes4.below b7; clear m00 m01 m02 m03 m04 m05 m0f m0l k00 k01 k0f k0l r00 r01 r02 r03 r04 r05 r0f r0l; obtain ⟨m00, m01, m02, m03, m04, m05⟩ := hBox.e6; have m0f := hBox.frozen; have m0l := hBox.lt; obtain ⟨k00, k01⟩ := hKb.e2; have k0f := hKb.frozen; have k0l := hKb.lt; obtain ⟨r00, r01, r02, r03, r04, r05⟩ := hRes.e6; have r0f := hRes.frozen; have r0l := hRes.lt; have nB : w.heap.size ≠ g := (by omega); have nB2 : g ≠ w.heap.size := (by omega); have nB3 : g ≠ w.heap.size + 1 := (by omega); have nB4 : g ≠ w.heap.size + 1 + 1 := (by omega))
 refine bodyPost_named fun W9 h9 => ?_
 have hRes9 : BlockIs W9 (w.heap.size + 1 + 1) [.int .i64 x0, .int .i64 x1, .slice a1 n1 c1, .slice a2 n2 c2, .slice a3 n3 c3, .slice (some ⟨g, 0, none⟩) L.length cap] 40 := by subst h9; exact rcx hRes
 have hG9 : BlockIs W9 g ((cur.set (n * 2) (.int .i64 kb)).set (n * 2 + 1) (.slice a5 kn c5)) 90 := by subst h9; exact rcx hRB
 have b9 : Below w.heap.size w W9 := by subst h9; exact bel
 clear h9
 obtain ⟨e90, e91, e92, e93, e94, e95⟩ := hRes9.e6
 have hx : lkV k = [.int .i64 kb, .slice a5 kn c5] := by rw [HV.out, HE5.out]
 have ho := owns_set2 lkV_two hx HR.out HCUR.out hn hnc hcm (Nat.le_refl g) hG9
 have hF : Firm w0 B W9 (fun W => MmAt W ⟨x0, x1, (y1, z1), (y2, z2), (y3, z3), (.slice (some ⟨g, 0, none⟩) L.length cap, L.set n k)⟩) := fun W h0 hkp => by
  have hmm := HM.out W h0
  have ho2 := owns_held ho fun g' arr hg hb => hkp g' arr _ (by omega) hb
  have hnew : ReadsLk W (.slice (some ⟨g, 0, none⟩) L.length cap) (L.set n k) := ⟨by unfold ReadsL; rw [List.length_set]; exact owns_reads ho2, fun q hq => by
   rcases List.mem_or_eq_of_mem_set hq with hq | rfl
   ·exact hmm.2.2.2.2 q hq
   ·exact HK.out W h0 fun b arr T h1 h2 => hkp b arr T h1 (h2.below b9)⟩
  exact ⟨hmm.1, hmm.2.1, hmm.2.2.1, hnew⟩
 exact bodyPost_ret (v := .agg #[.int .i64 x0, .int .i64 x1, .slice a1 n1 c1, .slice a2 n2 c2, .slice a3 n3 c3, .slice (some ⟨g, 0, none⟩) L.length cap]) (by simp [results, Tryz.results50, go_sem, e90, e91, e92, e93, e94, e95]) rfl ⟨_, rfl, hF, b9⟩
end Go.Proofs.YtnplgagaoeckoaaGreat
