/- Texts put together: MemC, MemF. No condition. -/
import Derived.Test.YtnplgagaoeckoaaGreatRnpousohjol
import Derived.Deep.RegionHeld3
import Derived.Deep.RegionWith
import Derived.BigRegion
import Derived.Test.YtnplgagaoeckoaaGreatRjfjqandfij
namespace Go.Proofs.YtnplgagaoeckoaaGreat
open Go.RowKit
set_option linter.unusedSimpArgs false
set_option linter.unusedVariables false

structure Vm where
  n : Int
  pe : Pe
  bans : Value × List Ba
  book : Value × List Ey
def Vm.pl (v : Vm) : Vp := ⟨v.n, v.pe, v.bans.2, v.book.2⟩
def VmAt (w : World) (v : Vm) : Prop := ReadsL baV 5 w v.bans.1 v.bans.2 ∧ ReadsL eyV 7 w v.book.1 v.book.2
theorem VmAt.below {w w' : World} {v : Vm} (h : VmAt w v) (hb : Below w.heap.size w w') : VmAt w' v := ⟨ReadsL.below h.1 hb, ReadsL.below h.2 hb⟩
def numVm (n : Int) : Vm := ⟨n, zeroPe, (.slice none 0 0, []), (.slice none 0 0, [])⟩
theorem numVm_at (w : World) (n : Int) : VmAt w (numVm n) := ⟨ReadsL.nil _ _ _ _ _, ReadsL.nil _ _ _ _ _⟩
theorem owns_oth {w w' : World} {base B n size : Nat} {e : TypeId} {v : Value} {xs : List Value} (h : w.ownsRow base e size v n xs) (hoth : ∀ k arr u, k ≠ B → BlockIs w k arr u → BlockIs w' k arr u) (hB : B < base) : w'.ownsRow base e size v n xs := by
  refine ⟨h.1, ?_⟩
  rcases h.2 with h2 | ⟨g, cap, cur, rfl, hg, hh, r⟩
  · exact Or.inl h2
  · exact Or.inr ⟨g, cap, cur, rfl, hg, hoth g _ _ (by omega) hh, r⟩
theorem eyV_ones (l : List Ey) : ∀ u ∈ l.flatMap eyV, u.oneCell' = true := by
  intro u hu
  obtain ⟨p, _, hp⟩ := List.mem_flatMap.1 hu
  unfold eyV at hp
  simp only [List.mem_cons, List.not_mem_nil, or_false] at hp
  rcases hp with rfl | rfl | rfl | rfl | rfl | rfl | rfl <;> rfl
theorem baV_onesM (l : List Ba) : ∀ u ∈ l.flatMap baV, u.oneCell' = true := by
  intro u hu
  obtain ⟨p, _, hp⟩ := List.mem_flatMap.1 hu
  unfold baV at hp
  simp only [List.mem_cons, List.not_mem_nil, or_false] at hp
  rcases hp with rfl | rfl | rfl | rfl | rfl <;> rfl
set_option maxRecDepth 100000 in
set_option maxHeartbeats 8000000 in
theorem memSlot_any (s : Sh) (t : Int) (w : World) (h : ReadsL peV 10 w s.v s.l) (ht : 0 ≤ t) :
    Calls Tryz.prog 74 #[.agg #[.int .i64 s.size, s.v], .int .i64 t] w fun e w' => e = .returned (.agg #[.bool ((slotP s.l t)).en.ad.v6, .int .u64 ((slotP s.l t)).en.ad.hi, .int .u64 ((slotP s.l t)).en.ad.lo, .int .i64 ((slotP s.l t)).en.port, .bool ((slotP s.l t)).came, .int .i64 ((slotP s.l t)).since, .int .i64 ((slotP s.l t)).pts, .int .i64 ((slotP s.l t)).at_, .int .i64 ((slotP s.l t)).ping, .int .i64 ((slotP s.l t)).work]) ∧ Below w.heap.size w w' := by
  obtain ⟨hm, p, c, e1, h3⟩ := pes_open h
  obtain ⟨j, rfl⟩ : ∃ j : Nat, t = (j : Int) := ⟨t.toNat, by omega⟩
  have hs : slotP s.l (j : Int) = s.l.getD j zeroPe := by unfold slotP getAt; rw [if_pos ht, Int.toNat_natCast]
  rw [hs, e1]
  clear e1 h hs ht
  generalize s.size = z
  generalize s.l = l at *
  rcases Nat.lt_or_ge j l.length with hj | hj
  · obtain ⟨x, hx⟩ : ∃ x, l[j]? = some x := ⟨_, List.getElem?_eq_getElem hj⟩
    obtain ⟨b, o, rfl, h4, h5, h6⟩ := h3 (by omega)
    obtain ⟨k0, k1, k2, k3, k4, k5, k6, k7, k8, k9⟩ := h6 j x hx
    rw [List.getD_eq_getElem?_getD, hx, Option.getD_some]
    have q1 : ¬ (l.length : Int) ≤ (j : Int) := by omega
    have q2 : (j : Int) < (l.length : Int) := by omega
    have q3 : (0 : Int) ≤ (j : Int) := by omega
    clear hx h3 h6
    go_enter Tryz.func74, Tryz.ntmps74
    go_wp2_with fail
    refine bodyPost_named fun W9 h9 => ?_
    have e90 : W9.cell? ⟨w.heap.size + 1, 0, none⟩ = some (.bool x.en.ad.v6) := by subst h9; (first | (simp [go_sem, *]; done) | (simp (disch := first | omega | (simp; omega) | (simp [go_sem, *]; done)) [go_sem, World.cell?_setCell_far, World.cell?_alloc_past, *]; done))
    have e91 : W9.cell? ⟨w.heap.size + 1, 1, none⟩ = some (.int .u64 x.en.ad.hi) := by subst h9; (first | (simp [go_sem, *]; done) | (simp (disch := first | omega | (simp; omega) | (simp [go_sem, *]; done)) [go_sem, World.cell?_setCell_far, World.cell?_alloc_past, *]; done))
    have e92 : W9.cell? ⟨w.heap.size + 1, 2, none⟩ = some (.int .u64 x.en.ad.lo) := by subst h9; (first | (simp [go_sem, *]; done) | (simp (disch := first | omega | (simp; omega) | (simp [go_sem, *]; done)) [go_sem, World.cell?_setCell_far, World.cell?_alloc_past, *]; done))
    have e93 : W9.cell? ⟨w.heap.size + 1, 3, none⟩ = some (.int .i64 x.en.port) := by subst h9; (first | (simp [go_sem, *]; done) | (simp (disch := first | omega | (simp; omega) | (simp [go_sem, *]; done)) [go_sem, World.cell?_setCell_far, World.cell?_alloc_past, *]; done))
    have e94 : W9.cell? ⟨w.heap.size + 1, 4, none⟩ = some (.bool x.came) := by subst h9; (first | (simp [go_sem, *]; done) | (simp (disch := first | omega | (simp; omega) | (simp [go_sem, *]; done)) [go_sem, World.cell?_setCell_far, World.cell?_alloc_past, *]; done))
    have e95 : W9.cell? ⟨w.heap.size + 1, 5, none⟩ = some (.int .i64 x.since) := by subst h9; (first | (simp [go_sem, *]; done) | (simp (disch := first | omega | (simp; omega) | (simp [go_sem, *]; done)) [go_sem, World.cell?_setCell_far, World.cell?_alloc_past, *]; done))
    have e96 : W9.cell? ⟨w.heap.size + 1, 6, none⟩ = some (.int .i64 x.pts) := by subst h9; (first | (simp [go_sem, *]; done) | (simp (disch := first | omega | (simp; omega) | (simp [go_sem, *]; done)) [go_sem, World.cell?_setCell_far, World.cell?_alloc_past, *]; done))
    have e97 : W9.cell? ⟨w.heap.size + 1, 7, none⟩ = some (.int .i64 x.at_) := by subst h9; (first | (simp [go_sem, *]; done) | (simp (disch := first | omega | (simp; omega) | (simp [go_sem, *]; done)) [go_sem, World.cell?_setCell_far, World.cell?_alloc_past, *]; done))
    have e98 : W9.cell? ⟨w.heap.size + 1, 8, none⟩ = some (.int .i64 x.ping) := by subst h9; (first | (simp [go_sem, *]; done) | (simp (disch := first | omega | (simp; omega) | (simp [go_sem, *]; done)) [go_sem, World.cell?_setCell_far, World.cell?_alloc_past, *]; done))
    have e99 : W9.cell? ⟨w.heap.size + 1, 9, none⟩ = some (.int .i64 x.work) := by subst h9; (first | (simp [go_sem, *]; done) | (simp (disch := first | omega | (simp; omega) | (simp [go_sem, *]; done)) [go_sem, World.cell?_setCell_far, World.cell?_alloc_past, *]; done))
    have b9 : Below w.heap.size w W9 := by subst h9; exact bel
    clear h9
    refine bodyPost_ret (v := .agg #[.bool x.en.ad.v6, .int .u64 x.en.ad.hi, .int .u64 x.en.ad.lo, .int .i64 x.en.port, .bool x.came, .int .i64 x.since, .int .i64 x.pts, .int .i64 x.at_, .int .i64 x.ping, .int .i64 x.work]) (by simp [results, Tryz.results74, go_sem, e90, e91, e92, e93, e94, e95, e96, e97, e98, e99]) rfl ⟨?_, b9⟩
    rfl
  · rw [List.getD_eq_getElem?_getD, List.getElem?_eq_none hj, Option.getD_none]
    unfold zeroPe zeroEn
    simp only [show ((0 : Nat) : Int) = 0 from rfl]
    have q1 : (l.length : Int) ≤ (j : Int) := by omega
    clear h3
    go_enter Tryz.func74, Tryz.ntmps74
    go_wp2_with fail
    refine bodyPost_named fun W9 h9 => ?_
    have e90 : W9.cell? ⟨w.heap.size + 1, 0, none⟩ = some (.bool false) := by subst h9; (first | (simp [go_sem, *]; done) | (simp (disch := first | omega | (simp; omega) | (simp [go_sem, *]; done)) [go_sem, World.cell?_setCell_far, World.cell?_alloc_past, *]; done))
    have e91 : W9.cell? ⟨w.heap.size + 1, 1, none⟩ = some (.int .u64 0) := by subst h9; (first | (simp [go_sem, *]; done) | (simp (disch := first | omega | (simp; omega) | (simp [go_sem, *]; done)) [go_sem, World.cell?_setCell_far, World.cell?_alloc_past, *]; done))
    have e92 : W9.cell? ⟨w.heap.size + 1, 2, none⟩ = some (.int .u64 0) := by subst h9; (first | (simp [go_sem, *]; done) | (simp (disch := first | omega | (simp; omega) | (simp [go_sem, *]; done)) [go_sem, World.cell?_setCell_far, World.cell?_alloc_past, *]; done))
    have e93 : W9.cell? ⟨w.heap.size + 1, 3, none⟩ = some (.int .i64 0) := by subst h9; (first | (simp [go_sem, *]; done) | (simp (disch := first | omega | (simp; omega) | (simp [go_sem, *]; done)) [go_sem, World.cell?_setCell_far, World.cell?_alloc_past, *]; done))
    have e94 : W9.cell? ⟨w.heap.size + 1, 4, none⟩ = some (.bool false) := by subst h9; (first | (simp [go_sem, *]; done) | (simp (disch := first | omega | (simp; omega) | (simp [go_sem, *]; done)) [go_sem, World.cell?_setCell_far, World.cell?_alloc_past, *]; done))
    have e95 : W9.cell? ⟨w.heap.size + 1, 5, none⟩ = some (.int .i64 0) := by subst h9; (first | (simp [go_sem, *]; done) | (simp (disch := first | omega | (simp; omega) | (simp [go_sem, *]; done)) [go_sem, World.cell?_setCell_far, World.cell?_alloc_past, *]; done))
    have e96 : W9.cell? ⟨w.heap.size + 1, 6, none⟩ = some (.int .i64 0) := by subst h9; (first | (simp [go_sem, *]; done) | (simp (disch := first | omega | (simp; omega) | (simp [go_sem, *]; done)) [go_sem, World.cell?_setCell_far, World.cell?_alloc_past, *]; done))
    have e97 : W9.cell? ⟨w.heap.size + 1, 7, none⟩ = some (.int .i64 0) := by subst h9; (first | (simp [go_sem, *]; done) | (simp (disch := first | omega | (simp; omega) | (simp [go_sem, *]; done)) [go_sem, World.cell?_setCell_far, World.cell?_alloc_past, *]; done))
    have e98 : W9.cell? ⟨w.heap.size + 1, 8, none⟩ = some (.int .i64 0) := by subst h9; (first | (simp [go_sem, *]; done) | (simp (disch := first | omega | (simp; omega) | (simp [go_sem, *]; done)) [go_sem, World.cell?_setCell_far, World.cell?_alloc_past, *]; done))
    have e99 : W9.cell? ⟨w.heap.size + 1, 9, none⟩ = some (.int .i64 0) := by subst h9; (first | (simp [go_sem, *]; done) | (simp (disch := first | omega | (simp; omega) | (simp [go_sem, *]; done)) [go_sem, World.cell?_setCell_far, World.cell?_alloc_past, *]; done))
    have b9 : Below w.heap.size w W9 := by subst h9; exact bel
    clear h9
    refine bodyPost_ret (v := .agg #[.bool false, .int .u64 0, .int .u64 0, .int .i64 0, .bool false, .int .i64 0, .int .i64 0, .int .i64 0, .int .i64 0, .int .i64 0]) (by simp [results, Tryz.results74, go_sem, e90, e91, e92, e93, e94, e95, e96, e97, e98, e99]) rfl ⟨?_, b9⟩
    rfl
def shOf (m : Mm) (k : Int) : Sh := getAt m.parts.2 k ⟨0, .slice none 0 0, []⟩
theorem shOf_pl (m : Mm) (k : Int) : partP m.pl k = ((shOf m k).size, (shOf m k).l) := getAt_map (fun k : Sh => (k.size, k.l)) m.parts.2 k ⟨0, .slice none 0 0, []⟩
theorem shOf_at {w : World} {m : Mm} (h : MmAt w m) (k : Int) : ReadsL peV 10 w (shOf m k).v (shOf m k).l := by
  rcases getAt_mem (l := m.parts.2) (k := k) (d := (⟨0, .slice none 0 0, []⟩ : Sh)) with e | e
  · exact h.2.2.1.2 _ e
  · unfold shOf; rw [e]; exact ReadsL.nil _ _ _ _ _
def GivesVm (w : World) (r : Vp) (e : Ending) (w' : World) : Prop := ∃ v : Vm, e = .returned (.agg #[.int .i64 v.n, .bool v.pe.en.ad.v6, .int .u64 v.pe.en.ad.hi, .int .u64 v.pe.en.ad.lo, .int .i64 v.pe.en.port, .bool v.pe.came, .int .i64 v.pe.since, .int .i64 v.pe.pts, .int .i64 v.pe.at_, .int .i64 v.pe.ping, .int .i64 v.pe.work, v.bans.1, v.book.1]) ∧ (∀ w0 B, B ≤ w.heap.size → Firm w0 B w' fun W => VmAt W v) ∧ v.pl = r ∧ Below w.heap.size w w'

set_option maxRecDepth 100000 in
set_option maxHeartbeats 8000000 in
theorem memLoad_1 (m : Mm) (s t : Int) (w : World) (h : MmAt w m) :
    Calls Tryz.prog 47 #[.agg #[.int .i64 m.inn, .int .i64 m.out, m.bans.1, m.book.1, m.parts.1, m.locks.1], .agg #[.int .i64 1, .int .i64 s, .int .i64 t]] w (GivesVm w (loadP m.pl 1 s t)) := by
  unfold GivesVm
  obtain ⟨a1, a2, a3, a4, c1, c2, c3, c4, e1, e2, e3, e4⟩ := mm_slices h
  rw [e1, e2, e3, e4]
  clear e1 e2 e3 e4 h
  go_enter Tryz.func47, Tryz.ntmps47
  go_wp2_with (refine list_store_blk rfl 54 _ _ rfl (w.heap.size + 1 + 1) [.int .i64 0, .bool false, .int .u64 0, .int .u64 0, .int .i64 0, .bool false, .int .i64 0, .int .i64 0, .int .i64 0, .int .i64 0, .int .i64 0, .slice none 0 0, .slice none 0 0] _ 54 (BlockIs.newAt' _ [.int .i64 0, .bool false, .int .u64 0, .int .u64 0, .int .i64 0, .bool false, .int .i64 0, .int .i64 0, .int .i64 0, .int .i64 0, .int .i64 0, .slice none 0 0, .slice none 0 0] _ (by simp)) rfl rfl (by kernel_rfl) rfl (by simp [Value.oneCell']) w.heap.size w (by exact bel) (by omega) ?_; intro wz hOz hothz hszz bwz)
  refine bodyPost_named fun W9 h9 => ?_
  have hO9 : BlockIs W9 (w.heap.size + 1 + 1) [.int .i64 m.inn, .bool false, .int .u64 0, .int .u64 0, .int .i64 0, .bool false, .int .i64 0, .int .i64 0, .int .i64 0, .int .i64 0, .int .i64 0, .slice none 0 0, .slice none 0 0] 54 := by subst h9; first | exact hOz | ((refine RchW.get ?_); (repeat (first | with_reducible refine reach_set ?_ | with_reducible refine reach_other (by first | assumption | omega) ?_ | with_reducible refine reach_alloc ?_ | with_reducible refine reach_drew ?_)); exact reach_at (hOz) rfl)
  have b9 : Below w.heap.size w W9 := by subst h9; exact bwz
  clear h9
  have e90 := hO9.cell (i := 0) rfl; have e91 := hO9.cell (i := 1) rfl; have e92 := hO9.cell (i := 2) rfl; have e93 := hO9.cell (i := 3) rfl; have e94 := hO9.cell (i := 4) rfl; have e95 := hO9.cell (i := 5) rfl; have e96 := hO9.cell (i := 6) rfl; have e97 := hO9.cell (i := 7) rfl; have e98 := hO9.cell (i := 8) rfl; have e99 := hO9.cell (i := 9) rfl; have e910 := hO9.cell (i := 10) rfl; have e911 := hO9.cell (i := 11) rfl; have e912 := hO9.cell (i := 12) rfl
  exact bodyPost_ret (v := .agg #[.int .i64 m.inn, .bool false, .int .u64 0, .int .u64 0, .int .i64 0, .bool false, .int .i64 0, .int .i64 0, .int .i64 0, .int .i64 0, .int .i64 0, .slice none 0 0, .slice none 0 0]) (by simp [results, Tryz.results47, go_sem, e90, e91, e92, e93, e94, e95, e96, e97, e98, e99, e910, e911, e912]) rfl ⟨numVm m.inn, rfl, fun _ _ _ _ _ _ => numVm_at _ _, rfl, b9⟩

set_option maxRecDepth 100000 in
set_option maxHeartbeats 8000000 in
theorem memLoad_2 (m : Mm) (s t : Int) (w : World) (h : MmAt w m) :
    Calls Tryz.prog 47 #[.agg #[.int .i64 m.inn, .int .i64 m.out, m.bans.1, m.book.1, m.parts.1, m.locks.1], .agg #[.int .i64 2, .int .i64 s, .int .i64 t]] w (GivesVm w (loadP m.pl 2 s t)) := by
  unfold GivesVm
  obtain ⟨a1, a2, a3, a4, c1, c2, c3, c4, e1, e2, e3, e4⟩ := mm_slices h
  rw [e1, e2, e3, e4]
  clear e1 e2 e3 e4 h
  go_enter Tryz.func47, Tryz.ntmps47
  go_wp2_with (refine list_store_blk rfl 54 _ _ rfl (w.heap.size + 1 + 1) [.int .i64 0, .bool false, .int .u64 0, .int .u64 0, .int .i64 0, .bool false, .int .i64 0, .int .i64 0, .int .i64 0, .int .i64 0, .int .i64 0, .slice none 0 0, .slice none 0 0] _ 54 (BlockIs.newAt' _ [.int .i64 0, .bool false, .int .u64 0, .int .u64 0, .int .i64 0, .bool false, .int .i64 0, .int .i64 0, .int .i64 0, .int .i64 0, .int .i64 0, .slice none 0 0, .slice none 0 0] _ (by simp)) rfl rfl (by kernel_rfl) rfl (by simp [Value.oneCell']) w.heap.size w (by exact bel) (by omega) ?_; intro wz hOz hothz hszz bwz)
  refine bodyPost_named fun W9 h9 => ?_
  have hO9 : BlockIs W9 (w.heap.size + 1 + 1) [.int .i64 m.out, .bool false, .int .u64 0, .int .u64 0, .int .i64 0, .bool false, .int .i64 0, .int .i64 0, .int .i64 0, .int .i64 0, .int .i64 0, .slice none 0 0, .slice none 0 0] 54 := by subst h9; first | exact hOz | ((refine RchW.get ?_); (repeat (first | with_reducible refine reach_set ?_ | with_reducible refine reach_other (by first | assumption | omega) ?_ | with_reducible refine reach_alloc ?_ | with_reducible refine reach_drew ?_)); exact reach_at (hOz) rfl)
  have b9 : Below w.heap.size w W9 := by subst h9; exact bwz
  clear h9
  have e90 := hO9.cell (i := 0) rfl; have e91 := hO9.cell (i := 1) rfl; have e92 := hO9.cell (i := 2) rfl; have e93 := hO9.cell (i := 3) rfl; have e94 := hO9.cell (i := 4) rfl; have e95 := hO9.cell (i := 5) rfl; have e96 := hO9.cell (i := 6) rfl; have e97 := hO9.cell (i := 7) rfl; have e98 := hO9.cell (i := 8) rfl; have e99 := hO9.cell (i := 9) rfl; have e910 := hO9.cell (i := 10) rfl; have e911 := hO9.cell (i := 11) rfl; have e912 := hO9.cell (i := 12) rfl
  exact bodyPost_ret (v := .agg #[.int .i64 m.out, .bool false, .int .u64 0, .int .u64 0, .int .i64 0, .bool false, .int .i64 0, .int .i64 0, .int .i64 0, .int .i64 0, .int .i64 0, .slice none 0 0, .slice none 0 0]) (by simp [results, Tryz.results47, go_sem, e90, e91, e92, e93, e94, e95, e96, e97, e98, e99, e910, e911, e912]) rfl ⟨numVm m.out, rfl, fun _ _ _ _ _ _ => numVm_at _ _, rfl, b9⟩

set_option maxRecDepth 100000 in
set_option maxHeartbeats 8000000 in
theorem memLoad_3 (m : Mm) (s t : Int) (w : World) (h : MmAt w m) (hl : m.bans.2.length ≤ 1000) :
    Calls Tryz.prog 47 #[.agg #[.int .i64 m.inn, .int .i64 m.out, m.bans.1, m.book.1, m.parts.1, m.locks.1], .agg #[.int .i64 3, .int .i64 s, .int .i64 t]] w (GivesVm w (loadP m.pl 3 s t)) := by
  unfold GivesVm
  have HC := Lib.hid (fun (W : World) (hb : Below w.heap.size w W) => cloneBn m.bans.1 m.bans.2.length (m.bans.2.flatMap baV) W (ReadsL.below h.1 hb) (baV_onesM _) (by omega))
  obtain ⟨a1, a2, a3, a4, c1, c2, c3, c4, e1, e2, e3, e4⟩ := mm_slices h
  simp only [e1, e2, e3, e4] at HC ⊢
  clear e1 e2 e3 e4 h
  obtain ⟨n1, hn1⟩ : ∃ n, n = m.bans.2.length := ⟨_, rfl⟩
  rw [← hn1] at HC ⊢
  have HN1 := Lib.hid hn1
  clear hn1
  go_enter Tryz.func47, Tryz.ntmps47
  go_wp2_with (first
    | (go_at_call 32; (with_reducible refine (HC.out _ (by exact bel)).mono ?_); rintro e w1 ⟨r1, rfl, o1, b1⟩; obtain ⟨a5, c5, e5⟩ := owns_slice o1; subst e5; simp only [World.size_alloc] at o1; have HO5 := Lib.hid o1; have z1 := b1.size; have b1o := b1; simp only [World.size_alloc] at z1; have hRes : BlockIs w1 (w.heap.size + 1 + 1) [.int .i64 0, .bool false, .int .u64 0, .int .u64 0, .int .i64 0, .bool false, .int .i64 0, .int .i64 0, .int .i64 0, .int .i64 0, .int .i64 0, .slice none 0 0, .slice none 0 0] 54 := (BlockIs.newAt' _ _ _ (by simp)).below b1o)
    | (refine list_store_blk rfl 54 _ _ rfl (w.heap.size + 1 + 1) [.int .i64 0, .bool false, .int .u64 0, .int .u64 0, .int .i64 0, .bool false, .int .i64 0, .int .i64 0, .int .i64 0, .int .i64 0, .int .i64 0, .slice none 0 0, .slice none 0 0] _ 54 (hRes) rfl rfl (by kernel_rfl) rfl (by simp [Value.oneCell']) w.heap.size w (by exact bel) (by omega) ?_; intro wz hOz hothz hszz bwz))
  refine bodyPost_named fun W9 h9 => ?_
  have hO9 : BlockIs W9 (w.heap.size + 1 + 1) [.int .i64 0, .bool false, .int .u64 0, .int .u64 0, .int .i64 0, .bool false, .int .i64 0, .int .i64 0, .int .i64 0, .int .i64 0, .int .i64 0, .slice a5 n1 c5, .slice none 0 0] 54 := by subst h9; first | exact hOz | ((refine RchW.get ?_); (repeat (first | with_reducible refine reach_set ?_ | with_reducible refine reach_other (by first | assumption | omega) ?_ | with_reducible refine reach_alloc ?_ | with_reducible refine reach_drew ?_)); exact reach_at (hOz) rfl)
  have b9 : Below w.heap.size w W9 := by subst h9; exact bwz
  have HV9 : Hid (W9.ownsRow (w.heap.size + 1 + 1 + 1) 84 5 (.slice a5 n1 c5) n1 (m.bans.2.flatMap baV)) := by
    subst h9
    unfold Hid
    exact owns_oth HO5.out hothz (by omega)
  clear h9
  have e90 := hO9.cell (i := 0) rfl; have e91 := hO9.cell (i := 1) rfl; have e92 := hO9.cell (i := 2) rfl; have e93 := hO9.cell (i := 3) rfl; have e94 := hO9.cell (i := 4) rfl; have e95 := hO9.cell (i := 5) rfl; have e96 := hO9.cell (i := 6) rfl; have e97 := hO9.cell (i := 7) rfl; have e98 := hO9.cell (i := 8) rfl; have e99 := hO9.cell (i := 9) rfl; have e910 := hO9.cell (i := 10) rfl; have e911 := hO9.cell (i := 11) rfl; have e912 := hO9.cell (i := 12) rfl
  exact bodyPost_ret (v := .agg #[.int .i64 0, .bool false, .int .u64 0, .int .u64 0, .int .i64 0, .bool false, .int .i64 0, .int .i64 0, .int .i64 0, .int .i64 0, .int .i64 0, .slice a5 n1 c5, .slice none 0 0]) (by simp [results, Tryz.results47, go_sem, e90, e91, e92, e93, e94, e95, e96, e97, e98, e99, e910, e911, e912]) rfl ⟨⟨0, zeroPe, (.slice a5 n1 c5, m.bans.2), (.slice none 0 0, [])⟩, rfl, fun w0 B hB W h0 hkp => ⟨by (unfold ReadsL; rw [← HN1.out]; exact owns_reads (owns_held HV9.out fun g arr hg hb => hkp g arr _ (by omega) hb)), ReadsL.nil _ _ _ _ _⟩, rfl, b9⟩

set_option maxRecDepth 100000 in
set_option maxHeartbeats 8000000 in
theorem memLoad_4 (m : Mm) (s t : Int) (w : World) (h : MmAt w m) (hl : m.book.2.length ≤ 1000) :
    Calls Tryz.prog 47 #[.agg #[.int .i64 m.inn, .int .i64 m.out, m.bans.1, m.book.1, m.parts.1, m.locks.1], .agg #[.int .i64 4, .int .i64 s, .int .i64 t]] w (GivesVm w (loadP m.pl 4 s t)) := by
  unfold GivesVm
  have HC := Lib.hid (fun (W : World) (hb : Below w.heap.size w W) => cloneEy m.book.1 m.book.2.length (m.book.2.flatMap eyV) W (ReadsL.below h.2.1 hb) (eyV_ones _) (by omega))
  obtain ⟨a1, a2, a3, a4, c1, c2, c3, c4, e1, e2, e3, e4⟩ := mm_slices h
  simp only [e1, e2, e3, e4] at HC ⊢
  clear e1 e2 e3 e4 h
  obtain ⟨n1, hn1⟩ : ∃ n, n = m.book.2.length := ⟨_, rfl⟩
  rw [← hn1] at HC ⊢
  have HN1 := Lib.hid hn1
  clear hn1
  go_enter Tryz.func47, Tryz.ntmps47
  go_wp2_with (first
    | (go_at_call 33; (with_reducible refine (HC.out _ (by exact bel)).mono ?_); rintro e w1 ⟨r1, rfl, o1, b1⟩; obtain ⟨a5, c5, e5⟩ := owns_slice o1; subst e5; simp only [World.size_alloc] at o1; have HO5 := Lib.hid o1; have z1 := b1.size; have b1o := b1; simp only [World.size_alloc] at z1; have hRes : BlockIs w1 (w.heap.size + 1 + 1) [.int .i64 0, .bool false, .int .u64 0, .int .u64 0, .int .i64 0, .bool false, .int .i64 0, .int .i64 0, .int .i64 0, .int .i64 0, .int .i64 0, .slice none 0 0, .slice none 0 0] 54 := (BlockIs.newAt' _ _ _ (by simp)).below b1o)
    | (refine list_store_blk rfl 54 _ _ rfl (w.heap.size + 1 + 1) [.int .i64 0, .bool false, .int .u64 0, .int .u64 0, .int .i64 0, .bool false, .int .i64 0, .int .i64 0, .int .i64 0, .int .i64 0, .int .i64 0, .slice none 0 0, .slice none 0 0] _ 54 (hRes) rfl rfl (by kernel_rfl) rfl (by simp [Value.oneCell']) w.heap.size w (by exact bel) (by omega) ?_; intro wz hOz hothz hszz bwz))
  refine bodyPost_named fun W9 h9 => ?_
  have hO9 : BlockIs W9 (w.heap.size + 1 + 1) [.int .i64 0, .bool false, .int .u64 0, .int .u64 0, .int .i64 0, .bool false, .int .i64 0, .int .i64 0, .int .i64 0, .int .i64 0, .int .i64 0, .slice none 0 0, .slice a5 n1 c5] 54 := by subst h9; first | exact hOz | ((refine RchW.get ?_); (repeat (first | with_reducible refine reach_set ?_ | with_reducible refine reach_other (by first | assumption | omega) ?_ | with_reducible refine reach_alloc ?_ | with_reducible refine reach_drew ?_)); exact reach_at (hOz) rfl)
  have b9 : Below w.heap.size w W9 := by subst h9; exact bwz
  have HV9 : Hid (W9.ownsRow (w.heap.size + 1 + 1 + 1) 87 7 (.slice a5 n1 c5) n1 (m.book.2.flatMap eyV)) := by
    subst h9
    unfold Hid
    exact owns_oth HO5.out hothz (by omega)
  clear h9
  have e90 := hO9.cell (i := 0) rfl; have e91 := hO9.cell (i := 1) rfl; have e92 := hO9.cell (i := 2) rfl; have e93 := hO9.cell (i := 3) rfl; have e94 := hO9.cell (i := 4) rfl; have e95 := hO9.cell (i := 5) rfl; have e96 := hO9.cell (i := 6) rfl; have e97 := hO9.cell (i := 7) rfl; have e98 := hO9.cell (i := 8) rfl; have e99 := hO9.cell (i := 9) rfl; have e910 := hO9.cell (i := 10) rfl; have e911 := hO9.cell (i := 11) rfl; have e912 := hO9.cell (i := 12) rfl
  exact bodyPost_ret (v := .agg #[.int .i64 0, .bool false, .int .u64 0, .int .u64 0, .int .i64 0, .bool false, .int .i64 0, .int .i64 0, .int .i64 0, .int .i64 0, .int .i64 0, .slice none 0 0, .slice a5 n1 c5]) (by simp [results, Tryz.results47, go_sem, e90, e91, e92, e93, e94, e95, e96, e97, e98, e99, e910, e911, e912]) rfl ⟨⟨0, zeroPe, (.slice none 0 0, []), (.slice a5 n1 c5, m.book.2)⟩, rfl, fun w0 B hB W h0 hkp => ⟨ReadsL.nil _ _ _ _ _, by (unfold ReadsL; rw [← HN1.out]; exact owns_reads (owns_held HV9.out fun g arr hg hb => hkp g arr _ (by omega) hb))⟩, rfl, b9⟩

set_option maxRecDepth 100000 in
set_option maxHeartbeats 8000000 in
theorem memLoad_5 (m : Mm) (s t : Int) (w : World) (h : MmAt w m) (hs : 0 ≤ s ∧ s < (m.parts.2.length : Int)) :
    Calls Tryz.prog 47 #[.agg #[.int .i64 m.inn, .int .i64 m.out, m.bans.1, m.book.1, m.parts.1, m.locks.1], .agg #[.int .i64 5, .int .i64 s, .int .i64 t]] w (GivesVm w (loadP m.pl 5 s t)) := by
  unfold GivesVm
  rw [show loadP m.pl 5 s t = { zeroVp with n := (shOf m s).size } by unfold loadP; rw [shOf_pl]; rfl]
  have hAt := shOf_at h s
  obtain ⟨j, rfl⟩ : ∃ j : Nat, s = (j : Int) := ⟨s.toNat, by omega⟩
  obtain ⟨x, hx⟩ : ∃ x, m.parts.2[j]? = some x := ⟨_, List.getElem?_eq_getElem (by omega)⟩
  have hsx : shOf m (j : Int) = x := by unfold shOf getAt; rw [if_pos hs.1, Int.toNat_natCast, List.getD_eq_getElem?_getD, hx]; rfl
  rw [hsx] at hAt
  obtain ⟨_, a5, c5, e5, _⟩ := pes_open hAt
  obtain ⟨_, p, c, e6, h3⟩ := shs_open h.2.2.1.1
  obtain ⟨b, o, rfl, h4, h5, h6⟩ := h3 (by omega)
  obtain ⟨k0, k1⟩ := h6 j x hx
  rw [e5] at k1
  have HX := Lib.hid hsx
  obtain ⟨a1, a2, a3, a4, c1, c2, c3, c4, e1, e2, e3, e4⟩ := mm_slices h
  rw [e1, e2, e4, e6]
  have q1 : (j : Int) < (m.parts.2.length : Int) := hs.2
  have q2 : (0 : Int) ≤ (j : Int) := by omega
  generalize m.parts.2.length = np at *
  obtain ⟨W3, hW3⟩ : ∃ W3, W3 = ((w.alloc (.cells #[.int .i64 m.inn, .int .i64 m.out, .slice a1 m.bans.2.length c1, .slice a2 m.book.2.length c2, .slice (some ⟨b, o, none⟩) np c, .slice a4 m.locks.2.length c4] 40)).alloc (.cells #[.int .i64 5, .int .i64 j, .int .i64 t] 44)).alloc (.cells #[.int .i64 0, .bool false, .int .u64 0, .int .u64 0, .int .i64 0, .bool false, .int .i64 0, .int .i64 0, .int .i64 0, .int .i64 0, .int .i64 0, .slice none 0 0, .slice none 0 0] 54) := ⟨_, rfl⟩
  have B3 : Below w.heap.size w W3 := by subst hW3; exact bel
  have z0 := keep B3 h5 k0
  have z1 := keep B3 h5 k1
  have y2 : W3.cell? ⟨w.heap.size, 4, none⟩ = some (.slice (some ⟨b, o, none⟩) np c) := by subst hW3; simp [go_sem]
  have y3 : W3.cell? ⟨w.heap.size + 1, 1, none⟩ = some (.int .i64 j) := by subst hW3; simp [go_sem]
  have y4 : W3.cell? ⟨w.heap.size + 1, 2, none⟩ = some (.int .i64 t) := by subst hW3; simp [go_sem]
  have hRes : BlockIs W3 (w.heap.size + 1 + 1) [.int .i64 0, .bool false, .int .u64 0, .int .u64 0, .int .i64 0, .bool false, .int .i64 0, .int .i64 0, .int .i64 0, .int .i64 0, .int .i64 0, .slice none 0 0, .slice none 0 0] 54 := by subst hW3; exact BlockIs.newAt' _ [.int .i64 0, .bool false, .int .u64 0, .int .u64 0, .int .i64 0, .bool false, .int .i64 0, .int .i64 0, .int .i64 0, .int .i64 0, .int .i64 0, .slice none 0 0, .slice none 0 0] _ (by simp)
  have zl := hRes.lt
  rw [hsx]
  clear e1 e2 e3 e4 e5 e6 h hx hsx h3 h6 hAt
  go_enter Tryz.func47, Tryz.ntmps47
  go_upto_region 11 with fail
  rw [← hW3]
  clear hW3
  go_wp2_with (refine list_store_blk rfl 54 _ _ rfl (w.heap.size + 1 + 1) [.int .i64 0, .bool false, .int .u64 0, .int .u64 0, .int .i64 0, .bool false, .int .i64 0, .int .i64 0, .int .i64 0, .int .i64 0, .int .i64 0, .slice none 0 0, .slice none 0 0] _ 54 (hRes) rfl rfl (by kernel_rfl) rfl (by simp [Value.oneCell']) w.heap.size w B3 (by omega) ?_; intro wz hOz hothz hszz bwz)
  refine bodyPost_named fun W9 h9 => ?_
  have hO9 : BlockIs W9 (w.heap.size + 1 + 1) [.int .i64 x.size, .bool false, .int .u64 0, .int .u64 0, .int .i64 0, .bool false, .int .i64 0, .int .i64 0, .int .i64 0, .int .i64 0, .int .i64 0, .slice none 0 0, .slice none 0 0] 54 := by subst h9; first | exact hOz | ((refine RchW.get ?_); (repeat (first | with_reducible refine reach_set ?_ | with_reducible refine reach_other (by first | assumption | omega) ?_ | with_reducible refine reach_alloc ?_ | with_reducible refine reach_drew ?_)); exact reach_at (hOz) rfl)
  have b9 : Below w.heap.size w W9 := by subst h9; exact bwz
  clear h9
  have e90 := hO9.cell (i := 0) rfl; have e91 := hO9.cell (i := 1) rfl; have e92 := hO9.cell (i := 2) rfl; have e93 := hO9.cell (i := 3) rfl; have e94 := hO9.cell (i := 4) rfl; have e95 := hO9.cell (i := 5) rfl; have e96 := hO9.cell (i := 6) rfl; have e97 := hO9.cell (i := 7) rfl; have e98 := hO9.cell (i := 8) rfl; have e99 := hO9.cell (i := 9) rfl; have e910 := hO9.cell (i := 10) rfl; have e911 := hO9.cell (i := 11) rfl; have e912 := hO9.cell (i := 12) rfl
  exact bodyPost_ret (v := .agg #[.int .i64 x.size, .bool false, .int .u64 0, .int .u64 0, .int .i64 0, .bool false, .int .i64 0, .int .i64 0, .int .i64 0, .int .i64 0, .int .i64 0, .slice none 0 0, .slice none 0 0]) (by simp [results, Tryz.results47, go_sem, e90, e91, e92, e93, e94, e95, e96, e97, e98, e99, e910, e911, e912]) rfl ⟨numVm x.size, rfl, fun _ _ _ _ _ _ => numVm_at _ _, rfl, b9⟩

set_option maxRecDepth 100000 in
set_option maxHeartbeats 8000000 in
theorem memLoad_6 (m : Mm) (s t : Int) (w : World) (h : MmAt w m) (hs : 0 ≤ s ∧ s < (m.parts.2.length : Int)) (ht : 0 ≤ t) :
    Calls Tryz.prog 47 #[.agg #[.int .i64 m.inn, .int .i64 m.out, m.bans.1, m.book.1, m.parts.1, m.locks.1], .agg #[.int .i64 6, .int .i64 s, .int .i64 t]] w (GivesVm w (loadP m.pl 6 s t)) := by
  unfold GivesVm
  rw [show loadP m.pl 6 s t = { zeroVp with pe := slotP (shOf m s).l t } by unfold loadP; rw [shOf_pl]; rfl]
  have hAt := shOf_at h s
  obtain ⟨j, rfl⟩ : ∃ j : Nat, s = (j : Int) := ⟨s.toNat, by omega⟩
  obtain ⟨x, hx⟩ : ∃ x, m.parts.2[j]? = some x := ⟨_, List.getElem?_eq_getElem (by omega)⟩
  have hsx : shOf m (j : Int) = x := by unfold shOf getAt; rw [if_pos hs.1, Int.toNat_natCast, List.getD_eq_getElem?_getD, hx]; rfl
  rw [hsx] at hAt
  obtain ⟨_, a5, c5, e5, _⟩ := pes_open hAt
  obtain ⟨_, p, c, e6, h3⟩ := shs_open h.2.2.1.1
  obtain ⟨b, o, rfl, h4, h5, h6⟩ := h3 (by omega)
  obtain ⟨k0, k1⟩ := h6 j x hx
  rw [e5] at k1
  have HX := Lib.hid hsx
  obtain ⟨a1, a2, a3, a4, c1, c2, c3, c4, e1, e2, e3, e4⟩ := mm_slices h
  rw [e1, e2, e4, e6]
  have q1 : (j : Int) < (m.parts.2.length : Int) := hs.2
  have q2 : (0 : Int) ≤ (j : Int) := by omega
  generalize m.parts.2.length = np at *
  obtain ⟨W3, hW3⟩ : ∃ W3, W3 = ((w.alloc (.cells #[.int .i64 m.inn, .int .i64 m.out, .slice a1 m.bans.2.length c1, .slice a2 m.book.2.length c2, .slice (some ⟨b, o, none⟩) np c, .slice a4 m.locks.2.length c4] 40)).alloc (.cells #[.int .i64 6, .int .i64 j, .int .i64 t] 44)).alloc (.cells #[.int .i64 0, .bool false, .int .u64 0, .int .u64 0, .int .i64 0, .bool false, .int .i64 0, .int .i64 0, .int .i64 0, .int .i64 0, .int .i64 0, .slice none 0 0, .slice none 0 0] 54) := ⟨_, rfl⟩
  have B3 : Below w.heap.size w W3 := by subst hW3; exact bel
  have z0 := keep B3 h5 k0
  have z1 := keep B3 h5 k1
  have y2 : W3.cell? ⟨w.heap.size, 4, none⟩ = some (.slice (some ⟨b, o, none⟩) np c) := by subst hW3; simp [go_sem]
  have y3 : W3.cell? ⟨w.heap.size + 1, 1, none⟩ = some (.int .i64 j) := by subst hW3; simp [go_sem]
  have y4 : W3.cell? ⟨w.heap.size + 1, 2, none⟩ = some (.int .i64 t) := by subst hW3; simp [go_sem]
  have hRes : BlockIs W3 (w.heap.size + 1 + 1) [.int .i64 0, .bool false, .int .u64 0, .int .u64 0, .int .i64 0, .bool false, .int .i64 0, .int .i64 0, .int .i64 0, .int .i64 0, .int .i64 0, .slice none 0 0, .slice none 0 0] 54 := by subst hW3; exact BlockIs.newAt' _ [.int .i64 0, .bool false, .int .u64 0, .int .u64 0, .int .i64 0, .bool false, .int .i64 0, .int .i64 0, .int .i64 0, .int .i64 0, .int .i64 0, .slice none 0 0, .slice none 0 0] _ (by simp)
  have zl := hRes.lt
  have HS := Lib.hid (fun (W : World) (hb : Below w.heap.size w W) => memSlot_any x t W (ReadsL.below hAt hb) ht)
  rw [hsx]
  rw [e5] at HS
  clear e1 e2 e3 e4 e5 e6 h hx hsx h3 h6 hAt HX
  generalize slotP x.l t = pe at *
  generalize x.l.length = xn at *
  generalize x.size = xz at *
  go_enter Tryz.func47, Tryz.ntmps47
  go_upto_region 12 with fail
  rw [← hW3]
  clear hW3
  have hRl := hRes.cell (i := 0) rfl
  have hRf := hRes.frozen
  go_region_with (first | (go_at_call 74; (with_reducible refine (HS.out _ (by first | exact B3 | exact B3.drew)).mono ?_); rintro e w5 ⟨rfl, b5⟩; have hR5 : BlockIs w5 (w.heap.size + 1 + 1) [.int .i64 0, .bool false, .int .u64 0, .int .u64 0, .int .i64 0, .bool false, .int .i64 0, .int .i64 0, .int .i64 0, .int .i64 0, .int .i64 0, .slice none 0 0, .slice none 0 0] 54 := (by first | exact hRes.below b5 | exact (BlockIs.drew' hRes).below b5); have B5 : Below w.heap.size w w5 := (by first | exact below2 B3 b5 | exact below2 (Below.drew B3) b5); have l5 := hR5.lt; have c0_ := hR5.cell (i := 0) rfl; have c1_ := hR5.cell (i := 1) rfl; have c2_ := hR5.cell (i := 2) rfl; have c3_ := hR5.cell (i := 3) rfl; have c4_ := hR5.cell (i := 4) rfl; have c5_ := hR5.cell (i := 5) rfl; have c6_ := hR5.cell (i := 6) rfl; have c7_ := hR5.cell (i := 7) rfl; have c8_ := hR5.cell (i := 8) rfl; have c9_ := hR5.cell (i := 9) rfl; have c10_ := hR5.cell (i := 10) rfl; have c11_ := hR5.cell (i := 11) rfl; have c12_ := hR5.cell (i := 12) rfl; have f5 := hR5.frozen))
  all_goals
    go_wp2_with fail
    refine bodyPost_named fun W9 h9 => ?_
    have hO9 : BlockIs W9 (w.heap.size + 1 + 1) [.int .i64 0, .bool pe.en.ad.v6, .int .u64 pe.en.ad.hi, .int .u64 pe.en.ad.lo, .int .i64 pe.en.port, .bool pe.came, .int .i64 pe.since, .int .i64 pe.pts, .int .i64 pe.at_, .int .i64 pe.ping, .int .i64 pe.work, .slice none 0 0, .slice none 0 0] 54 := by subst h9; ((refine RchW.get ?_); (repeat (first | with_reducible refine reach_set ?_ | with_reducible refine reach_other (by first | assumption | omega) ?_ | with_reducible refine reach_alloc ?_ | with_reducible refine reach_drew ?_)); exact reach_at (hR5) rfl)
    have b9 : Below w.heap.size w W9 := by subst h9; exact bel
    clear h9
    have e90 := hO9.cell (i := 0) rfl; have e91 := hO9.cell (i := 1) rfl; have e92 := hO9.cell (i := 2) rfl; have e93 := hO9.cell (i := 3) rfl; have e94 := hO9.cell (i := 4) rfl; have e95 := hO9.cell (i := 5) rfl; have e96 := hO9.cell (i := 6) rfl; have e97 := hO9.cell (i := 7) rfl; have e98 := hO9.cell (i := 8) rfl; have e99 := hO9.cell (i := 9) rfl; have e910 := hO9.cell (i := 10) rfl; have e911 := hO9.cell (i := 11) rfl; have e912 := hO9.cell (i := 12) rfl
    exact bodyPost_ret (v := .agg #[.int .i64 0, .bool pe.en.ad.v6, .int .u64 pe.en.ad.hi, .int .u64 pe.en.ad.lo, .int .i64 pe.en.port, .bool pe.came, .int .i64 pe.since, .int .i64 pe.pts, .int .i64 pe.at_, .int .i64 pe.ping, .int .i64 pe.work, .slice none 0 0, .slice none 0 0]) (by simp [results, Tryz.results47, go_sem, e90, e91, e92, e93, e94, e95, e96, e97, e98, e99, e910, e911, e912]) rfl ⟨⟨0, pe, (.slice none 0 0, []), (.slice none 0 0, [])⟩, rfl, fun _ _ _ _ _ _ => ⟨ReadsL.nil _ _ _ _ _, ReadsL.nil _ _ _ _ _⟩, rfl, b9⟩
end Go.Proofs.YtnplgagaoeckoaaGreat
namespace Go.Proofs.YtnplgagaoeckoaaGreat
open Go.RowKit
set_option linter.unusedSimpArgs false
set_option linter.unusedVariables false

/-- what an operation's slices are -/
def OqAt (w : World) (o : Oq) : Prop := ReadsL baV 5 w o.bans.1 o.bans.2 ∧ ReadsL eyV 7 w o.book.1 o.book.2
theorem OqAt.below {w w' : World} {o : Oq} (h : OqAt w o) (hb : Below w.heap.size w w') : OqAt w' o := ⟨ReadsL.below h.1 hb, ReadsL.below h.2 hb⟩
def GivesMv (w : World) (m0 : Mm) (r : Pm × Vp) (e : Ending) (w' : World) : Prop := ∃ (m : Mm) (v : Vm), e = .returned (.tuple #[.agg #[.int .i64 m.inn, .int .i64 m.out, m.bans.1, m.book.1, m.parts.1, m.locks.1], .agg #[.int .i64 v.n, .bool v.pe.en.ad.v6, .int .u64 v.pe.en.ad.hi, .int .u64 v.pe.en.ad.lo, .int .i64 v.pe.en.port, .bool v.pe.came, .int .i64 v.pe.since, .int .i64 v.pe.pts, .int .i64 v.pe.at_, .int .i64 v.pe.ping, .int .i64 v.pe.work, v.bans.1, v.book.1]]) ∧ (∀ W, MmAt W m0 → MmAt W m) ∧ (∀ W, VmAt W v) ∧ m.pl = r.1 ∧ v.pl = r.2 ∧ Below w.heap.size w w'
set_option maxRecDepth 100000 in
set_option maxHeartbeats 8000000 in
theorem memSwap_oy (m : Mm) (o : Oq) (w : World) (h : MmAt w m) (ho : OqAt w o) (h2 : o.lk = 2) (he : m.out = o.old) :
    Calls Tryz.prog 49 #[.agg #[.int .i64 m.inn, .int .i64 m.out, m.bans.1, m.book.1, m.parts.1, m.locks.1], .agg #[.int .i64 o.kind, .int .i64 o.lock, .int .i64 o.lk, .int .i64 o.ls, .int .i64 o.lt, .int .i64 o.old, .int .i64 o.new, .int .i64 o.vn, .bool o.pe.en.ad.v6, .int .u64 o.pe.en.ad.hi, .int .u64 o.pe.en.ad.lo, .int .i64 o.pe.en.port, .bool o.pe.came, .int .i64 o.pe.since, .int .i64 o.pe.pts, .int .i64 o.pe.at_, .int .i64 o.pe.ping, .int .i64 o.pe.work, o.bans.1, o.book.1, .bool o.mark]] w (GivesMv w m (swapP m.pl o.lk o.old o.new)) := by
  have hres : swapP m.pl o.lk o.old o.new = ({ m.pl with out := o.new }, { zeroVp with n := 1 }) := by unfold swapP; rw [if_pos h2]; exact if_pos he
  rw [hres]
  unfold GivesMv
  have HM := Lib.hid h
  obtain ⟨a1, a2, a3, a4, c1, c2, c3, c4, e1, e2, e3, e4⟩ := mm_slices h
  obtain ⟨_, oa, oc, eo, _⟩ := ba_open ho.1
  obtain ⟨_, ka, kc, ek, _⟩ := ey_open ho.2
  have hmm : m = ⟨m.inn, m.out, (.slice a1 m.bans.2.length c1, m.bans.2), (.slice a2 m.book.2.length c2, m.book.2), (.slice a3 m.parts.2.length c3, m.parts.2), (.slice a4 m.locks.2.length c4, m.locks.2)⟩ := by rw [← e1, ← e2, ← e3, ← e4]
  have HMM := Lib.hid hmm
  rw [e1, e2, e3, e4, eo, ek]
  clear hres e1 e2 e3 e4 eo ek ho hmm
  obtain ⟨x0, hx0⟩ : ∃ x, x = m.inn := ⟨_, rfl⟩
  obtain ⟨x1, hx1⟩ : ∃ x, x = m.out := ⟨_, rfl⟩
  obtain ⟨n1, hn1⟩ : ∃ n, n = m.bans.2.length := ⟨_, rfl⟩
  obtain ⟨n2, hn2⟩ : ∃ n, n = m.book.2.length := ⟨_, rfl⟩
  obtain ⟨n3, hn3⟩ : ∃ n, n = m.parts.2.length := ⟨_, rfl⟩
  obtain ⟨n4, hn4⟩ : ∃ n, n = m.locks.2.length := ⟨_, rfl⟩
  rw [← hx0, ← hx1, ← hn1, ← hn2, ← hn3, ← hn4]
  rw [← hx0, ← hx1, ← hn1, ← hn2, ← hn3, ← hn4] at HMM
  rw [← hx1] at he
  have hx10 := Lib.hid hx0; have hx11 := Lib.hid hx1
  generalize hob : (Value.slice oa o.bans.2.length oc) = ob at *
  generalize hok : (Value.slice ka o.book.2.length kc) = ok at *
  have hb1 : ob.oneCell' = true := by rw [← hob]; rfl
  have hk1 : ok.oneCell' = true := by rw [← hok]; rfl
  clear h hx0 hx1 hn1 hn2 hn3 hn4 hob hok
  have f1 : (o.lk == 2) = true := beq_iff_eq.2 h2
  have f2 : (x1 != o.old) = false := by simpa using he
  have HE_ := Lib.hid he; have H2_ := Lib.hid h2
  clear he h2
  go_enter Tryz.func49, Tryz.ntmps49
  go_upto_region 4 with fail
  obtain ⟨W4, hW4⟩ : ∃ W4, W4 = (((w.alloc (.cells #[.int .i64 x0, .int .i64 x1, .slice a1 n1 c1, .slice a2 n2 c2, .slice a3 n3 c3, .slice a4 n4 c4] 40)).alloc (.cells #[.int .i64 o.kind, .int .i64 o.lock, .int .i64 o.lk, .int .i64 o.ls, .int .i64 o.lt, .int .i64 o.old, .int .i64 o.new, .int .i64 o.vn, .bool o.pe.en.ad.v6, .int .u64 o.pe.en.ad.hi, .int .u64 o.pe.en.ad.lo, .int .i64 o.pe.en.port, .bool o.pe.came, .int .i64 o.pe.since, .int .i64 o.pe.pts, .int .i64 o.pe.at_, .int .i64 o.pe.ping, .int .i64 o.pe.work, ob, ok, .bool o.mark] 56)).alloc (.cells #[.int .i64 0, .int .i64 0, .slice none 0 0, .slice none 0 0, .slice none 0 0, .slice none 0 0] 40)).alloc (.cells #[.int .i64 0, .bool false, .int .u64 0, .int .u64 0, .int .i64 0, .bool false, .int .i64 0, .int .i64 0, .int .i64 0, .int .i64 0, .int .i64 0, .slice none 0 0, .slice none 0 0] 54) := ⟨_, rfl⟩
  rw [← hW4]
  have B4 : Below w.heap.size w W4 := by subst hW4; exact bel
  have hBm : BlockIs W4 w.heap.size [.int .i64 x0, .int .i64 x1, .slice a1 n1 c1, .slice a2 n2 c2, .slice a3 n3 c3, .slice a4 n4 c4] 40 := by subst hW4; exact (((BlockIs.new w [.int .i64 x0, .int .i64 x1, .slice a1 n1 c1, .slice a2 n2 c2, .slice a3 n3 c3, .slice a4 n4 c4] _).alloc' _).alloc' _).alloc' _
  have hBo : BlockIs W4 (w.heap.size + 1) [.int .i64 o.kind, .int .i64 o.lock, .int .i64 o.lk, .int .i64 o.ls, .int .i64 o.lt, .int .i64 o.old, .int .i64 o.new, .int .i64 o.vn, .bool o.pe.en.ad.v6, .int .u64 o.pe.en.ad.hi, .int .u64 o.pe.en.ad.lo, .int .i64 o.pe.en.port, .bool o.pe.came, .int .i64 o.pe.since, .int .i64 o.pe.pts, .int .i64 o.pe.at_, .int .i64 o.pe.ping, .int .i64 o.pe.work, ob, ok, .bool o.mark] 56 := by subst hW4; exact ((BlockIs.newAt' _ [.int .i64 o.kind, .int .i64 o.lock, .int .i64 o.lk, .int .i64 o.ls, .int .i64 o.lt, .int .i64 o.old, .int .i64 o.new, .int .i64 o.vn, .bool o.pe.en.ad.v6, .int .u64 o.pe.en.ad.hi, .int .u64 o.pe.en.ad.lo, .int .i64 o.pe.en.port, .bool o.pe.came, .int .i64 o.pe.since, .int .i64 o.pe.pts, .int .i64 o.pe.at_, .int .i64 o.pe.ping, .int .i64 o.pe.work, ob, ok, .bool o.mark] _ (by simp)).alloc' _).alloc' _
  have hBr : BlockIs W4 (w.heap.size + 1 + 1) [.int .i64 0, .int .i64 0, .slice none 0 0, .slice none 0 0, .slice none 0 0, .slice none 0 0] 40 := by subst hW4; exact (BlockIs.newAt' _ [.int .i64 0, .int .i64 0, .slice none 0 0, .slice none 0 0, .slice none 0 0, .slice none 0 0] _ (by simp)).alloc' _
  have hBv : BlockIs W4 (w.heap.size + 1 + 1 + 1) [.int .i64 0, .bool false, .int .u64 0, .int .u64 0, .int .i64 0, .bool false, .int .i64 0, .int .i64 0, .int .i64 0, .int .i64 0, .int .i64 0, .slice none 0 0, .slice none 0 0] 54 := by subst hW4; exact BlockIs.newAt' _ [.int .i64 0, .bool false, .int .u64 0, .int .u64 0, .int .i64 0, .bool false, .int .i64 0, .int .i64 0, .int .i64 0, .int .i64 0, .int .i64 0, .slice none 0 0, .slice none 0 0] _ (by simp)
  clear hW4
  have p0 := fun Y => (hBm.below (ext_below W4 Y)).cell (i := 0) rfl
  have p1 := fun Y => (hBm.below (ext_below W4 Y)).cell (i := 1) rfl
  have p5 := fun Y => (hBo.below (ext_below W4 Y)).cell (i := 5) rfl
  refine wp_region_ext (by kernel_rfl) (by kernel_rfl) ?_
  repeat (go_big_quiet_step (fail))
  refine wpQuiet_nil ?_
  intro _ hw'
  obtain ⟨gx, hw''⟩ := hw'
  subst hw''
  clear p0 p1 p5
  have B5 : Below w.heap.size w (ext W4 gx) := B4.trans ((ext_below W4 gx).mono B4.size)
  have hBm := hBm.below (ext_below W4 gx); have hBo := hBo.below (ext_below W4 gx); have hBr := hBr.below (ext_below W4 gx); have hBv := hBv.below (ext_below W4 gx)
  generalize ext W4 gx = W5 at *
  have m0 := hBm.cell (i := 0) rfl; have m1 := hBm.cell (i := 1) rfl; have m2 := hBm.cell (i := 2) rfl; have m3 := hBm.cell (i := 3) rfl; have m4 := hBm.cell (i := 4) rfl; have m5 := hBm.cell (i := 5) rfl; have mf := hBm.frozen; have ml := hBm.lt; have o6 := hBo.cell (i := 6) rfl; have r0 := hBr.cell (i := 0) rfl; have r1 := hBr.cell (i := 1) rfl; have r2 := hBr.cell (i := 2) rfl; have r3 := hBr.cell (i := 3) rfl; have r4 := hBr.cell (i := 4) rfl; have r5 := hBr.cell (i := 5) rfl; have rf := hBr.frozen; have rl := hBr.lt
  go_wp2_with (refine list_store_blk rfl 54 _ _ rfl (w.heap.size + 1 + 1 + 1) [.int .i64 0, .bool false, .int .u64 0, .int .u64 0, .int .i64 0, .bool false, .int .i64 0, .int .i64 0, .int .i64 0, .int .i64 0, .int .i64 0, .slice none 0 0, .slice none 0 0] _ 54 (by ((refine RchW.get ?_); (repeat (first | with_reducible refine reach_set ?_ | with_reducible refine reach_other (by first | assumption | omega) ?_ | with_reducible refine reach_alloc ?_ | with_reducible refine reach_drew ?_)); exact reach_at (hBv) rfl)) rfl rfl (by kernel_rfl) rfl (by simp [Value.oneCell']) w.heap.size w (by exact bel) (by omega) ?_; intro wz hOz hothz hszz bwz; have hMz := hothz (w.heap.size + 1 + 1) [.int .i64 x0, .int .i64 o.new, .slice a1 n1 c1, .slice a2 n2 c2, .slice a3 n3 c3, .slice a4 n4 c4] 40 (by omega) (by ((refine RchW.get ?_); (repeat (first | with_reducible refine reach_set ?_ | with_reducible refine reach_other (by first | assumption | omega) ?_ | with_reducible refine reach_alloc ?_ | with_reducible refine reach_drew ?_)); exact reach_at (hBr) rfl)); have hM9 : BlockIs wz (w.heap.size + 1 + 1) [.int .i64 x0, .int .i64 o.new, .slice a1 n1 c1, .slice a2 n2 c2, .slice a3 n3 c3, .slice a4 n4 c4] 40 := hMz; have hV9 : BlockIs wz (w.heap.size + 1 + 1 + 1) [.int .i64 1, .bool false, .int .u64 0, .int .u64 0, .int .i64 0, .bool false, .int .i64 0, .int .i64 0, .int .i64 0, .int .i64 0, .int .i64 0, .slice none 0 0, .slice none 0 0] 54 := hOz; have e90 := hM9.cell (i := 0) rfl; have e91 := hM9.cell (i := 1) rfl; have e92 := hM9.cell (i := 2) rfl; have e93 := hM9.cell (i := 3) rfl; have e94 := hM9.cell (i := 4) rfl; have e95 := hM9.cell (i := 5) rfl; have v90 := hV9.cell (i := 0) rfl; have v91 := hV9.cell (i := 1) rfl; have v92 := hV9.cell (i := 2) rfl; have v93 := hV9.cell (i := 3) rfl; have v94 := hV9.cell (i := 4) rfl; have v95 := hV9.cell (i := 5) rfl; have v96 := hV9.cell (i := 6) rfl; have v97 := hV9.cell (i := 7) rfl; have v98 := hV9.cell (i := 8) rfl; have v99 := hV9.cell (i := 9) rfl; have v910 := hV9.cell (i := 10) rfl; have v911 := hV9.cell (i := 11) rfl; have v912 := hV9.cell (i := 12) rfl)
  refine bodyPost_ret (v := .tuple #[.agg #[.int .i64 x0, .int .i64 o.new, .slice a1 n1 c1, .slice a2 n2 c2, .slice a3 n3 c3, .slice a4 n4 c4], .agg #[.int .i64 1, .bool false, .int .u64 0, .int .u64 0, .int .i64 0, .bool false, .int .i64 0, .int .i64 0, .int .i64 0, .int .i64 0, .int .i64 0, .slice none 0 0, .slice none 0 0]]) ?_ ?_ ?_
  · simp [results, Tryz.results49, go_sem, e90, e91, e92, e93, e94, e95, v90, v91, v92, v93, v94, v95, v96, v97, v98, v99, v910, v911, v912]
  · rfl
  · exact ⟨{ m with out := o.new }, numVm 1, (by rw [HMM.out]; rfl), fun W hW => hW, fun W => numVm_at _ _, rfl, rfl, bwz⟩

set_option maxRecDepth 100000 in
set_option maxHeartbeats 8000000 in
theorem memSwap_on (m : Mm) (o : Oq) (w : World) (h : MmAt w m) (ho : OqAt w o) (h2 : o.lk = 2) (he : ¬ m.out = o.old) :
    Calls Tryz.prog 49 #[.agg #[.int .i64 m.inn, .int .i64 m.out, m.bans.1, m.book.1, m.parts.1, m.locks.1], .agg #[.int .i64 o.kind, .int .i64 o.lock, .int .i64 o.lk, .int .i64 o.ls, .int .i64 o.lt, .int .i64 o.old, .int .i64 o.new, .int .i64 o.vn, .bool o.pe.en.ad.v6, .int .u64 o.pe.en.ad.hi, .int .u64 o.pe.en.ad.lo, .int .i64 o.pe.en.port, .bool o.pe.came, .int .i64 o.pe.since, .int .i64 o.pe.pts, .int .i64 o.pe.at_, .int .i64 o.pe.ping, .int .i64 o.pe.work, o.bans.1, o.book.1, .bool o.mark]] w (GivesMv w m (swapP m.pl o.lk o.old o.new)) := by
  have hres : swapP m.pl o.lk o.old o.new = (m.pl, zeroVp) := by unfold swapP; rw [if_pos h2]; exact if_neg he
  rw [hres]
  unfold GivesMv
  have HM := Lib.hid h
  obtain ⟨a1, a2, a3, a4, c1, c2, c3, c4, e1, e2, e3, e4⟩ := mm_slices h
  obtain ⟨_, oa, oc, eo, _⟩ := ba_open ho.1
  obtain ⟨_, ka, kc, ek, _⟩ := ey_open ho.2
  have hmm : m = ⟨m.inn, m.out, (.slice a1 m.bans.2.length c1, m.bans.2), (.slice a2 m.book.2.length c2, m.book.2), (.slice a3 m.parts.2.length c3, m.parts.2), (.slice a4 m.locks.2.length c4, m.locks.2)⟩ := by rw [← e1, ← e2, ← e3, ← e4]
  have HMM := Lib.hid hmm
  rw [e1, e2, e3, e4, eo, ek]
  clear hres e1 e2 e3 e4 eo ek ho hmm
  obtain ⟨x0, hx0⟩ : ∃ x, x = m.inn := ⟨_, rfl⟩
  obtain ⟨x1, hx1⟩ : ∃ x, x = m.out := ⟨_, rfl⟩
  obtain ⟨n1, hn1⟩ : ∃ n, n = m.bans.2.length := ⟨_, rfl⟩
  obtain ⟨n2, hn2⟩ : ∃ n, n = m.book.2.length := ⟨_, rfl⟩
  obtain ⟨n3, hn3⟩ : ∃ n, n = m.parts.2.length := ⟨_, rfl⟩
  obtain ⟨n4, hn4⟩ : ∃ n, n = m.locks.2.length := ⟨_, rfl⟩
  rw [← hx0, ← hx1, ← hn1, ← hn2, ← hn3, ← hn4]
  rw [← hx0, ← hx1, ← hn1, ← hn2, ← hn3, ← hn4] at HMM
  rw [← hx1] at he
  have hx10 := Lib.hid hx0; have hx11 := Lib.hid hx1
  generalize hob : (Value.slice oa o.bans.2.length oc) = ob at *
  generalize hok : (Value.slice ka o.book.2.length kc) = ok at *
  have hb1 : ob.oneCell' = true := by rw [← hob]; rfl
  have hk1 : ok.oneCell' = true := by rw [← hok]; rfl
  clear h hx0 hx1 hn1 hn2 hn3 hn4 hob hok
  have f1 : (o.lk == 2) = true := beq_iff_eq.2 h2
  have f2 : (x1 != o.old) = true := by simpa using he
  have HE_ := Lib.hid he; have H2_ := Lib.hid h2
  clear he h2
  go_enter Tryz.func49, Tryz.ntmps49
  go_upto_region 4 with fail
  obtain ⟨W4, hW4⟩ : ∃ W4, W4 = (((w.alloc (.cells #[.int .i64 x0, .int .i64 x1, .slice a1 n1 c1, .slice a2 n2 c2, .slice a3 n3 c3, .slice a4 n4 c4] 40)).alloc (.cells #[.int .i64 o.kind, .int .i64 o.lock, .int .i64 o.lk, .int .i64 o.ls, .int .i64 o.lt, .int .i64 o.old, .int .i64 o.new, .int .i64 o.vn, .bool o.pe.en.ad.v6, .int .u64 o.pe.en.ad.hi, .int .u64 o.pe.en.ad.lo, .int .i64 o.pe.en.port, .bool o.pe.came, .int .i64 o.pe.since, .int .i64 o.pe.pts, .int .i64 o.pe.at_, .int .i64 o.pe.ping, .int .i64 o.pe.work, ob, ok, .bool o.mark] 56)).alloc (.cells #[.int .i64 0, .int .i64 0, .slice none 0 0, .slice none 0 0, .slice none 0 0, .slice none 0 0] 40)).alloc (.cells #[.int .i64 0, .bool false, .int .u64 0, .int .u64 0, .int .i64 0, .bool false, .int .i64 0, .int .i64 0, .int .i64 0, .int .i64 0, .int .i64 0, .slice none 0 0, .slice none 0 0] 54) := ⟨_, rfl⟩
  rw [← hW4]
  have B4 : Below w.heap.size w W4 := by subst hW4; exact bel
  have hBm : BlockIs W4 w.heap.size [.int .i64 x0, .int .i64 x1, .slice a1 n1 c1, .slice a2 n2 c2, .slice a3 n3 c3, .slice a4 n4 c4] 40 := by subst hW4; exact (((BlockIs.new w [.int .i64 x0, .int .i64 x1, .slice a1 n1 c1, .slice a2 n2 c2, .slice a3 n3 c3, .slice a4 n4 c4] _).alloc' _).alloc' _).alloc' _
  have hBo : BlockIs W4 (w.heap.size + 1) [.int .i64 o.kind, .int .i64 o.lock, .int .i64 o.lk, .int .i64 o.ls, .int .i64 o.lt, .int .i64 o.old, .int .i64 o.new, .int .i64 o.vn, .bool o.pe.en.ad.v6, .int .u64 o.pe.en.ad.hi, .int .u64 o.pe.en.ad.lo, .int .i64 o.pe.en.port, .bool o.pe.came, .int .i64 o.pe.since, .int .i64 o.pe.pts, .int .i64 o.pe.at_, .int .i64 o.pe.ping, .int .i64 o.pe.work, ob, ok, .bool o.mark] 56 := by subst hW4; exact ((BlockIs.newAt' _ [.int .i64 o.kind, .int .i64 o.lock, .int .i64 o.lk, .int .i64 o.ls, .int .i64 o.lt, .int .i64 o.old, .int .i64 o.new, .int .i64 o.vn, .bool o.pe.en.ad.v6, .int .u64 o.pe.en.ad.hi, .int .u64 o.pe.en.ad.lo, .int .i64 o.pe.en.port, .bool o.pe.came, .int .i64 o.pe.since, .int .i64 o.pe.pts, .int .i64 o.pe.at_, .int .i64 o.pe.ping, .int .i64 o.pe.work, ob, ok, .bool o.mark] _ (by simp)).alloc' _).alloc' _
  have hBr : BlockIs W4 (w.heap.size + 1 + 1) [.int .i64 0, .int .i64 0, .slice none 0 0, .slice none 0 0, .slice none 0 0, .slice none 0 0] 40 := by subst hW4; exact (BlockIs.newAt' _ [.int .i64 0, .int .i64 0, .slice none 0 0, .slice none 0 0, .slice none 0 0, .slice none 0 0] _ (by simp)).alloc' _
  have hBv : BlockIs W4 (w.heap.size + 1 + 1 + 1) [.int .i64 0, .bool false, .int .u64 0, .int .u64 0, .int .i64 0, .bool false, .int .i64 0, .int .i64 0, .int .i64 0, .int .i64 0, .int .i64 0, .slice none 0 0, .slice none 0 0] 54 := by subst hW4; exact BlockIs.newAt' _ [.int .i64 0, .bool false, .int .u64 0, .int .u64 0, .int .i64 0, .bool false, .int .i64 0, .int .i64 0, .int .i64 0, .int .i64 0, .int .i64 0, .slice none 0 0, .slice none 0 0] _ (by simp)
  clear hW4
  have p0 := fun Y => (hBm.below (ext_below W4 Y)).cell (i := 0) rfl
  have p1 := fun Y => (hBm.below (ext_below W4 Y)).cell (i := 1) rfl
  have p5 := fun Y => (hBo.below (ext_below W4 Y)).cell (i := 5) rfl
  refine wp_region_ext (by kernel_rfl) (by kernel_rfl) ?_
  repeat (go_big_quiet_step (fail))
  refine wpQuiet_nil ?_
  intro _ hw'
  obtain ⟨gx, hw''⟩ := hw'
  subst hw''
  clear p0 p1 p5
  have B5 : Below w.heap.size w (ext W4 gx) := B4.trans ((ext_below W4 gx).mono B4.size)
  have hBm := hBm.below (ext_below W4 gx); have hBo := hBo.below (ext_below W4 gx); have hBr := hBr.below (ext_below W4 gx); have hBv := hBv.below (ext_below W4 gx)
  generalize ext W4 gx = W5 at *
  have m0 := hBm.cell (i := 0) rfl; have m1 := hBm.cell (i := 1) rfl; have m2 := hBm.cell (i := 2) rfl; have m3 := hBm.cell (i := 3) rfl; have m4 := hBm.cell (i := 4) rfl; have m5 := hBm.cell (i := 5) rfl; have mf := hBm.frozen; have ml := hBm.lt; have o6 := hBo.cell (i := 6) rfl; have r0 := hBr.cell (i := 0) rfl; have r1 := hBr.cell (i := 1) rfl; have r2 := hBr.cell (i := 2) rfl; have r3 := hBr.cell (i := 3) rfl; have r4 := hBr.cell (i := 4) rfl; have r5 := hBr.cell (i := 5) rfl; have rf := hBr.frozen; have rl := hBr.lt
  go_wp2_with (refine list_store_blk rfl 54 _ _ rfl (w.heap.size + 1 + 1 + 1) [.int .i64 0, .bool false, .int .u64 0, .int .u64 0, .int .i64 0, .bool false, .int .i64 0, .int .i64 0, .int .i64 0, .int .i64 0, .int .i64 0, .slice none 0 0, .slice none 0 0] _ 54 (by ((refine RchW.get ?_); (repeat (first | with_reducible refine reach_set ?_ | with_reducible refine reach_other (by first | assumption | omega) ?_ | with_reducible refine reach_alloc ?_ | with_reducible refine reach_drew ?_)); exact reach_at (hBv) rfl)) rfl rfl (by kernel_rfl) rfl (by simp [Value.oneCell']) w.heap.size w (by exact bel) (by omega) ?_; intro wz hOz hothz hszz bwz; have hMz := hothz (w.heap.size + 1 + 1) [.int .i64 x0, .int .i64 x1, .slice a1 n1 c1, .slice a2 n2 c2, .slice a3 n3 c3, .slice a4 n4 c4] 40 (by omega) (by ((refine RchW.get ?_); (repeat (first | with_reducible refine reach_set ?_ | with_reducible refine reach_other (by first | assumption | omega) ?_ | with_reducible refine reach_alloc ?_ | with_reducible refine reach_drew ?_)); exact reach_at (hBr) rfl)); have hM9 : BlockIs wz (w.heap.size + 1 + 1) [.int .i64 x0, .int .i64 x1, .slice a1 n1 c1, .slice a2 n2 c2, .slice a3 n3 c3, .slice a4 n4 c4] 40 := hMz; have hV9 : BlockIs wz (w.heap.size + 1 + 1 + 1) [.int .i64 0, .bool false, .int .u64 0, .int .u64 0, .int .i64 0, .bool false, .int .i64 0, .int .i64 0, .int .i64 0, .int .i64 0, .int .i64 0, .slice none 0 0, .slice none 0 0] 54 := hOz; have e90 := hM9.cell (i := 0) rfl; have e91 := hM9.cell (i := 1) rfl; have e92 := hM9.cell (i := 2) rfl; have e93 := hM9.cell (i := 3) rfl; have e94 := hM9.cell (i := 4) rfl; have e95 := hM9.cell (i := 5) rfl; have v90 := hV9.cell (i := 0) rfl; have v91 := hV9.cell (i := 1) rfl; have v92 := hV9.cell (i := 2) rfl; have v93 := hV9.cell (i := 3) rfl; have v94 := hV9.cell (i := 4) rfl; have v95 := hV9.cell (i := 5) rfl; have v96 := hV9.cell (i := 6) rfl; have v97 := hV9.cell (i := 7) rfl; have v98 := hV9.cell (i := 8) rfl; have v99 := hV9.cell (i := 9) rfl; have v910 := hV9.cell (i := 10) rfl; have v911 := hV9.cell (i := 11) rfl; have v912 := hV9.cell (i := 12) rfl)
  refine bodyPost_ret (v := .tuple #[.agg #[.int .i64 x0, .int .i64 x1, .slice a1 n1 c1, .slice a2 n2 c2, .slice a3 n3 c3, .slice a4 n4 c4], .agg #[.int .i64 0, .bool false, .int .u64 0, .int .u64 0, .int .i64 0, .bool false, .int .i64 0, .int .i64 0, .int .i64 0, .int .i64 0, .int .i64 0, .slice none 0 0, .slice none 0 0]]) ?_ ?_ ?_
  · simp [results, Tryz.results49, go_sem, e90, e91, e92, e93, e94, e95, v90, v91, v92, v93, v94, v95, v96, v97, v98, v99, v910, v911, v912]
  · rfl
  · exact ⟨m, numVm 0, (by rw [HMM.out]; rfl), fun W hW => hW, fun W => numVm_at _ _, rfl, rfl, bwz⟩

set_option maxRecDepth 100000 in
set_option maxHeartbeats 8000000 in
theorem memSwap_iy (m : Mm) (o : Oq) (w : World) (h : MmAt w m) (ho : OqAt w o) (h2 : ¬ o.lk = 2) (he : m.inn = o.old) :
    Calls Tryz.prog 49 #[.agg #[.int .i64 m.inn, .int .i64 m.out, m.bans.1, m.book.1, m.parts.1, m.locks.1], .agg #[.int .i64 o.kind, .int .i64 o.lock, .int .i64 o.lk, .int .i64 o.ls, .int .i64 o.lt, .int .i64 o.old, .int .i64 o.new, .int .i64 o.vn, .bool o.pe.en.ad.v6, .int .u64 o.pe.en.ad.hi, .int .u64 o.pe.en.ad.lo, .int .i64 o.pe.en.port, .bool o.pe.came, .int .i64 o.pe.since, .int .i64 o.pe.pts, .int .i64 o.pe.at_, .int .i64 o.pe.ping, .int .i64 o.pe.work, o.bans.1, o.book.1, .bool o.mark]] w (GivesMv w m (swapP m.pl o.lk o.old o.new)) := by
  have hres : swapP m.pl o.lk o.old o.new = ({ m.pl with inn := o.new }, { zeroVp with n := 1 }) := by unfold swapP; rw [if_neg h2]; exact if_pos he
  rw [hres]
  unfold GivesMv
  have HM := Lib.hid h
  obtain ⟨a1, a2, a3, a4, c1, c2, c3, c4, e1, e2, e3, e4⟩ := mm_slices h
  obtain ⟨_, oa, oc, eo, _⟩ := ba_open ho.1
  obtain ⟨_, ka, kc, ek, _⟩ := ey_open ho.2
  have hmm : m = ⟨m.inn, m.out, (.slice a1 m.bans.2.length c1, m.bans.2), (.slice a2 m.book.2.length c2, m.book.2), (.slice a3 m.parts.2.length c3, m.parts.2), (.slice a4 m.locks.2.length c4, m.locks.2)⟩ := by rw [← e1, ← e2, ← e3, ← e4]
  have HMM := Lib.hid hmm
  rw [e1, e2, e3, e4, eo, ek]
  clear hres e1 e2 e3 e4 eo ek ho hmm
  obtain ⟨x0, hx0⟩ : ∃ x, x = m.inn := ⟨_, rfl⟩
  obtain ⟨x1, hx1⟩ : ∃ x, x = m.out := ⟨_, rfl⟩
  obtain ⟨n1, hn1⟩ : ∃ n, n = m.bans.2.length := ⟨_, rfl⟩
  obtain ⟨n2, hn2⟩ : ∃ n, n = m.book.2.length := ⟨_, rfl⟩
  obtain ⟨n3, hn3⟩ : ∃ n, n = m.parts.2.length := ⟨_, rfl⟩
  obtain ⟨n4, hn4⟩ : ∃ n, n = m.locks.2.length := ⟨_, rfl⟩
  rw [← hx0, ← hx1, ← hn1, ← hn2, ← hn3, ← hn4]
  rw [← hx0, ← hx1, ← hn1, ← hn2, ← hn3, ← hn4] at HMM
  rw [← hx0] at he
  have hx00 := Lib.hid hx0; have hx01 := Lib.hid hx1
  generalize hob : (Value.slice oa o.bans.2.length oc) = ob at *
  generalize hok : (Value.slice ka o.book.2.length kc) = ok at *
  have hb1 : ob.oneCell' = true := by rw [← hob]; rfl
  have hk1 : ok.oneCell' = true := by rw [← hok]; rfl
  clear h hx0 hx1 hn1 hn2 hn3 hn4 hob hok
  have f1 : (o.lk == 2) = false := beq_eq_false_iff_ne.2 h2
  have f2 : (x0 != o.old) = false := by simpa using he
  have HE_ := Lib.hid he; have H2_ := Lib.hid h2
  clear he h2
  go_enter Tryz.func49, Tryz.ntmps49
  go_upto_region 4 with fail
  obtain ⟨W4, hW4⟩ : ∃ W4, W4 = (((w.alloc (.cells #[.int .i64 x0, .int .i64 x1, .slice a1 n1 c1, .slice a2 n2 c2, .slice a3 n3 c3, .slice a4 n4 c4] 40)).alloc (.cells #[.int .i64 o.kind, .int .i64 o.lock, .int .i64 o.lk, .int .i64 o.ls, .int .i64 o.lt, .int .i64 o.old, .int .i64 o.new, .int .i64 o.vn, .bool o.pe.en.ad.v6, .int .u64 o.pe.en.ad.hi, .int .u64 o.pe.en.ad.lo, .int .i64 o.pe.en.port, .bool o.pe.came, .int .i64 o.pe.since, .int .i64 o.pe.pts, .int .i64 o.pe.at_, .int .i64 o.pe.ping, .int .i64 o.pe.work, ob, ok, .bool o.mark] 56)).alloc (.cells #[.int .i64 0, .int .i64 0, .slice none 0 0, .slice none 0 0, .slice none 0 0, .slice none 0 0] 40)).alloc (.cells #[.int .i64 0, .bool false, .int .u64 0, .int .u64 0, .int .i64 0, .bool false, .int .i64 0, .int .i64 0, .int .i64 0, .int .i64 0, .int .i64 0, .slice none 0 0, .slice none 0 0] 54) := ⟨_, rfl⟩
  rw [← hW4]
  have B4 : Below w.heap.size w W4 := by subst hW4; exact bel
  have hBm : BlockIs W4 w.heap.size [.int .i64 x0, .int .i64 x1, .slice a1 n1 c1, .slice a2 n2 c2, .slice a3 n3 c3, .slice a4 n4 c4] 40 := by subst hW4; exact (((BlockIs.new w [.int .i64 x0, .int .i64 x1, .slice a1 n1 c1, .slice a2 n2 c2, .slice a3 n3 c3, .slice a4 n4 c4] _).alloc' _).alloc' _).alloc' _
  have hBo : BlockIs W4 (w.heap.size + 1) [.int .i64 o.kind, .int .i64 o.lock, .int .i64 o.lk, .int .i64 o.ls, .int .i64 o.lt, .int .i64 o.old, .int .i64 o.new, .int .i64 o.vn, .bool o.pe.en.ad.v6, .int .u64 o.pe.en.ad.hi, .int .u64 o.pe.en.ad.lo, .int .i64 o.pe.en.port, .bool o.pe.came, .int .i64 o.pe.since, .int .i64 o.pe.pts, .int .i64 o.pe.at_, .int .i64 o.pe.ping, .int .i64 o.pe.work, ob, ok, .bool o.mark] 56 := by subst hW4; exact ((BlockIs.newAt' _ [.int .i64 o.kind, .int .i64 o.lock, .int .i64 o.lk, .int .i64 o.ls, .int .i64 o.lt, .int .i64 o.old, .int .i64 o.new, .int .i64 o.vn, .bool o.pe.en.ad.v6, .int .u64 o.pe.en.ad.hi, .int .u64 o.pe.en.ad.lo, .int .i64 o.pe.en.port, .bool o.pe.came, .int .i64 o.pe.since, .int .i64 o.pe.pts, .int .i64 o.pe.at_, .int .i64 o.pe.ping, .int .i64 o.pe.work, ob, ok, .bool o.mark] _ (by simp)).alloc' _).alloc' _
  have hBr : BlockIs W4 (w.heap.size + 1 + 1) [.int .i64 0, .int .i64 0, .slice none 0 0, .slice none 0 0, .slice none 0 0, .slice none 0 0] 40 := by subst hW4; exact (BlockIs.newAt' _ [.int .i64 0, .int .i64 0, .slice none 0 0, .slice none 0 0, .slice none 0 0, .slice none 0 0] _ (by simp)).alloc' _
  have hBv : BlockIs W4 (w.heap.size + 1 + 1 + 1) [.int .i64 0, .bool false, .int .u64 0, .int .u64 0, .int .i64 0, .bool false, .int .i64 0, .int .i64 0, .int .i64 0, .int .i64 0, .int .i64 0, .slice none 0 0, .slice none 0 0] 54 := by subst hW4; exact BlockIs.newAt' _ [.int .i64 0, .bool false, .int .u64 0, .int .u64 0, .int .i64 0, .bool false, .int .i64 0, .int .i64 0, .int .i64 0, .int .i64 0, .int .i64 0, .slice none 0 0, .slice none 0 0] _ (by simp)
  clear hW4
  have p0 := fun Y => (hBm.below (ext_below W4 Y)).cell (i := 0) rfl
  have p1 := fun Y => (hBm.below (ext_below W4 Y)).cell (i := 1) rfl
  have p5 := fun Y => (hBo.below (ext_below W4 Y)).cell (i := 5) rfl
  refine wp_region_ext (by kernel_rfl) (by kernel_rfl) ?_
  repeat (go_big_quiet_step (fail))
  refine wpQuiet_nil ?_
  intro _ hw'
  obtain ⟨gx, hw''⟩ := hw'
  subst hw''
  clear p0 p1 p5
  have B5 : Below w.heap.size w (ext W4 gx) := B4.trans ((ext_below W4 gx).mono B4.size)
  have hBm := hBm.below (ext_below W4 gx); have hBo := hBo.below (ext_below W4 gx); have hBr := hBr.below (ext_below W4 gx); have hBv := hBv.below (ext_below W4 gx)
  generalize ext W4 gx = W5 at *
  have m0 := hBm.cell (i := 0) rfl; have m1 := hBm.cell (i := 1) rfl; have m2 := hBm.cell (i := 2) rfl; have m3 := hBm.cell (i := 3) rfl; have m4 := hBm.cell (i := 4) rfl; have m5 := hBm.cell (i := 5) rfl; have mf := hBm.frozen; have ml := hBm.lt; have o6 := hBo.cell (i := 6) rfl; have r0 := hBr.cell (i := 0) rfl; have r1 := hBr.cell (i := 1) rfl; have r2 := hBr.cell (i := 2) rfl; have r3 := hBr.cell (i := 3) rfl; have r4 := hBr.cell (i := 4) rfl; have r5 := hBr.cell (i := 5) rfl; have rf := hBr.frozen; have rl := hBr.lt
  go_wp2_with (refine list_store_blk rfl 54 _ _ rfl (w.heap.size + 1 + 1 + 1) [.int .i64 0, .bool false, .int .u64 0, .int .u64 0, .int .i64 0, .bool false, .int .i64 0, .int .i64 0, .int .i64 0, .int .i64 0, .int .i64 0, .slice none 0 0, .slice none 0 0] _ 54 (by ((refine RchW.get ?_); (repeat (first | with_reducible refine reach_set ?_ | with_reducible refine reach_other (by first | assumption | omega) ?_ | with_reducible refine reach_alloc ?_ | with_reducible refine reach_drew ?_)); exact reach_at (hBv) rfl)) rfl rfl (by kernel_rfl) rfl (by simp [Value.oneCell']) w.heap.size w (by exact bel) (by omega) ?_; intro wz hOz hothz hszz bwz; have hMz := hothz (w.heap.size + 1 + 1) [.int .i64 o.new, .int .i64 x1, .slice a1 n1 c1, .slice a2 n2 c2, .slice a3 n3 c3, .slice a4 n4 c4] 40 (by omega) (by ((refine RchW.get ?_); (repeat (first | with_reducible refine reach_set ?_ | with_reducible refine reach_other (by first | assumption | omega) ?_ | with_reducible refine reach_alloc ?_ | with_reducible refine reach_drew ?_)); exact reach_at (hBr) rfl)); have hM9 : BlockIs wz (w.heap.size + 1 + 1) [.int .i64 o.new, .int .i64 x1, .slice a1 n1 c1, .slice a2 n2 c2, .slice a3 n3 c3, .slice a4 n4 c4] 40 := hMz; have hV9 : BlockIs wz (w.heap.size + 1 + 1 + 1) [.int .i64 1, .bool false, .int .u64 0, .int .u64 0, .int .i64 0, .bool false, .int .i64 0, .int .i64 0, .int .i64 0, .int .i64 0, .int .i64 0, .slice none 0 0, .slice none 0 0] 54 := hOz; have e90 := hM9.cell (i := 0) rfl; have e91 := hM9.cell (i := 1) rfl; have e92 := hM9.cell (i := 2) rfl; have e93 := hM9.cell (i := 3) rfl; have e94 := hM9.cell (i := 4) rfl; have e95 := hM9.cell (i := 5) rfl; have v90 := hV9.cell (i := 0) rfl; have v91 := hV9.cell (i := 1) rfl; have v92 := hV9.cell (i := 2) rfl; have v93 := hV9.cell (i := 3) rfl; have v94 := hV9.cell (i := 4) rfl; have v95 := hV9.cell (i := 5) rfl; have v96 := hV9.cell (i := 6) rfl; have v97 := hV9.cell (i := 7) rfl; have v98 := hV9.cell (i := 8) rfl; have v99 := hV9.cell (i := 9) rfl; have v910 := hV9.cell (i := 10) rfl; have v911 := hV9.cell (i := 11) rfl; have v912 := hV9.cell (i := 12) rfl)
  refine bodyPost_ret (v := .tuple #[.agg #[.int .i64 o.new, .int .i64 x1, .slice a1 n1 c1, .slice a2 n2 c2, .slice a3 n3 c3, .slice a4 n4 c4], .agg #[.int .i64 1, .bool false, .int .u64 0, .int .u64 0, .int .i64 0, .bool false, .int .i64 0, .int .i64 0, .int .i64 0, .int .i64 0, .int .i64 0, .slice none 0 0, .slice none 0 0]]) ?_ ?_ ?_
  · simp [results, Tryz.results49, go_sem, e90, e91, e92, e93, e94, e95, v90, v91, v92, v93, v94, v95, v96, v97, v98, v99, v910, v911, v912]
  · rfl
  · exact ⟨{ m with inn := o.new }, numVm 1, (by rw [HMM.out]; rfl), fun W hW => hW, fun W => numVm_at _ _, rfl, rfl, bwz⟩

set_option maxRecDepth 100000 in
set_option maxHeartbeats 8000000 in
theorem memSwap_in (m : Mm) (o : Oq) (w : World) (h : MmAt w m) (ho : OqAt w o) (h2 : ¬ o.lk = 2) (he : ¬ m.inn = o.old) :
    Calls Tryz.prog 49 #[.agg #[.int .i64 m.inn, .int .i64 m.out, m.bans.1, m.book.1, m.parts.1, m.locks.1], .agg #[.int .i64 o.kind, .int .i64 o.lock, .int .i64 o.lk, .int .i64 o.ls, .int .i64 o.lt, .int .i64 o.old, .int .i64 o.new, .int .i64 o.vn, .bool o.pe.en.ad.v6, .int .u64 o.pe.en.ad.hi, .int .u64 o.pe.en.ad.lo, .int .i64 o.pe.en.port, .bool o.pe.came, .int .i64 o.pe.since, .int .i64 o.pe.pts, .int .i64 o.pe.at_, .int .i64 o.pe.ping, .int .i64 o.pe.work, o.bans.1, o.book.1, .bool o.mark]] w (GivesMv w m (swapP m.pl o.lk o.old o.new)) := by
  have hres : swapP m.pl o.lk o.old o.new = (m.pl, zeroVp) := by unfold swapP; rw [if_neg h2]; exact if_neg he
  rw [hres]
  unfold GivesMv
  have HM := Lib.hid h
  obtain ⟨a1, a2, a3, a4, c1, c2, c3, c4, e1, e2, e3, e4⟩ := mm_slices h
  obtain ⟨_, oa, oc, eo, _⟩ := ba_open ho.1
  obtain ⟨_, ka, kc, ek, _⟩ := ey_open ho.2
  have hmm : m = ⟨m.inn, m.out, (.slice a1 m.bans.2.length c1, m.bans.2), (.slice a2 m.book.2.length c2, m.book.2), (.slice a3 m.parts.2.length c3, m.parts.2), (.slice a4 m.locks.2.length c4, m.locks.2)⟩ := by rw [← e1, ← e2, ← e3, ← e4]
  have HMM := Lib.hid hmm
  rw [e1, e2, e3, e4, eo, ek]
  clear hres e1 e2 e3 e4 eo ek ho hmm
  obtain ⟨x0, hx0⟩ : ∃ x, x = m.inn := ⟨_, rfl⟩
  obtain ⟨x1, hx1⟩ : ∃ x, x = m.out := ⟨_, rfl⟩
  obtain ⟨n1, hn1⟩ : ∃ n, n = m.bans.2.length := ⟨_, rfl⟩
  obtain ⟨n2, hn2⟩ : ∃ n, n = m.book.2.length := ⟨_, rfl⟩
  obtain ⟨n3, hn3⟩ : ∃ n, n = m.parts.2.length := ⟨_, rfl⟩
  obtain ⟨n4, hn4⟩ : ∃ n, n = m.locks.2.length := ⟨_, rfl⟩
  rw [← hx0, ← hx1, ← hn1, ← hn2, ← hn3, ← hn4]
  rw [← hx0, ← hx1, ← hn1, ← hn2, ← hn3, ← hn4] at HMM
  rw [← hx0] at he
  have hx00 := Lib.hid hx0; have hx01 := Lib.hid hx1
  generalize hob : (Value.slice oa o.bans.2.length oc) = ob at *
  generalize hok : (Value.slice ka o.book.2.length kc) = ok at *
  have hb1 : ob.oneCell' = true := by rw [← hob]; rfl
  have hk1 : ok.oneCell' = true := by rw [← hok]; rfl
  clear h hx0 hx1 hn1 hn2 hn3 hn4 hob hok
  have f1 : (o.lk == 2) = false := beq_eq_false_iff_ne.2 h2
  have f2 : (x0 != o.old) = true := by simpa using he
  have HE_ := Lib.hid he; have H2_ := Lib.hid h2
  clear he h2
  go_enter Tryz.func49, Tryz.ntmps49
  go_upto_region 4 with fail
  obtain ⟨W4, hW4⟩ : ∃ W4, W4 = (((w.alloc (.cells #[.int .i64 x0, .int .i64 x1, .slice a1 n1 c1, .slice a2 n2 c2, .slice a3 n3 c3, .slice a4 n4 c4] 40)).alloc (.cells #[.int .i64 o.kind, .int .i64 o.lock, .int .i64 o.lk, .int .i64 o.ls, .int .i64 o.lt, .int .i64 o.old, .int .i64 o.new, .int .i64 o.vn, .bool o.pe.en.ad.v6, .int .u64 o.pe.en.ad.hi, .int .u64 o.pe.en.ad.lo, .int .i64 o.pe.en.port, .bool o.pe.came, .int .i64 o.pe.since, .int .i64 o.pe.pts, .int .i64 o.pe.at_, .int .i64 o.pe.ping, .int .i64 o.pe.work, ob, ok, .bool o.mark] 56)).alloc (.cells #[.int .i64 0, .int .i64 0, .slice none 0 0, .slice none 0 0, .slice none 0 0, .slice none 0 0] 40)).alloc (.cells #[.int .i64 0, .bool false, .int .u64 0, .int .u64 0, .int .i64 0, .bool false, .int .i64 0, .int .i64 0, .int .i64 0, .int .i64 0, .int .i64 0, .slice none 0 0, .slice none 0 0] 54) := ⟨_, rfl⟩
  rw [← hW4]
  have B4 : Below w.heap.size w W4 := by subst hW4; exact bel
  have hBm : BlockIs W4 w.heap.size [.int .i64 x0, .int .i64 x1, .slice a1 n1 c1, .slice a2 n2 c2, .slice a3 n3 c3, .slice a4 n4 c4] 40 := by subst hW4; exact (((BlockIs.new w [.int .i64 x0, .int .i64 x1, .slice a1 n1 c1, .slice a2 n2 c2, .slice a3 n3 c3, .slice a4 n4 c4] _).alloc' _).alloc' _).alloc' _
  have hBo : BlockIs W4 (w.heap.size + 1) [.int .i64 o.kind, .int .i64 o.lock, .int .i64 o.lk, .int .i64 o.ls, .int .i64 o.lt, .int .i64 o.old, .int .i64 o.new, .int .i64 o.vn, .bool o.pe.en.ad.v6, .int .u64 o.pe.en.ad.hi, .int .u64 o.pe.en.ad.lo, .int .i64 o.pe.en.port, .bool o.pe.came, .int .i64 o.pe.since, .int .i64 o.pe.pts, .int .i64 o.pe.at_, .int .i64 o.pe.ping, .int .i64 o.pe.work, ob, ok, .bool o.mark] 56 := by subst hW4; exact ((BlockIs.newAt' _ [.int .i64 o.kind, .int .i64 o.lock, .int .i64 o.lk, .int .i64 o.ls, .int .i64 o.lt, .int .i64 o.old, .int .i64 o.new, .int .i64 o.vn, .bool o.pe.en.ad.v6, .int .u64 o.pe.en.ad.hi, .int .u64 o.pe.en.ad.lo, .int .i64 o.pe.en.port, .bool o.pe.came, .int .i64 o.pe.since, .int .i64 o.pe.pts, .int .i64 o.pe.at_, .int .i64 o.pe.ping, .int .i64 o.pe.work, ob, ok, .bool o.mark] _ (by simp)).alloc' _).alloc' _
  have hBr : BlockIs W4 (w.heap.size + 1 + 1) [.int .i64 0, .int .i64 0, .slice none 0 0, .slice none 0 0, .slice none 0 0, .slice none 0 0] 40 := by subst hW4; exact (BlockIs.newAt' _ [.int .i64 0, .int .i64 0, .slice none 0 0, .slice none 0 0, .slice none 0 0, .slice none 0 0] _ (by simp)).alloc' _
  have hBv : BlockIs W4 (w.heap.size + 1 + 1 + 1) [.int .i64 0, .bool false, .int .u64 0, .int .u64 0, .int .i64 0, .bool false, .int .i64 0, .int .i64 0, .int .i64 0, .int .i64 0, .int .i64 0, .slice none 0 0, .slice none 0 0] 54 := by subst hW4; exact BlockIs.newAt' _ [.int .i64 0, .bool false, .int .u64 0, .int .u64 0, .int .i64 0, .bool false, .int .i64 0, .int .i64 0, .int .i64 0, .int .i64 0, .int .i64 0, .slice none 0 0, .slice none 0 0] _ (by simp)
  clear hW4
  have p0 := fun Y => (hBm.below (ext_below W4 Y)).cell (i := 0) rfl
  have p1 := fun Y => (hBm.below (ext_below W4 Y)).cell (i := 1) rfl
  have p5 := fun Y => (hBo.below (ext_below W4 Y)).cell (i := 5) rfl
  refine wp_region_ext (by kernel_rfl) (by kernel_rfl) ?_
  repeat (go_big_quiet_step (fail))
  refine wpQuiet_nil ?_
  intro _ hw'
  obtain ⟨gx, hw''⟩ := hw'
  subst hw''
  clear p0 p1 p5
  have B5 : Below w.heap.size w (ext W4 gx) := B4.trans ((ext_below W4 gx).mono B4.size)
  have hBm := hBm.below (ext_below W4 gx); have hBo := hBo.below (ext_below W4 gx); have hBr := hBr.below (ext_below W4 gx); have hBv := hBv.below (ext_below W4 gx)
  generalize ext W4 gx = W5 at *
  have m0 := hBm.cell (i := 0) rfl; have m1 := hBm.cell (i := 1) rfl; have m2 := hBm.cell (i := 2) rfl; have m3 := hBm.cell (i := 3) rfl; have m4 := hBm.cell (i := 4) rfl; have m5 := hBm.cell (i := 5) rfl; have mf := hBm.frozen; have ml := hBm.lt; have o6 := hBo.cell (i := 6) rfl; have r0 := hBr.cell (i := 0) rfl; have r1 := hBr.cell (i := 1) rfl; have r2 := hBr.cell (i := 2) rfl; have r3 := hBr.cell (i := 3) rfl; have r4 := hBr.cell (i := 4) rfl; have r5 := hBr.cell (i := 5) rfl; have rf := hBr.frozen; have rl := hBr.lt
  go_wp2_with (refine list_store_blk rfl 54 _ _ rfl (w.heap.size + 1 + 1 + 1) [.int .i64 0, .bool false, .int .u64 0, .int .u64 0, .int .i64 0, .bool false, .int .i64 0, .int .i64 0, .int .i64 0, .int .i64 0, .int .i64 0, .slice none 0 0, .slice none 0 0] _ 54 (by ((refine RchW.get ?_); (repeat (first | with_reducible refine reach_set ?_ | with_reducible refine reach_other (by first | assumption | omega) ?_ | with_reducible refine reach_alloc ?_ | with_reducible refine reach_drew ?_)); exact reach_at (hBv) rfl)) rfl rfl (by kernel_rfl) rfl (by simp [Value.oneCell']) w.heap.size w (by exact bel) (by omega) ?_; intro wz hOz hothz hszz bwz; have hMz := hothz (w.heap.size + 1 + 1) [.int .i64 x0, .int .i64 x1, .slice a1 n1 c1, .slice a2 n2 c2, .slice a3 n3 c3, .slice a4 n4 c4] 40 (by omega) (by ((refine RchW.get ?_); (repeat (first | with_reducible refine reach_set ?_ | with_reducible refine reach_other (by first | assumption | omega) ?_ | with_reducible refine reach_alloc ?_ | with_reducible refine reach_drew ?_)); exact reach_at (hBr) rfl)); have hM9 : BlockIs wz (w.heap.size + 1 + 1) [.int .i64 x0, .int .i64 x1, .slice a1 n1 c1, .slice a2 n2 c2, .slice a3 n3 c3, .slice a4 n4 c4] 40 := hMz; have hV9 : BlockIs wz (w.heap.size + 1 + 1 + 1) [.int .i64 0, .bool false, .int .u64 0, .int .u64 0, .int .i64 0, .bool false, .int .i64 0, .int .i64 0, .int .i64 0, .int .i64 0, .int .i64 0, .slice none 0 0, .slice none 0 0] 54 := hOz; have e90 := hM9.cell (i := 0) rfl; have e91 := hM9.cell (i := 1) rfl; have e92 := hM9.cell (i := 2) rfl; have e93 := hM9.cell (i := 3) rfl; have e94 := hM9.cell (i := 4) rfl; have e95 := hM9.cell (i := 5) rfl; have v90 := hV9.cell (i := 0) rfl; have v91 := hV9.cell (i := 1) rfl; have v92 := hV9.cell (i := 2) rfl; have v93 := hV9.cell (i := 3) rfl; have v94 := hV9.cell (i := 4) rfl; have v95 := hV9.cell (i := 5) rfl; have v96 := hV9.cell (i := 6) rfl; have v97 := hV9.cell (i := 7) rfl; have v98 := hV9.cell (i := 8) rfl; have v99 := hV9.cell (i := 9) rfl; have v910 := hV9.cell (i := 10) rfl; have v911 := hV9.cell (i := 11) rfl; have v912 := hV9.cell (i := 12) rfl)
  refine bodyPost_ret (v := .tuple #[.agg #[.int .i64 x0, .int .i64 x1, .slice a1 n1 c1, .slice a2 n2 c2, .slice a3 n3 c3, .slice a4 n4 c4], .agg #[.int .i64 0, .bool false, .int .u64 0, .int .u64 0, .int .i64 0, .bool false, .int .i64 0, .int .i64 0, .int .i64 0, .int .i64 0, .int .i64 0, .slice none 0 0, .slice none 0 0]]) ?_ ?_ ?_
  · simp [results, Tryz.results49, go_sem, e90, e91, e92, e93, e94, e95, v90, v91, v92, v93, v94, v95, v96, v97, v98, v99, v910, v911, v912]
  · rfl
  · exact ⟨m, numVm 0, (by rw [HMM.out]; rfl), fun W hW => hW, fun W => numVm_at _ _, rfl, rfl, bwz⟩

end Go.Proofs.YtnplgagaoeckoaaGreat
