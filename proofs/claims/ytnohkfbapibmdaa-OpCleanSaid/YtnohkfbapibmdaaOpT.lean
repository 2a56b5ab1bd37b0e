/- The contracts of operations: the words of places and of values. -/
import Derived.Test.YtnohkfbapibmdaaOwn
import Derived.Test.YtnohkfbapibmdaaEnd
import Derived.Test.YtnohkfbapibmdaaQ936186xmlotn
import Derived.Test.YtnohkfbapibmdaaOpC
import Derived.Test.YtnohkfbapibmdaaBlk
namespace Go.Proofs.Ytnohkfbapibmdaa
open Go.RowKit
set_option linter.unusedSimpArgs false
set_option linter.unusedVariables false

theorem locW5 (s t : Int) : locW 5 s t = [nameAt locN 5, decText s] := rfl
theorem locW6 (s t : Int) : locW 6 s t = [nameAt locN 6, decText s, decText t] := rfl
theorem locWx {k s t : Int} (h : k ≠ 5 ∧ k ≠ 6) : locW k s t = [nameAt locN k] := by unfold locW; rw [if_neg (by omega), if_neg (by omega)]; rfl
set_option maxRecDepth 100000 in
set_option maxHeartbeats 8000000 in
theorem opWhere_any (k s t : Int) (hs : i64 s) (ht : i64 t) (w : World) : Calls Try.prog 96 #[.agg #[.int .i64 k, .int .i64 s, .int .i64 t]] w (GivesStrs w (locW k s t)) := by
  have HC := Lib.hid (fun w => codeLoc_any k w)
  have HS := Lib.hid (fun w => decText_any s hs.1 hs.2 w)
  have HT := Lib.hid (fun w => decText_any t ht.1 ht.2 w)
  unfold GivesStrs
  clear hs ht
  rcases (show k = 5 ∨ k = 6 ∨ (k ≠ 5 ∧ k ≠ 6) by omega) with rfl | rfl | h
  · rw [locW5]
    generalize nameAt locN 5 = nm at *
    generalize decText s = ts at *
    generalize decText t = tt at *
    go_enter Try.func96, Try.ntmps96
    go_upto_region 2 with (go_at_call 142; (with_reducible refine (HC.out _).mono ?_); rintro e w1 ⟨rfl, b1⟩; obtain ⟨c1, f1⟩ := bcell b1; have z1 := b1.size; (try simp at z1); have l1a : w.heap.size < w1.heap.size := (by omega); have n1a := Nat.ne_of_lt l1a; have d1a := fun o => c1 (w.heap.size) o (by first | omega | (simp; done) | (simp; omega)); clear c1 f1)
    go_name_world WWx hWWx
    have hB : BlockIs WWx w1.heap.size [.string (bs nm)] 9 := by subst hWWx; exact BlockIs.new w1 [.string (bs nm)] 9
    have x0 : WWx.cell? ⟨w.heap.size, 0, none⟩ = some (.int .i64 5) := by subst hWWx; (first | (simp [go_sem, *]; done) | (simp (disch := first | omega | (simp; omega) | (simp [go_sem, *]; done)) [go_sem, World.cell?_setCell_far, World.cell?_alloc_past, World.frozen?_alloc_past, *]; done))
    have x1 : WWx.cell? ⟨w.heap.size, 1, none⟩ = some (.int .i64 s) := by subst hWWx; (first | (simp [go_sem, *]; done) | (simp (disch := first | omega | (simp; omega) | (simp [go_sem, *]; done)) [go_sem, World.cell?_setCell_far, World.cell?_alloc_past, World.frozen?_alloc_past, *]; done))
    have x2 : WWx.cell? ⟨w.heap.size, 2, none⟩ = some (.int .i64 t) := by subst hWWx; (first | (simp [go_sem, *]; done) | (simp (disch := first | omega | (simp; omega) | (simp [go_sem, *]; done)) [go_sem, World.cell?_setCell_far, World.cell?_alloc_past, World.frozen?_alloc_past, *]; done))
    have bwx : Below w.heap.size w WWx := by subst hWWx; (repeat (first | with_reducible assumption | with_reducible exact Below.refl _ _ | with_reducible refine Below.setCell ?_ (by first | omega | (simp; done) | (simp; omega)) _ | with_reducible refine Below.alloc ?_ (by first | omega | (simp; done) | (simp; omega)) _ | with_reducible refine Below.drew ?_ | (with_reducible refine Below.trans ?_ (Below.mono (by with_reducible assumption) (by first | omega | (simp; done) | (simp; omega)))) | (refine Below.trans ?_ (Below.mono (by assumption) (by first | omega | (simp; done) | (simp; omega))))))
    have lwx : w.heap.size < w1.heap.size := by omega
    have zwx := hB.lt
    clear hWWx
    have own0 := owns_one hB (Nat.le_refl _)
    have bel0 := Below.refl w1.heap.size WWx
    go_wp2_with (first | (go_at_call 87; (with_reducible refine (HS.out _).mono ?_); rintro e wc1 ⟨rfl, bc1⟩; have zc1 := bc1.size; have belc1 := Below.trans bel0 (bc1.mono (show w1.heap.size ≤ _ from by omega)); have ownc1 := owns_below own0 bc1; have dc1 := fun o => belc1.cell (p := ⟨w.heap.size, o, none⟩) lwx) | (at_builtin; refine list_app strRow rfl (.tmp 16) (.tmp 20) rfl w1.heap.size _ _ _ rfl ownc1 [_] rfl rfl rfl (by omega) (by omega) (by omega) w1.heap.size WWx belc1 (Nat.le_refl _) ?_; intro vg1 wg1 owng1 belg1; have zg1 := belg1.size; have dg1 := fun o => belg1.cell (p := ⟨w.heap.size, o, none⟩) lwx))
    go_ret
    exact ⟨_, rfl, by simpa [sv] using owns_base owng1 (Nat.le_of_lt lwx), bwx.trans (belg1.mono (Nat.le_of_lt lwx))⟩
  · rw [locW6]
    generalize nameAt locN 6 = nm at *
    generalize decText s = ts at *
    generalize decText t = tt at *
    go_enter Try.func96, Try.ntmps96
    go_upto_region 2 with (go_at_call 142; (with_reducible refine (HC.out _).mono ?_); rintro e w1 ⟨rfl, b1⟩; obtain ⟨c1, f1⟩ := bcell b1; have z1 := b1.size; (try simp at z1); have l1a : w.heap.size < w1.heap.size := (by omega); have n1a := Nat.ne_of_lt l1a; have d1a := fun o => c1 (w.heap.size) o (by first | omega | (simp; done) | (simp; omega)); clear c1 f1)
    go_name_world WWx hWWx
    have hB : BlockIs WWx w1.heap.size [.string (bs nm)] 9 := by subst hWWx; exact BlockIs.new w1 [.string (bs nm)] 9
    have x0 : WWx.cell? ⟨w.heap.size, 0, none⟩ = some (.int .i64 6) := by subst hWWx; (first | (simp [go_sem, *]; done) | (simp (disch := first | omega | (simp; omega) | (simp [go_sem, *]; done)) [go_sem, World.cell?_setCell_far, World.cell?_alloc_past, World.frozen?_alloc_past, *]; done))
    have x1 : WWx.cell? ⟨w.heap.size, 1, none⟩ = some (.int .i64 s) := by subst hWWx; (first | (simp [go_sem, *]; done) | (simp (disch := first | omega | (simp; omega) | (simp [go_sem, *]; done)) [go_sem, World.cell?_setCell_far, World.cell?_alloc_past, World.frozen?_alloc_past, *]; done))
    have x2 : WWx.cell? ⟨w.heap.size, 2, none⟩ = some (.int .i64 t) := by subst hWWx; (first | (simp [go_sem, *]; done) | (simp (disch := first | omega | (simp; omega) | (simp [go_sem, *]; done)) [go_sem, World.cell?_setCell_far, World.cell?_alloc_past, World.frozen?_alloc_past, *]; done))
    have bwx : Below w.heap.size w WWx := by subst hWWx; (repeat (first | with_reducible assumption | with_reducible exact Below.refl _ _ | with_reducible refine Below.setCell ?_ (by first | omega | (simp; done) | (simp; omega)) _ | with_reducible refine Below.alloc ?_ (by first | omega | (simp; done) | (simp; omega)) _ | with_reducible refine Below.drew ?_ | (with_reducible refine Below.trans ?_ (Below.mono (by with_reducible assumption) (by first | omega | (simp; done) | (simp; omega)))) | (refine Below.trans ?_ (Below.mono (by assumption) (by first | omega | (simp; done) | (simp; omega))))))
    have lwx : w.heap.size < w1.heap.size := by omega
    have zwx := hB.lt
    clear hWWx
    have own0 := owns_one hB (Nat.le_refl _)
    have bel0 := Below.refl w1.heap.size WWx
    go_wp2_with (first | (go_at_call 87; (with_reducible refine (HS.out _).mono ?_); rintro e wc1 ⟨rfl, bc1⟩; have zc1 := bc1.size; have belc1 := Below.trans bel0 (bc1.mono (show w1.heap.size ≤ _ from by omega)); have ownc1 := owns_below own0 bc1; have dc1 := fun o => belc1.cell (p := ⟨w.heap.size, o, none⟩) lwx) | (at_builtin; refine list_app strRow rfl (.tmp 16) (.tmp 20) rfl w1.heap.size _ _ _ rfl ownc1 [_] rfl rfl rfl (by omega) (by omega) (by omega) w1.heap.size WWx belc1 (Nat.le_refl _) ?_; intro vg1 wg1 owng1 belg1; have zg1 := belg1.size; have dg1 := fun o => belg1.cell (p := ⟨w.heap.size, o, none⟩) lwx) | (go_at_call 87; (with_reducible refine (HT.out _).mono ?_); rintro e wc2 ⟨rfl, bc2⟩; have zc2 := bc2.size; have belc2 := Below.trans belg1 (bc2.mono (show w1.heap.size ≤ _ from by omega)); have ownc2 := owns_below owng1 bc2; have dc2 := fun o => belc2.cell (p := ⟨w.heap.size, o, none⟩) lwx) | (at_builtin; refine list_app strRow rfl (.tmp 25) (.tmp 29) rfl w1.heap.size _ _ _ rfl ownc2 [_] rfl rfl rfl (by omega) (by omega) (by omega) w1.heap.size WWx belc2 (Nat.le_refl _) ?_; intro vg2 wg2 owng2 belg2; have zg2 := belg2.size; have dg2 := fun o => belg2.cell (p := ⟨w.heap.size, o, none⟩) lwx))
    go_ret
    exact ⟨_, rfl, by simpa [sv] using owns_base owng2 (Nat.le_of_lt lwx), bwx.trans (belg2.mono (Nat.le_of_lt lwx))⟩
  · rw [locWx h]
    have q5 : (k == 5) = false := by simpa using h.1
    have q6 : (k == 6) = false := by simpa using h.2
    clear h
    generalize nameAt locN k = nm at *
    go_enter Try.func96, Try.ntmps96
    go_upto_region 2 with (go_at_call 142; (with_reducible refine (HC.out _).mono ?_); rintro e w1 ⟨rfl, b1⟩; obtain ⟨c1, f1⟩ := bcell b1; have z1 := b1.size; (try simp at z1); have l1a : w.heap.size < w1.heap.size := (by omega); have n1a := Nat.ne_of_lt l1a; have d1a := fun o => c1 (w.heap.size) o (by first | omega | (simp; done) | (simp; omega)); clear c1 f1)
    go_name_world WWx hWWx
    have hB : BlockIs WWx w1.heap.size [.string (bs nm)] 9 := by subst hWWx; exact BlockIs.new w1 [.string (bs nm)] 9
    have x0 : WWx.cell? ⟨w.heap.size, 0, none⟩ = some (.int .i64 k) := by subst hWWx; (first | (simp [go_sem, *]; done) | (simp (disch := first | omega | (simp; omega) | (simp [go_sem, *]; done)) [go_sem, World.cell?_setCell_far, World.cell?_alloc_past, World.frozen?_alloc_past, *]; done))
    have x1 : WWx.cell? ⟨w.heap.size, 1, none⟩ = some (.int .i64 s) := by subst hWWx; (first | (simp [go_sem, *]; done) | (simp (disch := first | omega | (simp; omega) | (simp [go_sem, *]; done)) [go_sem, World.cell?_setCell_far, World.cell?_alloc_past, World.frozen?_alloc_past, *]; done))
    have x2 : WWx.cell? ⟨w.heap.size, 2, none⟩ = some (.int .i64 t) := by subst hWWx; (first | (simp [go_sem, *]; done) | (simp (disch := first | omega | (simp; omega) | (simp [go_sem, *]; done)) [go_sem, World.cell?_setCell_far, World.cell?_alloc_past, World.frozen?_alloc_past, *]; done))
    have bwx : Below w.heap.size w WWx := by subst hWWx; (repeat (first | with_reducible assumption | with_reducible exact Below.refl _ _ | with_reducible refine Below.setCell ?_ (by first | omega | (simp; done) | (simp; omega)) _ | with_reducible refine Below.alloc ?_ (by first | omega | (simp; done) | (simp; omega)) _ | with_reducible refine Below.drew ?_ | (with_reducible refine Below.trans ?_ (Below.mono (by with_reducible assumption) (by first | omega | (simp; done) | (simp; omega)))) | (refine Below.trans ?_ (Below.mono (by assumption) (by first | omega | (simp; done) | (simp; omega))))))
    have lwx : w.heap.size < w1.heap.size := by omega
    have zwx := hB.lt
    clear hWWx
    have own0 := owns_one hB (Nat.le_refl _)
    have bel0 := Below.refl w1.heap.size WWx
    go_wp2_with fail
    go_ret
    exact ⟨_, rfl, by simpa [sv] using owns_base own0 (Nat.le_of_lt lwx), bwx.trans (bel0.mono (Nat.le_of_lt lwx))⟩
theorem storedW5 (n : Int) (e : En) (nb ny : Nat) : storedW 5 n e nb ny = [decText n] := rfl
theorem storedW6 (n : Int) (e : En) (nb ny : Nat) : storedW 6 n e nb ny = [enText e] := rfl
theorem storedW3 (n : Int) (e : En) (nb ny : Nat) : storedW 3 n e nb ny = [decText nb] := rfl
theorem storedW4 (n : Int) (e : En) (nb ny : Nat) : storedW 4 n e nb ny = [decText ny] := rfl
theorem storedWx {k n : Int} {e : En} {nb ny : Nat} (h : k ≠ 5 ∧ k ≠ 6 ∧ k ≠ 3 ∧ k ≠ 4) : storedW k n e nb ny = [] := by unfold storedW; rw [if_neg h.1, if_neg h.2.1, if_neg h.2.2.1, if_neg h.2.2.2]
set_option maxRecDepth 100000 in
set_option maxHeartbeats 8000000 in
theorem opStored_any (k n : Int) (p : Pe) (ba ya : Option Addr) (bn bc yn yc : Nat) (hn : i64 n) (hp : p.en.ad.fits) (hb : bn ≤ 1000000) (hy : yn ≤ 1000000) (w : World) : Calls Try.prog 97 #[.int .i64 k, .agg #[.int .i64 n, .bool p.en.ad.v6, .int .u64 p.en.ad.hi, .int .u64 p.en.ad.lo, .int .i64 p.en.port, .bool p.came, .int .i64 p.since, .int .i64 p.pts, .int .i64 p.at_, .int .i64 p.ping, .int .i64 p.work, .slice ba bn bc, .slice ya yn yc]] w (GivesStrs w (storedW k n p.en bn yn)) := by
  have HN := Lib.hid (fun w => decText_any n hn.1 hn.2 w)
  have HE := Lib.hid (fun w => enText_any p.en hp w)
  have HB := Lib.hid (fun w => decText_any (bn : Int) (by omega) (by omega) w)
  have HY := Lib.hid (fun w => decText_any (yn : Int) (by omega) (by omega) w)
  unfold GivesStrs
  clear hn hp hb hy
  rcases (show k = 5 ∨ k = 6 ∨ k = 3 ∨ k = 4 ∨ (k ≠ 5 ∧ k ≠ 6 ∧ k ≠ 3 ∧ k ≠ 4) by omega) with rfl | rfl | rfl | rfl | h
  · rw [storedW5]
    generalize decText n = x at *
    go_enter Try.func97, Try.ntmps97
    go_wp2_with (go_at_call 87; (with_reducible refine (HN.out _).mono ?_); rintro e w1 ⟨rfl, b1⟩; obtain ⟨c1, f1⟩ := bcell b1; have z1 := b1.size; (try simp at z1); clear c1 f1)
    go_ret
    exact ⟨_, rfl, owns_one (BlockIs.new w1 [.string (bs x)] 9) (by omega), by (repeat (first | with_reducible assumption | with_reducible exact Below.refl _ _ | with_reducible refine Below.setCell ?_ (by first | omega | (simp; done) | (simp; omega)) _ | with_reducible refine Below.alloc ?_ (by first | omega | (simp; done) | (simp; omega)) _ | with_reducible refine Below.drew ?_ | (with_reducible refine Below.trans ?_ (Below.mono (by with_reducible assumption) (by first | omega | (simp; done) | (simp; omega)))) | (refine Below.trans ?_ (Below.mono (by assumption) (by first | omega | (simp; done) | (simp; omega))))))⟩
  · rw [storedW6]
    generalize enText p.en = x at *
    go_enter Try.func97, Try.ntmps97
    go_wp2_with (go_at_call 72; (with_reducible refine (HE.out _).mono ?_); rintro e w1 ⟨rfl, b1⟩; obtain ⟨c1, f1⟩ := bcell b1; have z1 := b1.size; (try simp at z1); clear c1 f1)
    go_ret
    exact ⟨_, rfl, owns_one (BlockIs.new w1 [.string (bs x)] 9) (by omega), by (repeat (first | with_reducible assumption | with_reducible exact Below.refl _ _ | with_reducible refine Below.setCell ?_ (by first | omega | (simp; done) | (simp; omega)) _ | with_reducible refine Below.alloc ?_ (by first | omega | (simp; done) | (simp; omega)) _ | with_reducible refine Below.drew ?_ | (with_reducible refine Below.trans ?_ (Below.mono (by with_reducible assumption) (by first | omega | (simp; done) | (simp; omega)))) | (refine Below.trans ?_ (Below.mono (by assumption) (by first | omega | (simp; done) | (simp; omega))))))⟩
  · rw [storedW3]
    generalize decText (bn : Int) = x at *
    go_enter Try.func97, Try.ntmps97
    go_wp2_with (go_at_call 87; (with_reducible refine (HB.out _).mono ?_); rintro e w1 ⟨rfl, b1⟩; obtain ⟨c1, f1⟩ := bcell b1; have z1 := b1.size; (try simp at z1); clear c1 f1)
    go_ret
    exact ⟨_, rfl, owns_one (BlockIs.new w1 [.string (bs x)] 9) (by omega), by (repeat (first | with_reducible assumption | with_reducible exact Below.refl _ _ | with_reducible refine Below.setCell ?_ (by first | omega | (simp; done) | (simp; omega)) _ | with_reducible refine Below.alloc ?_ (by first | omega | (simp; done) | (simp; omega)) _ | with_reducible refine Below.drew ?_ | (with_reducible refine Below.trans ?_ (Below.mono (by with_reducible assumption) (by first | omega | (simp; done) | (simp; omega)))) | (refine Below.trans ?_ (Below.mono (by assumption) (by first | omega | (simp; done) | (simp; omega))))))⟩
  · rw [storedW4]
    generalize decText (yn : Int) = x at *
    go_enter Try.func97, Try.ntmps97
    go_wp2_with (go_at_call 87; (with_reducible refine (HY.out _).mono ?_); rintro e w1 ⟨rfl, b1⟩; obtain ⟨c1, f1⟩ := bcell b1; have z1 := b1.size; (try simp at z1); clear c1 f1)
    go_ret
    exact ⟨_, rfl, owns_one (BlockIs.new w1 [.string (bs x)] 9) (by omega), by (repeat (first | with_reducible assumption | with_reducible exact Below.refl _ _ | with_reducible refine Below.setCell ?_ (by first | omega | (simp; done) | (simp; omega)) _ | with_reducible refine Below.alloc ?_ (by first | omega | (simp; done) | (simp; omega)) _ | with_reducible refine Below.drew ?_ | (with_reducible refine Below.trans ?_ (Below.mono (by with_reducible assumption) (by first | omega | (simp; done) | (simp; omega)))) | (refine Below.trans ?_ (Below.mono (by assumption) (by first | omega | (simp; done) | (simp; omega))))))⟩
  · rw [storedWx h]
    have q5 : (k == 5) = false := by simpa using h.1
    have q6 : (k == 6) = false := by simpa using h.2.1
    have q3 : (k == 3) = false := by simpa using h.2.2.1
    have q4 : (k == 4) = false := by simpa using h.2.2.2
    go_enter Try.func97, Try.ntmps97
    go_wp2_with fail
    go_ret
    exact ⟨_, rfl, World.ownsRow_nil _ _ _ _, by (repeat (first | with_reducible assumption | with_reducible exact Below.refl _ _ | with_reducible refine Below.setCell ?_ (by first | omega | (simp; done) | (simp; omega)) _ | with_reducible refine Below.alloc ?_ (by first | omega | (simp; done) | (simp; omega)) _ | with_reducible refine Below.drew ?_ | (with_reducible refine Below.trans ?_ (Below.mono (by with_reducible assumption) (by first | omega | (simp; done) | (simp; omega)))) | (refine Below.trans ?_ (Below.mono (by assumption) (by first | omega | (simp; done) | (simp; omega))))))⟩
end Go.Proofs.Ytnohkfbapibmdaa
