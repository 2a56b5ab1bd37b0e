/- Texts put together: NetE, NetF. No condition. -/
import Derived.Test.YtnplgagaoeckoaaGreatRzycbhslslf
import Derived.BigGuardPart
import Derived.BigQuiet
import Derived.Deep.RegionHeld3
import Derived.Lib.ItoaWalk
import Derived.Deep.DeepCutAuto
namespace Go.Proofs.YtnplgagaoeckoaaGreat
open Go.RowKit
set_option linter.unusedSimpArgs false
set_option linter.unusedVariables false

/-- what is given back with a subnet -/
def GivesNt (w : World) (r : Nt × Bool) (e : Ending) (w' : World) : Prop := e = .returned (.tuple #[.agg #[.bool r.1.ad.v6, .int .u64 r.1.ad.hi, .int .u64 r.1.ad.lo, .int .i64 r.1.bits], .bool r.2]) ∧ Below w.heap.size w w'

theorem BlockIs.newAt (w : World) (arr : List Value) (T : TypeId) {n : Nat} (h : n = w.heap.size) : BlockIs (w.alloc (.cells arr.toArray T)) n arr T := h ▸ BlockIs.new w arr T
theorem BlockIs.alloc {w : World} {B : Nat} {arr : List Value} {T : TypeId} (h : BlockIs w B arr T) (o : Obj) : BlockIs (w.alloc o) B arr T := h.below ((Below.refl _ _).alloc (Nat.le_refl _) _)
set_option maxRecDepth 100000 in
set_option maxHeartbeats 4000000 in
theorem adMake_any (a : Ad) (hf : a.fits) (n : Int) (w : World) : Calls Tryz.prog 107 #[.agg #[.bool a.v6, .int .u64 a.hi, .int .u64 a.lo], .int .i64 n] w (GivesNt w (adMake a n)) := by
  have hR := fun w => adRight_any a hf w
  have hB := fun w => adBits_any a w
  have HM := Lib.hid (fun w => adMask_any a hf n w)
  obtain ⟨r, hm⟩ : ∃ r, adMake a n = r := ⟨_, rfl⟩
  unfold GivesNt
  rw [hm]
  unfold adMake at hm
  cases hr : adRight a with
  | false =>
    rw [hr] at hR
    rw [if_neg (by rw [hr]; simp)] at hm
    subst hm
    have HR := Lib.hid hR; clear hR hB
    go_enter Tryz.func107, Tryz.ntmps107
    go_wp2_with (go_at_call 120; (with_reducible refine (HR.out _).mono ?_); rintro e w1 ⟨rfl, b1⟩; obtain ⟨c1, f1⟩ := bcell b1; have z1 := b1.size; (try simp at z1); have d1a := fun o => c1 (w.heap.size) o (by first | omega | (simp; done) | (simp; omega)); have q1a := fun o => f1 (w.heap.size) o (by first | omega | (simp; done) | (simp; omega)); have d1b := fun o => c1 (w.heap.size + 1) o (by first | omega | (simp; done) | (simp; omega)); have q1b := fun o => f1 (w.heap.size + 1) o (by first | omega | (simp; done) | (simp; omega)); clear c1 f1)
    refine bodyPost_ret (v := .tuple #[.agg #[.bool false, .int .u64 0, .int .u64 0, .int .i64 0], .bool false]) (by simp [results, Tryz.results107, go_sem, *]) rfl ⟨rfl, ?_⟩
    (repeat (first | assumption | exact Below.refl _ _ | refine Below.setCell ?_ (by first | omega | (simp; done) | (simp; omega)) _ | refine Below.alloc ?_ (by first | omega | (simp; done) | (simp; omega)) _ | refine Below.drew ?_ | (refine Below.trans ?_ (Below.mono (by assumption) (by first | omega | (simp; done) | (simp; omega))))))
  | true =>
    rw [hr] at hR
    generalize adBits a = nb at *
    have HR := Lib.hid hR; have HB := Lib.hid hB; clear hR hB
    by_cases hn : n < 0
    · rw [if_neg (by omega)] at hm
      subst hm
      go_enter Tryz.func107, Tryz.ntmps107
      go_wp2_with (first | (go_at_call 120; (with_reducible refine (HR.out _).mono ?_); rintro e w1 ⟨rfl, b1⟩; obtain ⟨c1, f1⟩ := bcell b1; have z1 := b1.size; (try simp at z1); have d1a := fun o => c1 (w.heap.size) o (by first | omega | (simp; done) | (simp; omega)); have q1a := fun o => f1 (w.heap.size) o (by first | omega | (simp; done) | (simp; omega)); have d1b := fun o => c1 (w.heap.size + 1) o (by first | omega | (simp; done) | (simp; omega)); have q1b := fun o => f1 (w.heap.size + 1) o (by first | omega | (simp; done) | (simp; omega)); clear c1 f1) | (go_at_call 108; (with_reducible refine (HB.out _).mono ?_); rintro e w2 ⟨rfl, b2⟩; obtain ⟨c2, f2⟩ := bcell b2; have z2 := b2.size; (try simp at z2); have d2a := fun o => c2 (w.heap.size) o (by first | omega | (simp; done) | (simp; omega)); have q2a := fun o => f2 (w.heap.size) o (by first | omega | (simp; done) | (simp; omega)); have d2b := fun o => c2 (w.heap.size + 1) o (by first | omega | (simp; done) | (simp; omega)); have q2b := fun o => f2 (w.heap.size + 1) o (by first | omega | (simp; done) | (simp; omega)); clear c2 f2))
      refine bodyPost_ret (v := .tuple #[.agg #[.bool false, .int .u64 0, .int .u64 0, .int .i64 0], .bool false]) (by simp [results, Tryz.results107, go_sem, *]) rfl ⟨rfl, ?_⟩
      (repeat (first | assumption | exact Below.refl _ _ | refine Below.setCell ?_ (by first | omega | (simp; done) | (simp; omega)) _ | refine Below.alloc ?_ (by first | omega | (simp; done) | (simp; omega)) _ | refine Below.drew ?_ | (refine Below.trans ?_ (Below.mono (by assumption) (by first | omega | (simp; done) | (simp; omega))))))
    have hnd : decide (n < 0) = false := decide_eq_false hn
    by_cases hn2 : nb < n
    · rw [if_neg (by omega)] at hm
      subst hm
      go_enter Tryz.func107, Tryz.ntmps107
      go_wp2_with (first | (go_at_call 120; (with_reducible refine (HR.out _).mono ?_); rintro e w1 ⟨rfl, b1⟩; obtain ⟨c1, f1⟩ := bcell b1; have z1 := b1.size; (try simp at z1); have d1a := fun o => c1 (w.heap.size) o (by first | omega | (simp; done) | (simp; omega)); have q1a := fun o => f1 (w.heap.size) o (by first | omega | (simp; done) | (simp; omega)); have d1b := fun o => c1 (w.heap.size + 1) o (by first | omega | (simp; done) | (simp; omega)); have q1b := fun o => f1 (w.heap.size + 1) o (by first | omega | (simp; done) | (simp; omega)); clear c1 f1) | (go_at_call 108; (with_reducible refine (HB.out _).mono ?_); rintro e w2 ⟨rfl, b2⟩; obtain ⟨c2, f2⟩ := bcell b2; have z2 := b2.size; (try simp at z2); have d2a := fun o => c2 (w.heap.size) o (by first | omega | (simp; done) | (simp; omega)); have q2a := fun o => f2 (w.heap.size) o (by first | omega | (simp; done) | (simp; omega)); have d2b := fun o => c2 (w.heap.size + 1) o (by first | omega | (simp; done) | (simp; omega)); have q2b := fun o => f2 (w.heap.size + 1) o (by first | omega | (simp; done) | (simp; omega)); clear c2 f2))
      refine bodyPost_ret (v := .tuple #[.agg #[.bool false, .int .u64 0, .int .u64 0, .int .i64 0], .bool false]) (by simp [results, Tryz.results107, go_sem, *]) rfl ⟨rfl, ?_⟩
      (repeat (first | assumption | exact Below.refl _ _ | refine Below.setCell ?_ (by first | omega | (simp; done) | (simp; omega)) _ | refine Below.alloc ?_ (by first | omega | (simp; done) | (simp; omega)) _ | refine Below.drew ?_ | (refine Below.trans ?_ (Below.mono (by assumption) (by first | omega | (simp; done) | (simp; omega))))))
    · rw [if_pos (by exact ⟨hr, by omega, by omega⟩)] at hm
      subst hm
      generalize adMask a n = m at *
      have hn3 : n ≤ nb := by omega
      have hnd2 : decide (nb < n) = false := decide_eq_false hn2
      go_enter Tryz.func107, Tryz.ntmps107
      go_wp2_with (first | (go_at_call 120; (with_reducible refine (HR.out _).mono ?_); rintro e w1 ⟨rfl, b1⟩; obtain ⟨c1, f1⟩ := bcell b1; have z1 := b1.size; (try simp at z1); have d1a := fun o => c1 (w.heap.size) o (by first | omega | (simp; done) | (simp; omega)); have q1a := fun o => f1 (w.heap.size) o (by first | omega | (simp; done) | (simp; omega)); have d1b := fun o => c1 (w.heap.size + 1) o (by first | omega | (simp; done) | (simp; omega)); have q1b := fun o => f1 (w.heap.size + 1) o (by first | omega | (simp; done) | (simp; omega)); clear c1 f1) | (go_at_call 108; (with_reducible refine (HB.out _).mono ?_); rintro e w2 ⟨rfl, b2⟩; obtain ⟨c2, f2⟩ := bcell b2; have z2 := b2.size; (try simp at z2); have d2a := fun o => c2 (w.heap.size) o (by first | omega | (simp; done) | (simp; omega)); have q2a := fun o => f2 (w.heap.size) o (by first | omega | (simp; done) | (simp; omega)); have d2b := fun o => c2 (w.heap.size + 1) o (by first | omega | (simp; done) | (simp; omega)); have q2b := fun o => f2 (w.heap.size + 1) o (by first | omega | (simp; done) | (simp; omega)); clear c2 f2) | (go_at_call 121; (with_reducible refine (HM.out _).mono ?_); rintro e w3 ⟨rfl, b3⟩; obtain ⟨c3, f3⟩ := bcell b3; have z3 := b3.size; (try simp at z3); have d3a := fun o => c3 (w.heap.size) o (by first | omega | (simp; done) | (simp; omega)); have q3a := fun o => f3 (w.heap.size) o (by first | omega | (simp; done) | (simp; omega)); have d3b := fun o => c3 (w.heap.size + 1) o (by first | omega | (simp; done) | (simp; omega)); have q3b := fun o => f3 (w.heap.size + 1) o (by first | omega | (simp; done) | (simp; omega)); clear c3 f3))
      refine bodyPost_ret (v := .tuple #[.agg #[.bool m.v6, .int .u64 m.hi, .int .u64 m.lo, .int .i64 n], .bool true]) (by simp [results, Tryz.results107, go_sem, *]) rfl ⟨rfl, ?_⟩
      (repeat (first | assumption | exact Below.refl _ _ | refine Below.setCell ?_ (by first | omega | (simp; done) | (simp; omega)) _ | refine Below.alloc ?_ (by first | omega | (simp; done) | (simp; omega)) _ | refine Below.drew ?_ | (refine Below.trans ?_ (Below.mono (by assumption) (by first | omega | (simp; done) | (simp; omega))))))
set_option maxRecDepth 100000 in
set_option maxHeartbeats 4000000 in
theorem ntFull_any (a : Ad) (hf : a.fits) (w : World) : Calls Tryz.prog 89 #[.agg #[.bool a.v6, .int .u64 a.hi, .int .u64 a.lo]] w fun e w' => e = .returned (.agg #[.bool (ntFull a).ad.v6, .int .u64 (ntFull a).ad.hi, .int .u64 (ntFull a).ad.lo, .int .i64 (ntFull a).bits]) ∧ Below w.heap.size w w' := by
  have HB := Lib.hid (fun w => adBits_any a w)
  have hM := fun w => adMake_any a hf (adBits a) w
  unfold GivesNt at hM
  unfold ntFull
  generalize adMake a (adBits a) = r at *
  generalize adBits a = nb at *
  have HM := Lib.hid hM; clear hM
  obtain ⟨⟨m, k⟩, ok⟩ := r
  go_enter Tryz.func89, Tryz.ntmps89
  go_wp2_with fail
  go_region_held3 (fun w' => w'.cell? ⟨w.heap.size, 0, none⟩ = some (.bool a.v6) ∧ w'.cell? ⟨w.heap.size, 1, none⟩ = some (.int .u64 a.hi) ∧ w'.cell? ⟨w.heap.size, 2, none⟩ = some (.int .u64 a.lo)) (first | go_keep | (simp (disch := omega) [*]; done) | (simp (disch := first | omega | (simp; omega)) [World.cell?_setCell_far, World.cell?_alloc_past, *]; done) | (simp (disch := first | omega | (simp; omega)) [World.cell?_setCell_far, World.cell?_alloc_past, *]; repeat (first | exact rfl | refine ⟨rfl, ?_⟩))) (first | ((go_at_call 108; (with_reducible refine (HB.out _).mono ?_); rintro e w2 ⟨rfl, b2⟩; obtain ⟨c2, f2⟩ := bcell b2; have z2 := b2.size; (try simp at z2); have d2a := fun o => c2 (w.heap.size) o (by first | omega | (simp; done) | (simp; omega)); have q2a := fun o => f2 (w.heap.size) o (by first | omega | (simp; done) | (simp; omega)); have d2b := fun o => c2 (w.heap.size + 1) o (by first | omega | (simp; done) | (simp; omega)); have q2b := fun o => f2 (w.heap.size + 1) o (by first | omega | (simp; done) | (simp; omega)); (try have d2c := fun o => c2 (w.heap.size + 2) o (by first | omega | (simp; done) | (simp; omega))); (try have q2c := fun o => f2 (w.heap.size + 2) o (by first | omega | (simp; done) | (simp; omega))); clear c2 f2); have y2 : w.heap.size < w2.heap.size := (by omega); have x2 : w.heap.size + 1 < w2.heap.size := (by omega); have n2 := Nat.ne_of_lt y2; have m2 := Nat.ne_of_lt x2) | ((go_at_call 107; (with_reducible refine (HM.out _).mono ?_); rintro e w3 ⟨rfl, b3⟩; obtain ⟨c3, f3⟩ := bcell b3; have z3 := b3.size; (try simp at z3); have d3a := fun o => c3 (w.heap.size) o (by first | omega | (simp; done) | (simp; omega)); have q3a := fun o => f3 (w.heap.size) o (by first | omega | (simp; done) | (simp; omega)); have d3b := fun o => c3 (w.heap.size + 1) o (by first | omega | (simp; done) | (simp; omega)); have q3b := fun o => f3 (w.heap.size + 1) o (by first | omega | (simp; done) | (simp; omega)); (try have d3c := fun o => c3 (w.heap.size + 2) o (by first | omega | (simp; done) | (simp; omega))); (try have q3c := fun o => f3 (w.heap.size + 2) o (by first | omega | (simp; done) | (simp; omega))); (try have d3d := fun o => c3 (w2.heap.size) o (by first | omega | (simp; done) | (simp; omega))); (try have q3d := fun o => f3 (w2.heap.size) o (by first | omega | (simp; done) | (simp; omega))); clear c3 f3); have y3 : w.heap.size < w3.heap.size := (by omega); have x3 : w.heap.size + 1 < w3.heap.size := (by omega); have n3 := Nat.ne_of_lt y3; have m3 := Nat.ne_of_lt x3))
  · go_upto_region 2 with fail
    go_name_world WWx hWWx
    have hG : BlockIs WWx (w3.heap.size) [.bool m.v6, .int .u64 m.hi, .int .u64 m.lo, .int .i64 k] 82 := by subst hWWx; exact BlockIs.new w3 [.bool m.v6, .int .u64 m.hi, .int .u64 m.lo, .int .i64 k] 82
    have hR : BlockIs WWx (w.heap.size + 1) [.bool false, .int .u64 0, .int .u64 0, .int .i64 0] 82 := by subst hWWx; exact BlockIs.alloc (by exact BlockIs.below (by exact BlockIs.below (by exact BlockIs.newAt (w.alloc (.cells #[.bool a.v6, .int .u64 a.hi, .int .u64 a.lo] 46)) [.bool false, .int .u64 0, .int .u64 0, .int .i64 0] 82 (n := w.heap.size + 1) (by simp)) b2) b3) (.cells #[.bool m.v6, .int .u64 m.hi, .int .u64 m.lo, .int .i64 k] 82)
    have bwx : Below w.heap.size w WWx := by subst hWWx; (repeat (first | assumption | exact Below.refl _ _ | refine Below.setCell ?_ (by first | omega | (simp; done) | (simp; omega)) _ | refine Below.alloc ?_ (by first | omega | (simp; done) | (simp; omega)) _ | refine Below.drew ?_ | (refine Below.trans ?_ (Below.mono (by assumption) (by first | omega | (simp; done) | (simp; omega))))))
    clear hWWx d2a d2b d3a d3b q2a q2b q3a q3b b2 b3
    have k0 := hG.cell (i := 0) rfl
    have k1 := hG.cell (i := 1) rfl
    have k2 := hG.cell (i := 2) rfl
    have k3 := hG.cell (i := 3) rfl
    have r0 := hR.cell (i := 0) rfl
    have r1 := hR.cell (i := 1) rfl
    have r2 := hR.cell (i := 2) rfl
    have r3 := hR.cell (i := 3) rfl
    have rf := hR.frozen
    clear hG hR
    go_wp2_with fail
    refine bodyPost_ret (v := .agg #[.bool m.v6, .int .u64 m.hi, .int .u64 m.lo, .int .i64 k]) (by simp [results, Tryz.results89, go_sem, *]) rfl ⟨rfl, ?_⟩
    (repeat (first | assumption | exact Below.refl _ _ | refine Below.setCell ?_ (by first | omega | (simp; done) | (simp; omega)) _ | refine Below.alloc ?_ (by first | omega | (simp; done) | (simp; omega)) _ | refine Below.drew ?_ | (refine Below.trans ?_ (Below.mono (by assumption) (by first | omega | (simp; done) | (simp; omega))))))
  · go_upto_region 2 with fail
    go_name_world WWx hWWx
    have hG : BlockIs WWx (w2.heap.size) [.bool m.v6, .int .u64 m.hi, .int .u64 m.lo, .int .i64 k] 82 := by subst hWWx; exact BlockIs.set (BlockIs.set (BlockIs.set (BlockIs.set (BlockIs.below (by exact BlockIs.new w2 [.bool false, .int .u64 0, .int .u64 0, .int .i64 0] 82) b3) 0 (.bool m.v6)) 1 (.int .u64 m.hi)) 2 (.int .u64 m.lo)) 3 (.int .i64 k)
    have hR : BlockIs WWx (w.heap.size + 1) [.bool false, .int .u64 0, .int .u64 0, .int .i64 0] 82 := by subst hWWx; exact BlockIs.other (BlockIs.other (BlockIs.other (BlockIs.other (BlockIs.below (by exact BlockIs.alloc (by exact BlockIs.below (by exact BlockIs.newAt (w.alloc (.cells #[.bool a.v6, .int .u64 a.hi, .int .u64 a.lo] 46)) [.bool false, .int .u64 0, .int .u64 0, .int .i64 0] 82 (n := w.heap.size + 1) (by simp)) b2) (.cells #[.bool false, .int .u64 0, .int .u64 0, .int .i64 0] 82)) b3) (p := ⟨w2.heap.size, 0, none⟩) (by simp only; omega) (.bool m.v6)) (p := ⟨w2.heap.size, 1, none⟩) (by simp only; omega) (.int .u64 m.hi)) (p := ⟨w2.heap.size, 2, none⟩) (by simp only; omega) (.int .u64 m.lo)) (p := ⟨w2.heap.size, 3, none⟩) (by simp only; omega) (.int .i64 k)
    have bwx : Below w.heap.size w WWx := by subst hWWx; (repeat (first | assumption | exact Below.refl _ _ | refine Below.setCell ?_ (by first | omega | (simp; done) | (simp; omega)) _ | refine Below.alloc ?_ (by first | omega | (simp; done) | (simp; omega)) _ | refine Below.drew ?_ | (refine Below.trans ?_ (Below.mono (by assumption) (by first | omega | (simp; done) | (simp; omega))))))
    clear hWWx d2a d2b d3a d3b q2a q2b q3a q3b b2 b3
    have k0 := hG.cell (i := 0) rfl
    have k1 := hG.cell (i := 1) rfl
    have k2 := hG.cell (i := 2) rfl
    have k3 := hG.cell (i := 3) rfl
    have r0 := hR.cell (i := 0) rfl
    have r1 := hR.cell (i := 1) rfl
    have r2 := hR.cell (i := 2) rfl
    have r3 := hR.cell (i := 3) rfl
    have rf := hR.frozen
    clear hG hR
    go_wp2_with fail
    refine bodyPost_ret (v := .agg #[.bool m.v6, .int .u64 m.hi, .int .u64 m.lo, .int .i64 k]) (by simp [results, Tryz.results89, go_sem, *]) rfl ⟨rfl, ?_⟩
    (repeat (first | assumption | exact Below.refl _ _ | refine Below.setCell ?_ (by first | omega | (simp; done) | (simp; omega)) _ | refine Below.alloc ?_ (by first | omega | (simp; done) | (simp; omega)) _ | refine Below.drew ?_ | (refine Below.trans ?_ (Below.mono (by assumption) (by first | omega | (simp; done) | (simp; omega))))))
  · go_upto_region 2 with fail
    go_name_world WWx hWWx
    have hG : BlockIs WWx (w.heap.size + 1 + 1) [.bool m.v6, .int .u64 m.hi, .int .u64 m.lo, .int .i64 k] 82 := by subst hWWx; exact BlockIs.set (BlockIs.set (BlockIs.set (BlockIs.set (BlockIs.below (by exact BlockIs.below (by exact BlockIs.newAt ((w.alloc (.cells #[.bool a.v6, .int .u64 a.hi, .int .u64 a.lo] 46)).alloc (.cells #[.bool false, .int .u64 0, .int .u64 0, .int .i64 0] 82)) [.bool false, .int .u64 0, .int .u64 0, .int .i64 0] 82 (n := w.heap.size + 1 + 1) (by simp)) b2) b3) 0 (.bool m.v6)) 1 (.int .u64 m.hi)) 2 (.int .u64 m.lo)) 3 (.int .i64 k)
    have hR : BlockIs WWx (w.heap.size + 1) [.bool false, .int .u64 0, .int .u64 0, .int .i64 0] 82 := by subst hWWx; exact BlockIs.other (BlockIs.other (BlockIs.other (BlockIs.other (BlockIs.below (by exact BlockIs.below (by exact BlockIs.alloc (by exact BlockIs.newAt (w.alloc (.cells #[.bool a.v6, .int .u64 a.hi, .int .u64 a.lo] 46)) [.bool false, .int .u64 0, .int .u64 0, .int .i64 0] 82 (n := w.heap.size + 1) (by simp)) (.cells #[.bool false, .int .u64 0, .int .u64 0, .int .i64 0] 82)) b2) b3) (p := ⟨w.heap.size + 1 + 1, 0, none⟩) (by simp only; omega) (.bool m.v6)) (p := ⟨w.heap.size + 1 + 1, 1, none⟩) (by simp only; omega) (.int .u64 m.hi)) (p := ⟨w.heap.size + 1 + 1, 2, none⟩) (by simp only; omega) (.int .u64 m.lo)) (p := ⟨w.heap.size + 1 + 1, 3, none⟩) (by simp only; omega) (.int .i64 k)
    have bwx : Below w.heap.size w WWx := by subst hWWx; (repeat (first | assumption | exact Below.refl _ _ | refine Below.setCell ?_ (by first | omega | (simp; done) | (simp; omega)) _ | refine Below.alloc ?_ (by first | omega | (simp; done) | (simp; omega)) _ | refine Below.drew ?_ | (refine Below.trans ?_ (Below.mono (by assumption) (by first | omega | (simp; done) | (simp; omega))))))
    clear hWWx d2a d2b d3a d3b q2a q2b q3a q3b b2 b3
    have k0 := hG.cell (i := 0) rfl
    have k1 := hG.cell (i := 1) rfl
    have k2 := hG.cell (i := 2) rfl
    have k3 := hG.cell (i := 3) rfl
    have r0 := hR.cell (i := 0) rfl
    have r1 := hR.cell (i := 1) rfl
    have r2 := hR.cell (i := 2) rfl
    have r3 := hR.cell (i := 3) rfl
    have rf := hR.frozen
    clear hG hR
    go_wp2_with fail
    refine bodyPost_ret (v := .agg #[.bool m.v6, .int .u64 m.hi, .int .u64 m.lo, .int .i64 k]) (by simp [results, Tryz.results89, go_sem, *]) rfl ⟨rfl, ?_⟩
    (repeat (first | assumption | exact Below.refl _ _ | refine Below.setCell ?_ (by first | omega | (simp; done) | (simp; omega)) _ | refine Below.alloc ?_ (by first | omega | (simp; done) | (simp; omega)) _ | refine Below.drew ?_ | (refine Below.trans ?_ (Below.mono (by assumption) (by first | omega | (simp; done) | (simp; omega))))))
def grBits (a : Ad) : Int := if a.v6 = true then 32 else 16
def grOf (a : Ad) : Nt := (adMake a (grBits a)).1
end Go.Proofs.YtnplgagaoeckoaaGreat
namespace Go.Proofs.YtnplgagaoeckoaaGreat
open Go.RowKit
set_option linter.unusedSimpArgs false
set_option linter.unusedVariables false

set_option maxRecDepth 100000 in
set_option maxHeartbeats 4000000 in
theorem refNtRight_any (n : Nt) (hf : n.ad.fits) (w : World) : Calls Tryz.prog 103 #[.agg #[.bool n.ad.v6, .int .u64 n.ad.hi, .int .u64 n.ad.lo, .int .i64 n.bits]] w fun e w' => e = .returned (.bool (ntRight n)) ∧ Below w.heap.size w w' := by
  have hR := fun w => refAdRight_any n.ad hf w
  have HB := Lib.hid (fun w => refAdBits_any n.ad w)
  have HBi := Lib.hid (fun i w => refAdBit_any n.ad hf i w)
  have hnn := adBits_nn n.ad
  have hbits := ntRight_bits n hf
  obtain ⟨r, hr⟩ : ∃ r, ntRight n = r := ⟨_, rfl⟩
  rw [hr] at hbits ⊢
  cases hrr : adRight n.ad with
  | false =>
    have hz : r = false := by rw [← hr]; unfold ntRight; rw [hrr]; rfl
    subst hz
    rw [hrr] at hR
    have HR := Lib.hid hR; clear hR hbits hr
    go_enter Tryz.func103, Tryz.ntmps103
    go_wp2_with fail
    go_name_world WWx hWWx
    have ex0 : ∀ Y, (ext WWx Y).cell? ⟨w.heap.size, 0, none⟩ = some (.bool n.ad.v6) := by subst hWWx; intro Y; exact (ext_cell _ Y (by first | omega | (simp; done) | (simp; omega))).trans (by first | (simp (disch := first | omega | (simp; omega)) [World.cell?_alloc_past, *]; done) | (simp (disch := first | omega | (simp; omega)) [World.cell?_setCell_far, World.cell?_alloc_past, *]; done) | (simp (disch := first | omega | (simp; omega)) [World.cell?_alloc_past, *]; rfl) | (simp (disch := first | omega | (simp; omega)) [World.cell?_setCell_far, World.cell?_alloc_past, *]; rfl) | (simp [go_sem, *]; done) | (simp (disch := first | omega | (simp; omega) | (simp [go_sem, *]; done)) [go_sem, World.cell?_setCell_far, World.cell?_alloc_past, *]; done))
    have ex1 : ∀ Y, (ext WWx Y).cell? ⟨w.heap.size, 1, none⟩ = some (.int .u64 n.ad.hi) := by subst hWWx; intro Y; exact (ext_cell _ Y (by first | omega | (simp; done) | (simp; omega))).trans (by first | (simp (disch := first | omega | (simp; omega)) [World.cell?_alloc_past, *]; done) | (simp (disch := first | omega | (simp; omega)) [World.cell?_setCell_far, World.cell?_alloc_past, *]; done) | (simp (disch := first | omega | (simp; omega)) [World.cell?_alloc_past, *]; rfl) | (simp (disch := first | omega | (simp; omega)) [World.cell?_setCell_far, World.cell?_alloc_past, *]; rfl) | (simp [go_sem, *]; done) | (simp (disch := first | omega | (simp; omega) | (simp [go_sem, *]; done)) [go_sem, World.cell?_setCell_far, World.cell?_alloc_past, *]; done))
    have ex2 : ∀ Y, (ext WWx Y).cell? ⟨w.heap.size, 2, none⟩ = some (.int .u64 n.ad.lo) := by subst hWWx; intro Y; exact (ext_cell _ Y (by first | omega | (simp; done) | (simp; omega))).trans (by first | (simp (disch := first | omega | (simp; omega)) [World.cell?_alloc_past, *]; done) | (simp (disch := first | omega | (simp; omega)) [World.cell?_setCell_far, World.cell?_alloc_past, *]; done) | (simp (disch := first | omega | (simp; omega)) [World.cell?_alloc_past, *]; rfl) | (simp (disch := first | omega | (simp; omega)) [World.cell?_setCell_far, World.cell?_alloc_past, *]; rfl) | (simp [go_sem, *]; done) | (simp (disch := first | omega | (simp; omega) | (simp [go_sem, *]; done)) [go_sem, World.cell?_setCell_far, World.cell?_alloc_past, *]; done))
    have ex3 : ∀ Y, (ext WWx Y).cell? ⟨w.heap.size, 3, none⟩ = some (.int .i64 n.bits) := by subst hWWx; intro Y; exact (ext_cell _ Y (by first | omega | (simp; done) | (simp; omega))).trans (by first | (simp (disch := first | omega | (simp; omega)) [World.cell?_alloc_past, *]; done) | (simp (disch := first | omega | (simp; omega)) [World.cell?_setCell_far, World.cell?_alloc_past, *]; done) | (simp (disch := first | omega | (simp; omega)) [World.cell?_alloc_past, *]; rfl) | (simp (disch := first | omega | (simp; omega)) [World.cell?_setCell_far, World.cell?_alloc_past, *]; rfl) | (simp [go_sem, *]; done) | (simp (disch := first | omega | (simp; omega) | (simp [go_sem, *]; done)) [go_sem, World.cell?_setCell_far, World.cell?_alloc_past, *]; done))
    have bWx : Below w.heap.size w WWx := by subst hWWx; (repeat (first | assumption | exact Below.refl _ _ | refine Below.setCell ?_ (by first | omega | (simp; done) | (simp; omega)) _ | refine Below.alloc ?_ (by first | omega | (simp; done) | (simp; omega)) _ | refine Below.drew ?_ | (refine Below.trans ?_ (Below.mono (by assumption) (by first | omega | (simp; done) | (simp; omega))))))
    have lWx0 : w.heap.size < WWx.heap.size := by subst hWWx; first | omega | (simp; done) | (simp; omega)
    clear hWWx
    try simp only [List.append_eq, List.cons_append, List.nil_append]
    refine wp_region_ext (by kernel_rfl) (by kernel_rfl) ?_
    repeat (go_big_quiet_step ((first | (go_at_call 116; with_reducible exact qe (HR.out _)) | (go_at_call 111; with_reducible exact qe (HB.out _)))))
    refine wpQuiet_nil ?_
    intro _ hw'
    obtain ⟨x, hw''⟩ := hw'
    subst hw''
    have px0 := ex0 x
    have px1 := ex1 x
    have px2 := ex2 x
    have px3 := ex3 x
    clear ex0 ex1 ex2 ex3
    have bwx := bWx.trans ((ext_below WWx x).mono bWx.size)
    have zwx := bwx.size
    have zex := (ext_below WWx x).size
    go_wp2_with fail
    go_ret
    exact ⟨rfl, bwx⟩
  | true =>
    rw [hrr] at hR
    have HR := Lib.hid hR; clear hR
    by_cases h0 : n.bits < 0
    · have hz : r = false := by rw [← hr]; unfold ntRight; rw [decide_eq_false (show ¬ 0 ≤ n.bits from by omega)]; simp
      subst hz
      have hd0 : decide (n.bits < 0) = true := decide_eq_true h0
      clear hbits hr
      go_enter Tryz.func103, Tryz.ntmps103
      go_wp2_with fail
      go_name_world WWx hWWx
      have ex0 : ∀ Y, (ext WWx Y).cell? ⟨w.heap.size, 0, none⟩ = some (.bool n.ad.v6) := by subst hWWx; intro Y; exact (ext_cell _ Y (by first | omega | (simp; done) | (simp; omega))).trans (by first | (simp (disch := first | omega | (simp; omega)) [World.cell?_alloc_past, *]; done) | (simp (disch := first | omega | (simp; omega)) [World.cell?_setCell_far, World.cell?_alloc_past, *]; done) | (simp (disch := first | omega | (simp; omega)) [World.cell?_alloc_past, *]; rfl) | (simp (disch := first | omega | (simp; omega)) [World.cell?_setCell_far, World.cell?_alloc_past, *]; rfl) | (simp [go_sem, *]; done) | (simp (disch := first | omega | (simp; omega) | (simp [go_sem, *]; done)) [go_sem, World.cell?_setCell_far, World.cell?_alloc_past, *]; done))
      have ex1 : ∀ Y, (ext WWx Y).cell? ⟨w.heap.size, 1, none⟩ = some (.int .u64 n.ad.hi) := by subst hWWx; intro Y; exact (ext_cell _ Y (by first | omega | (simp; done) | (simp; omega))).trans (by first | (simp (disch := first | omega | (simp; omega)) [World.cell?_alloc_past, *]; done) | (simp (disch := first | omega | (simp; omega)) [World.cell?_setCell_far, World.cell?_alloc_past, *]; done) | (simp (disch := first | omega | (simp; omega)) [World.cell?_alloc_past, *]; rfl) | (simp (disch := first | omega | (simp; omega)) [World.cell?_setCell_far, World.cell?_alloc_past, *]; rfl) | (simp [go_sem, *]; done) | (simp (disch := first | omega | (simp; omega) | (simp [go_sem, *]; done)) [go_sem, World.cell?_setCell_far, World.cell?_alloc_past, *]; done))
      have ex2 : ∀ Y, (ext WWx Y).cell? ⟨w.heap.size, 2, none⟩ = some (.int .u64 n.ad.lo) := by subst hWWx; intro Y; exact (ext_cell _ Y (by first | omega | (simp; done) | (simp; omega))).trans (by first | (simp (disch := first | omega | (simp; omega)) [World.cell?_alloc_past, *]; done) | (simp (disch := first | omega | (simp; omega)) [World.cell?_setCell_far, World.cell?_alloc_past, *]; done) | (simp (disch := first | omega | (simp; omega)) [World.cell?_alloc_past, *]; rfl) | (simp (disch := first | omega | (simp; omega)) [World.cell?_setCell_far, World.cell?_alloc_past, *]; rfl) | (simp [go_sem, *]; done) | (simp (disch := first | omega | (simp; omega) | (simp [go_sem, *]; done)) [go_sem, World.cell?_setCell_far, World.cell?_alloc_past, *]; done))
      have ex3 : ∀ Y, (ext WWx Y).cell? ⟨w.heap.size, 3, none⟩ = some (.int .i64 n.bits) := by subst hWWx; intro Y; exact (ext_cell _ Y (by first | omega | (simp; done) | (simp; omega))).trans (by first | (simp (disch := first | omega | (simp; omega)) [World.cell?_alloc_past, *]; done) | (simp (disch := first | omega | (simp; omega)) [World.cell?_setCell_far, World.cell?_alloc_past, *]; done) | (simp (disch := first | omega | (simp; omega)) [World.cell?_alloc_past, *]; rfl) | (simp (disch := first | omega | (simp; omega)) [World.cell?_setCell_far, World.cell?_alloc_past, *]; rfl) | (simp [go_sem, *]; done) | (simp (disch := first | omega | (simp; omega) | (simp [go_sem, *]; done)) [go_sem, World.cell?_setCell_far, World.cell?_alloc_past, *]; done))
      have bWx : Below w.heap.size w WWx := by subst hWWx; (repeat (first | assumption | exact Below.refl _ _ | refine Below.setCell ?_ (by first | omega | (simp; done) | (simp; omega)) _ | refine Below.alloc ?_ (by first | omega | (simp; done) | (simp; omega)) _ | refine Below.drew ?_ | (refine Below.trans ?_ (Below.mono (by assumption) (by first | omega | (simp; done) | (simp; omega))))))
      have lWx0 : w.heap.size < WWx.heap.size := by subst hWWx; first | omega | (simp; done) | (simp; omega)
      clear hWWx
      try simp only [List.append_eq, List.cons_append, List.nil_append]
      refine wp_region_ext (by kernel_rfl) (by kernel_rfl) ?_
      repeat (go_big_quiet_step ((first | (go_at_call 116; with_reducible exact qe (HR.out _)) | (go_at_call 111; with_reducible exact qe (HB.out _)))))
      refine wpQuiet_nil ?_
      intro _ hw'
      obtain ⟨x, hw''⟩ := hw'
      subst hw''
      have px0 := ex0 x
      have px1 := ex1 x
      have px2 := ex2 x
      have px3 := ex3 x
      clear ex0 ex1 ex2 ex3
      have bwx := bWx.trans ((ext_below WWx x).mono bWx.size)
      have zwx := bwx.size
      have zex := (ext_below WWx x).size
      go_wp2_with fail
      go_ret
      exact ⟨rfl, bwx⟩
    have hd0 : decide (n.bits < 0) = false := decide_eq_false h0
    by_cases h1 : adBits n.ad < n.bits
    · have hz : r = false := by rw [← hr]; unfold ntRight; rw [decide_eq_false (show ¬ n.bits ≤ adBits n.ad from by omega)]; simp
      subst hz
      have hd1 : decide (adBits n.ad < n.bits) = true := decide_eq_true h1
      clear hbits hr
      go_enter Tryz.func103, Tryz.ntmps103
      go_wp2_with fail
      go_name_world WWx hWWx
      have ex0 : ∀ Y, (ext WWx Y).cell? ⟨w.heap.size, 0, none⟩ = some (.bool n.ad.v6) := by subst hWWx; intro Y; exact (ext_cell _ Y (by first | omega | (simp; done) | (simp; omega))).trans (by first | (simp (disch := first | omega | (simp; omega)) [World.cell?_alloc_past, *]; done) | (simp (disch := first | omega | (simp; omega)) [World.cell?_setCell_far, World.cell?_alloc_past, *]; done) | (simp (disch := first | omega | (simp; omega)) [World.cell?_alloc_past, *]; rfl) | (simp (disch := first | omega | (simp; omega)) [World.cell?_setCell_far, World.cell?_alloc_past, *]; rfl) | (simp [go_sem, *]; done) | (simp (disch := first | omega | (simp; omega) | (simp [go_sem, *]; done)) [go_sem, World.cell?_setCell_far, World.cell?_alloc_past, *]; done))
      have ex1 : ∀ Y, (ext WWx Y).cell? ⟨w.heap.size, 1, none⟩ = some (.int .u64 n.ad.hi) := by subst hWWx; intro Y; exact (ext_cell _ Y (by first | omega | (simp; done) | (simp; omega))).trans (by first | (simp (disch := first | omega | (simp; omega)) [World.cell?_alloc_past, *]; done) | (simp (disch := first | omega | (simp; omega)) [World.cell?_setCell_far, World.cell?_alloc_past, *]; done) | (simp (disch := first | omega | (simp; omega)) [World.cell?_alloc_past, *]; rfl) | (simp (disch := first | omega | (simp; omega)) [World.cell?_setCell_far, World.cell?_alloc_past, *]; rfl) | (simp [go_sem, *]; done) | (simp (disch := first | omega | (simp; omega) | (simp [go_sem, *]; done)) [go_sem, World.cell?_setCell_far, World.cell?_alloc_past, *]; done))
      have ex2 : ∀ Y, (ext WWx Y).cell? ⟨w.heap.size, 2, none⟩ = some (.int .u64 n.ad.lo) := by subst hWWx; intro Y; exact (ext_cell _ Y (by first | omega | (simp; done) | (simp; omega))).trans (by first | (simp (disch := first | omega | (simp; omega)) [World.cell?_alloc_past, *]; done) | (simp (disch := first | omega | (simp; omega)) [World.cell?_setCell_far, World.cell?_alloc_past, *]; done) | (simp (disch := first | omega | (simp; omega)) [World.cell?_alloc_past, *]; rfl) | (simp (disch := first | omega | (simp; omega)) [World.cell?_setCell_far, World.cell?_alloc_past, *]; rfl) | (simp [go_sem, *]; done) | (simp (disch := first | omega | (simp; omega) | (simp [go_sem, *]; done)) [go_sem, World.cell?_setCell_far, World.cell?_alloc_past, *]; done))
      have ex3 : ∀ Y, (ext WWx Y).cell? ⟨w.heap.size, 3, none⟩ = some (.int .i64 n.bits) := by subst hWWx; intro Y; exact (ext_cell _ Y (by first | omega | (simp; done) | (simp; omega))).trans (by first | (simp (disch := first | omega | (simp; omega)) [World.cell?_alloc_past, *]; done) | (simp (disch := first | omega | (simp; omega)) [World.cell?_setCell_far, World.cell?_alloc_past, *]; done) | (simp (disch := first | omega | (simp; omega)) [World.cell?_alloc_past, *]; rfl) | (simp (disch := first | omega | (simp; omega)) [World.cell?_setCell_far, World.cell?_alloc_past, *]; rfl) | (simp [go_sem, *]; done) | (simp (disch := first | omega | (simp; omega) | (simp [go_sem, *]; done)) [go_sem, World.cell?_setCell_far, World.cell?_alloc_past, *]; done))
      have bWx : Below w.heap.size w WWx := by subst hWWx; (repeat (first | assumption | exact Below.refl _ _ | refine Below.setCell ?_ (by first | omega | (simp; done) | (simp; omega)) _ | refine Below.alloc ?_ (by first | omega | (simp; done) | (simp; omega)) _ | refine Below.drew ?_ | (refine Below.trans ?_ (Below.mono (by assumption) (by first | omega | (simp; done) | (simp; omega))))))
      have lWx0 : w.heap.size < WWx.heap.size := by subst hWWx; first | omega | (simp; done) | (simp; omega)
      clear hWWx
      try simp only [List.append_eq, List.cons_append, List.nil_append]
      refine wp_region_ext (by kernel_rfl) (by kernel_rfl) ?_
      repeat (go_big_quiet_step ((first | (go_at_call 116; with_reducible exact qe (HR.out _)) | (go_at_call 111; with_reducible exact qe (HB.out _)))))
      refine wpQuiet_nil ?_
      intro _ hw'
      obtain ⟨x, hw''⟩ := hw'
      subst hw''
      have px0 := ex0 x
      have px1 := ex1 x
      have px2 := ex2 x
      have px3 := ex3 x
      clear ex0 ex1 ex2 ex3
      have bwx := bWx.trans ((ext_below WWx x).mono bWx.size)
      have zwx := bwx.size
      have zex := (ext_below WWx x).size
      go_wp2_with fail
      go_ret
      exact ⟨rfl, bwx⟩
    have hd1 : decide (adBits n.ad < n.bits) = false := decide_eq_false h1
    have HBITS := Lib.hid (hbits hrr (by omega) (by omega)); clear hbits hr
    generalize adBits n.ad = nb at *
    go_enter Tryz.func103, Tryz.ntmps103
    go_wp2_with fail
    go_name_world WWx hWWx
    have ex0 : ∀ Y, (ext WWx Y).cell? ⟨w.heap.size, 0, none⟩ = some (.bool n.ad.v6) := by subst hWWx; intro Y; exact (ext_cell _ Y (by first | omega | (simp; done) | (simp; omega))).trans (by first | (simp (disch := first | omega | (simp; omega)) [World.cell?_alloc_past, *]; done) | (simp (disch := first | omega | (simp; omega)) [World.cell?_setCell_far, World.cell?_alloc_past, *]; done) | (simp (disch := first | omega | (simp; omega)) [World.cell?_alloc_past, *]; rfl) | (simp (disch := first | omega | (simp; omega)) [World.cell?_setCell_far, World.cell?_alloc_past, *]; rfl) | (simp [go_sem, *]; done) | (simp (disch := first | omega | (simp; omega) | (simp [go_sem, *]; done)) [go_sem, World.cell?_setCell_far, World.cell?_alloc_past, *]; done))
    have ex1 : ∀ Y, (ext WWx Y).cell? ⟨w.heap.size, 1, none⟩ = some (.int .u64 n.ad.hi) := by subst hWWx; intro Y; exact (ext_cell _ Y (by first | omega | (simp; done) | (simp; omega))).trans (by first | (simp (disch := first | omega | (simp; omega)) [World.cell?_alloc_past, *]; done) | (simp (disch := first | omega | (simp; omega)) [World.cell?_setCell_far, World.cell?_alloc_past, *]; done) | (simp (disch := first | omega | (simp; omega)) [World.cell?_alloc_past, *]; rfl) | (simp (disch := first | omega | (simp; omega)) [World.cell?_setCell_far, World.cell?_alloc_past, *]; rfl) | (simp [go_sem, *]; done) | (simp (disch := first | omega | (simp; omega) | (simp [go_sem, *]; done)) [go_sem, World.cell?_setCell_far, World.cell?_alloc_past, *]; done))
    have ex2 : ∀ Y, (ext WWx Y).cell? ⟨w.heap.size, 2, none⟩ = some (.int .u64 n.ad.lo) := by subst hWWx; intro Y; exact (ext_cell _ Y (by first | omega | (simp; done) | (simp; omega))).trans (by first | (simp (disch := first | omega | (simp; omega)) [World.cell?_alloc_past, *]; done) | (simp (disch := first | omega | (simp; omega)) [World.cell?_setCell_far, World.cell?_alloc_past, *]; done) | (simp (disch := first | omega | (simp; omega)) [World.cell?_alloc_past, *]; rfl) | (simp (disch := first | omega | (simp; omega)) [World.cell?_setCell_far, World.cell?_alloc_past, *]; rfl) | (simp [go_sem, *]; done) | (simp (disch := first | omega | (simp; omega) | (simp [go_sem, *]; done)) [go_sem, World.cell?_setCell_far, World.cell?_alloc_past, *]; done))
    have ex3 : ∀ Y, (ext WWx Y).cell? ⟨w.heap.size, 3, none⟩ = some (.int .i64 n.bits) := by subst hWWx; intro Y; exact (ext_cell _ Y (by first | omega | (simp; done) | (simp; omega))).trans (by first | (simp (disch := first | omega | (simp; omega)) [World.cell?_alloc_past, *]; done) | (simp (disch := first | omega | (simp; omega)) [World.cell?_setCell_far, World.cell?_alloc_past, *]; done) | (simp (disch := first | omega | (simp; omega)) [World.cell?_alloc_past, *]; rfl) | (simp (disch := first | omega | (simp; omega)) [World.cell?_setCell_far, World.cell?_alloc_past, *]; rfl) | (simp [go_sem, *]; done) | (simp (disch := first | omega | (simp; omega) | (simp [go_sem, *]; done)) [go_sem, World.cell?_setCell_far, World.cell?_alloc_past, *]; done))
    have bWx : Below w.heap.size w WWx := by subst hWWx; (repeat (first | assumption | exact Below.refl _ _ | refine Below.setCell ?_ (by first | omega | (simp; done) | (simp; omega)) _ | refine Below.alloc ?_ (by first | omega | (simp; done) | (simp; omega)) _ | refine Below.drew ?_ | (refine Below.trans ?_ (Below.mono (by assumption) (by first | omega | (simp; done) | (simp; omega))))))
    have lWx0 : w.heap.size < WWx.heap.size := by subst hWWx; first | omega | (simp; done) | (simp; omega)
    clear hWWx
    try simp only [List.append_eq, List.cons_append, List.nil_append]
    refine wp_region_ext (by kernel_rfl) (by kernel_rfl) ?_
    repeat (go_big_quiet_step ((first | (go_at_call 116; with_reducible exact qe (HR.out _)) | (go_at_call 111; with_reducible exact qe (HB.out _)))))
    refine wpQuiet_nil ?_
    intro _ hw'
    obtain ⟨x, hw''⟩ := hw'
    subst hw''
    have px0 := ex0 x
    have px1 := ex1 x
    have px2 := ex2 x
    have px3 := ex3 x
    clear ex0 ex1 ex2 ex3
    have bwx := bWx.trans ((ext_below WWx x).mono bWx.size)
    have zwx := bwx.size
    have zex := (ext_below WWx x).size
    go_wp2_with fail
    obtain ⟨b0, hb0⟩ : ∃ b0 : Nat, n.bits = b0 := ⟨n.bits.toNat, by omega⟩
    have HB0 := Lib.hid hb0; clear hb0
    go_loopw [3] (fun i wr => ∃ k : Nat, i = .int .i64 k ∧ n.bits ≤ k ∧ (k : Int) ≤ nb ∧ Hid (noBits n.ad n.bits k = true) ∧ Below (ext WWx x).heap.size (ext WWx x) wr) (fun i _ => 128 - (intOf i).toNat)
    case atStart => have hb0 := HB0.out; exact ⟨b0, by rw [hb0], by omega, by omega, noBits_start _ _ _ (by omega), Below.refl _ _⟩
    case round =>
      obtain ⟨k, rfl, hk0, hk, HN, hb⟩ := hrel
      have p0 := keep hb (by omega) px0
      have p1 := keep hb (by omega) px1
      have p2 := keep hb (by omega) px2
      have zr := hb.size
      have bww := bwx.trans (hb.mono zwx)
      by_cases hlt : (k : Int) < nb
      · have hdl : decide ((k : Int) < nb) = true := decide_eq_true hlt
        have hBk := fun w => HBi.out k w
        rcases adBit_2 n.ad k with hv | hv
        · rw [show ((adBit n.ad k : Nat) : Int) = 0 from by rw [hv]; rfl] at hBk
          have HBk := Lib.hid hBk; clear hBk
          have HV := Lib.hid hv; clear hv
          go_wp2_with (first | (go_at_call 111; (with_reducible refine (HB.out _).mono ?_); rintro e w1 ⟨rfl, b1⟩; obtain ⟨c1, f1⟩ := bcell b1; have z1 := b1.size; (try simp at z1); have d1a := fun o => c1 (w.heap.size) o (by first | omega | (simp; done) | (simp; omega)); clear c1 f1) | (go_at_call 117; (with_reducible refine (HBk.out _).mono ?_); rintro e w2 ⟨rfl, b2⟩; obtain ⟨c2, f2⟩ := bcell b2; have z2 := b2.size; (try simp at z2); clear c2 f2))
          go_roundw
          case rel => exact ⟨k + 1, by go_num, by omega, by omega, noBits_good _ _ _ HN.out (by rw [HV.out]; omega), hb.trans ((b1.trans (b2.mono b1.size)).mono zr)⟩
          case measure => simp [intOf]; omega
        · rw [show ((adBit n.ad k : Nat) : Int) = 1 from by rw [hv]; rfl] at hBk
          have HBk := Lib.hid hBk; clear hBk
          have HV := Lib.hid hv; clear hv
          go_wp2_with (first | (go_at_call 111; (with_reducible refine (HB.out _).mono ?_); rintro e w1 ⟨rfl, b1⟩; obtain ⟨c1, f1⟩ := bcell b1; have z1 := b1.size; (try simp at z1); have d1a := fun o => c1 (w.heap.size) o (by first | omega | (simp; done) | (simp; omega)); clear c1 f1) | (go_at_call 117; (with_reducible refine (HBk.out _).mono ?_); rintro e w2 ⟨rfl, b2⟩; obtain ⟨c2, f2⟩ := bcell b2; have z2 := b2.size; (try simp at z2); clear c2 f2))
          go_ret
          refine ⟨ret_bool ?_, ?_⟩
          · rw [HBITS.out, noBits_bad _ _ k _ hk0 (by omega) HV.out]
          · (repeat (first | assumption | exact Below.refl _ _ | refine Below.setCell ?_ (by first | omega | (simp; done) | (simp; omega)) _ | refine Below.alloc ?_ (by first | omega | (simp; done) | (simp; omega)) _ | refine Below.drew ?_ | (refine Below.trans ?_ (Below.mono (by assumption) (by first | omega | (simp; done) | (simp; omega))))))
      · have hdl : decide ((k : Int) < nb) = false := decide_eq_false hlt
        go_wp2_with (first | (go_at_call 111; (with_reducible refine (HB.out _).mono ?_); rintro e w1 ⟨rfl, b1⟩; obtain ⟨c1, f1⟩ := bcell b1; have z1 := b1.size; (try simp at z1); have d1a := fun o => c1 (w.heap.size) o (by first | omega | (simp; done) | (simp; omega)); clear c1 f1))
        go_ret
        refine ⟨ret_bool ?_, ?_⟩
        · rw [HBITS.out, show nb.toNat = k from by omega, HN.out]
        · (repeat (first | assumption | exact Below.refl _ _ | refine Below.setCell ?_ (by first | omega | (simp; done) | (simp; omega)) _ | refine Below.alloc ?_ (by first | omega | (simp; done) | (simp; omega)) _ | refine Below.drew ?_ | (refine Below.trans ?_ (Below.mono (by assumption) (by first | omega | (simp; done) | (simp; omega))))))
end Go.Proofs.YtnplgagaoeckoaaGreat
