/- Texts put together: NetE, NetF, NetG, Grp. No condition. -/
import Derived.Test.YtdjmejdfcceknaaQ02e2bemkqkbg
import Derived.BigGuardPart
import Derived.BigQuiet
import Derived.Deep.RegionHeld3
import Derived.Lib.ItoaWalk
import Derived.Deep.DeepCutAuto
/- The contracts of subnets: made, full, right. -/
namespace Go.Proofs.Ytdjmejdfcceknaa
open Go.RowKit
set_option linter.unusedSimpArgs false
set_option linter.unusedVariables false

/-- what is given back with a subnet -/
def GivesNt (w : World) (r : Nt × Bool) (e : Ending) (w' : World) : Prop := e = .returned (.tuple #[.agg #[.bool r.1.ad.v6, .int .u64 r.1.ad.hi, .int .u64 r.1.ad.lo, .int .i64 r.1.bits], .bool r.2]) ∧ Below w.heap.size w w'

theorem BlockIs.newAt (w : World) (arr : List Value) (T : TypeId) {n : Nat} (h : n = w.heap.size) : BlockIs (w.alloc (.cells arr.toArray T)) n arr T := h ▸ BlockIs.new w arr T
theorem BlockIs.alloc {w : World} {B : Nat} {arr : List Value} {T : TypeId} (h : BlockIs w B arr T) (o : Obj) : BlockIs (w.alloc o) B arr T := h.below ((Below.refl _ _).alloc (Nat.le_refl _) _)
set_option maxRecDepth 100000 in
set_option maxHeartbeats 4000000 in
theorem adMake_any (a : Ad) (hf : a.fits) (n : Int) (w : World) : Calls Try.prog 99 #[.agg #[.bool a.v6, .int .u64 a.hi, .int .u64 a.lo], .int .i64 n] w (GivesNt w (adMake a n)) := by
  have hR := fun w => adRight_any a hf w
  have hB := fun w => adBits_any a w
  have HM := Lib.hid (fun w => adMask_any a hf n w)
  obtain ⟨r, hm⟩ : ∃ r, adMake a n = r := ⟨_, rfl⟩
  unfold GivesNt
  rw [hm]
  unfold adMake at hm
  cases hr : adRight a with
  | false =>
    rw [hr] at hR
    rw [if_neg (by rw [hr]; simp)] at hm
    subst hm
    have HR := Lib.hid hR; clear hR hB
    go_enter Try.func99, Try.ntmps99
    go_wp2_with (go_at_call 104; (with_reducible refine (HR.out _).mono ?_); rintro e w1 ⟨rfl, b1⟩; obtain ⟨c1, f1⟩ := bcell b1; have z1 := b1.size; (try simp at z1); have d1a := fun o => c1 (w.heap.size) o (by first | omega | (simp; done) | (simp; omega)); have q1a := fun o => f1 (w.heap.size) o (by first | omega | (simp; done) | (simp; omega)); have d1b := fun o => c1 (w.heap.size + 1) o (by first | omega | (simp; done) | (simp; omega)); have q1b := fun o => f1 (w.heap.size + 1) o (by first | omega | (simp; done) | (simp; omega)); clear c1 f1)
    refine bodyPost_ret (v := .tuple #[.agg #[.bool false, .int .u64 0, .int .u64 0, .int .i64 0], .bool false]) (by simp [results, Try.results99, go_sem, *]) rfl ⟨rfl, ?_⟩
    (repeat (first | assumption | exact Below.refl _ _ | refine Below.setCell ?_ (by first | omega | (simp; done) | (simp; omega)) _ | refine Below.alloc ?_ (by first | omega | (simp; done) | (simp; omega)) _ | refine Below.drew ?_ | (refine Below.trans ?_ (Below.mono (by assumption) (by first | omega | (simp; done) | (simp; omega))))))
  | true =>
    rw [hr] at hR
    generalize adBits a = nb at *
    have HR := Lib.hid hR; have HB := Lib.hid hB; clear hR hB
    by_cases hn : n < 0
    · rw [if_neg (by omega)] at hm
      subst hm
      go_enter Try.func99, Try.ntmps99
      go_wp2_with (first | (go_at_call 104; (with_reducible refine (HR.out _).mono ?_); rintro e w1 ⟨rfl, b1⟩; obtain ⟨c1, f1⟩ := bcell b1; have z1 := b1.size; (try simp at z1); have d1a := fun o => c1 (w.heap.size) o (by first | omega | (simp; done) | (simp; omega)); have q1a := fun o => f1 (w.heap.size) o (by first | omega | (simp; done) | (simp; omega)); have d1b := fun o => c1 (w.heap.size + 1) o (by first | omega | (simp; done) | (simp; omega)); have q1b := fun o => f1 (w.heap.size + 1) o (by first | omega | (simp; done) | (simp; omega)); clear c1 f1) | (go_at_call 117; (with_reducible refine (HB.out _).mono ?_); rintro e w2 ⟨rfl, b2⟩; obtain ⟨c2, f2⟩ := bcell b2; have z2 := b2.size; (try simp at z2); have d2a := fun o => c2 (w.heap.size) o (by first | omega | (simp; done) | (simp; omega)); have q2a := fun o => f2 (w.heap.size) o (by first | omega | (simp; done) | (simp; omega)); have d2b := fun o => c2 (w.heap.size + 1) o (by first | omega | (simp; done) | (simp; omega)); have q2b := fun o => f2 (w.heap.size + 1) o (by first | omega | (simp; done) | (simp; omega)); clear c2 f2))
      refine bodyPost_ret (v := .tuple #[.agg #[.bool false, .int .u64 0, .int .u64 0, .int .i64 0], .bool false]) (by simp [results, Try.results99, go_sem, *]) rfl ⟨rfl, ?_⟩
      (repeat (first | assumption | exact Below.refl _ _ | refine Below.setCell ?_ (by first | omega | (simp; done) | (simp; omega)) _ | refine Below.alloc ?_ (by first | omega | (simp; done) | (simp; omega)) _ | refine Below.drew ?_ | (refine Below.trans ?_ (Below.mono (by assumption) (by first | omega | (simp; done) | (simp; omega))))))
    have hnd : decide (n < 0) = false := decide_eq_false hn
    by_cases hn2 : nb < n
    · rw [if_neg (by omega)] at hm
      subst hm
      go_enter Try.func99, Try.ntmps99
      go_wp2_with (first | (go_at_call 104; (with_reducible refine (HR.out _).mono ?_); rintro e w1 ⟨rfl, b1⟩; obtain ⟨c1, f1⟩ := bcell b1; have z1 := b1.size; (try simp at z1); have d1a := fun o => c1 (w.heap.size) o (by first | omega | (simp; done) | (simp; omega)); have q1a := fun o => f1 (w.heap.size) o (by first | omega | (simp; done) | (simp; omega)); have d1b := fun o => c1 (w.heap.size + 1) o (by first | omega | (simp; done) | (simp; omega)); have q1b := fun o => f1 (w.heap.size + 1) o (by first | omega | (simp; done) | (simp; omega)); clear c1 f1) | (go_at_call 117; (with_reducible refine (HB.out _).mono ?_); rintro e w2 ⟨rfl, b2⟩; obtain ⟨c2, f2⟩ := bcell b2; have z2 := b2.size; (try simp at z2); have d2a := fun o => c2 (w.heap.size) o (by first | omega | (simp; done) | (simp; omega)); have q2a := fun o => f2 (w.heap.size) o (by first | omega | (simp; done) | (simp; omega)); have d2b := fun o => c2 (w.heap.size + 1) o (by first | omega | (simp; done) | (simp; omega)); have q2b := fun o => f2 (w.heap.size + 1) o (by first | omega | (simp; done) | (simp; omega)); clear c2 f2))
      refine bodyPost_ret (v := .tuple #[.agg #[.bool false, .int .u64 0, .int .u64 0, .int .i64 0], .bool false]) (by simp [results, Try.results99, go_sem, *]) rfl ⟨rfl, ?_⟩
      (repeat (first | assumption | exact Below.refl _ _ | refine Below.setCell ?_ (by first | omega | (simp; done) | (simp; omega)) _ | refine Below.alloc ?_ (by first | omega | (simp; done) | (simp; omega)) _ | refine Below.drew ?_ | (refine Below.trans ?_ (Below.mono (by assumption) (by first | omega | (simp; done) | (simp; omega))))))
    · rw [if_pos (by exact ⟨hr, by omega, by omega⟩)] at hm
      subst hm
      generalize adMask a n = m at *
      have hn3 : n ≤ nb := by omega
      have hnd2 : decide (nb < n) = false := decide_eq_false hn2
      go_enter Try.func99, Try.ntmps99
      go_wp2_with (first | (go_at_call 104; (with_reducible refine (HR.out _).mono ?_); rintro e w1 ⟨rfl, b1⟩; obtain ⟨c1, f1⟩ := bcell b1; have z1 := b1.size; (try simp at z1); have d1a := fun o => c1 (w.heap.size) o (by first | omega | (simp; done) | (simp; omega)); have q1a := fun o => f1 (w.heap.size) o (by first | omega | (simp; done) | (simp; omega)); have d1b := fun o => c1 (w.heap.size + 1) o (by first | omega | (simp; done) | (simp; omega)); have q1b := fun o => f1 (w.heap.size + 1) o (by first | omega | (simp; done) | (simp; omega)); clear c1 f1) | (go_at_call 117; (with_reducible refine (HB.out _).mono ?_); rintro e w2 ⟨rfl, b2⟩; obtain ⟨c2, f2⟩ := bcell b2; have z2 := b2.size; (try simp at z2); have d2a := fun o => c2 (w.heap.size) o (by first | omega | (simp; done) | (simp; omega)); have q2a := fun o => f2 (w.heap.size) o (by first | omega | (simp; done) | (simp; omega)); have d2b := fun o => c2 (w.heap.size + 1) o (by first | omega | (simp; done) | (simp; omega)); have q2b := fun o => f2 (w.heap.size + 1) o (by first | omega | (simp; done) | (simp; omega)); clear c2 f2) | (go_at_call 118; (with_reducible refine (HM.out _).mono ?_); rintro e w3 ⟨rfl, b3⟩; obtain ⟨c3, f3⟩ := bcell b3; have z3 := b3.size; (try simp at z3); have d3a := fun o => c3 (w.heap.size) o (by first | omega | (simp; done) | (simp; omega)); have q3a := fun o => f3 (w.heap.size) o (by first | omega | (simp; done) | (simp; omega)); have d3b := fun o => c3 (w.heap.size + 1) o (by first | omega | (simp; done) | (simp; omega)); have q3b := fun o => f3 (w.heap.size + 1) o (by first | omega | (simp; done) | (simp; omega)); clear c3 f3))
      refine bodyPost_ret (v := .tuple #[.agg #[.bool m.v6, .int .u64 m.hi, .int .u64 m.lo, .int .i64 n], .bool true]) (by simp [results, Try.results99, go_sem, *]) rfl ⟨rfl, ?_⟩
      (repeat (first | assumption | exact Below.refl _ _ | refine Below.setCell ?_ (by first | omega | (simp; done) | (simp; omega)) _ | refine Below.alloc ?_ (by first | omega | (simp; done) | (simp; omega)) _ | refine Below.drew ?_ | (refine Below.trans ?_ (Below.mono (by assumption) (by first | omega | (simp; done) | (simp; omega))))))
def grBits (a : Ad) : Int := if a.v6 = true then 32 else 16
def grOf (a : Ad) : Nt := (adMake a (grBits a)).1
theorem grBits_any (a : Ad) (w : World) : Calls Try.prog 100 #[.agg #[.bool a.v6, .int .u64 a.hi, .int .u64 a.lo]] w fun e w' => e = .returned (.int .i64 (grBits a)) ∧ Below w.heap.size w w' := by
  unfold grBits
  go_enter Try.func100, Try.ntmps100
  go_wp2
  all_goals
    go_ret
    exact ⟨ret_int (by simp [*]), (Below.refl _ _).alloc (Nat.le_refl _) _⟩
set_option maxRecDepth 100000 in
set_option maxHeartbeats 4000000 in
theorem grOf_any (a : Ad) (hf : a.fits) (w : World) : Calls Try.prog 66 #[.agg #[.bool a.v6, .int .u64 a.hi, .int .u64 a.lo]] w fun e w' => e = .returned (.agg #[.bool (grOf a).ad.v6, .int .u64 (grOf a).ad.hi, .int .u64 (grOf a).ad.lo, .int .i64 (grOf a).bits]) ∧ Below w.heap.size w w' := by
  have HB := Lib.hid (fun w => grBits_any a w)
  have hM := fun w => adMake_any a hf (grBits a) w
  unfold GivesNt at hM
  unfold grOf
  generalize adMake a (grBits a) = r at *
  generalize grBits a = nb at *
  have HM := Lib.hid hM; clear hM
  obtain ⟨⟨m, k⟩, ok⟩ := r
  go_enter Try.func66, Try.ntmps66
  go_wp2_with fail
  go_region_held3 (fun w' => w'.cell? ⟨w.heap.size, 0, none⟩ = some (.bool a.v6) ∧ w'.cell? ⟨w.heap.size, 1, none⟩ = some (.int .u64 a.hi) ∧ w'.cell? ⟨w.heap.size, 2, none⟩ = some (.int .u64 a.lo)) (first | go_keep | (simp (disch := omega) [*]; done) | (simp (disch := first | omega | (simp; omega)) [World.cell?_setCell_far, World.cell?_alloc_past, *]; done) | (simp (disch := first | omega | (simp; omega)) [World.cell?_setCell_far, World.cell?_alloc_past, *]; repeat (first | exact rfl | refine ⟨rfl, ?_⟩))) (first | ((go_at_call 100; (with_reducible refine (HB.out _).mono ?_); rintro e w2 ⟨rfl, b2⟩; obtain ⟨c2, f2⟩ := bcell b2; have z2 := b2.size; (try simp at z2); have d2a := fun o => c2 (w.heap.size) o (by first | omega | (simp; done) | (simp; omega)); have q2a := fun o => f2 (w.heap.size) o (by first | omega | (simp; done) | (simp; omega)); have d2b := fun o => c2 (w.heap.size + 1) o (by first | omega | (simp; done) | (simp; omega)); have q2b := fun o => f2 (w.heap.size + 1) o (by first | omega | (simp; done) | (simp; omega)); (try have d2c := fun o => c2 (w.heap.size + 2) o (by first | omega | (simp; done) | (simp; omega))); (try have q2c := fun o => f2 (w.heap.size + 2) o (by first | omega | (simp; done) | (simp; omega))); clear c2 f2); have y2 : w.heap.size < w2.heap.size := (by omega); have x2 : w.heap.size + 1 < w2.heap.size := (by omega); have n2 := Nat.ne_of_lt y2; have m2 := Nat.ne_of_lt x2) | ((go_at_call 99; (with_reducible refine (HM.out _).mono ?_); rintro e w3 ⟨rfl, b3⟩; obtain ⟨c3, f3⟩ := bcell b3; have z3 := b3.size; (try simp at z3); have d3a := fun o => c3 (w.heap.size) o (by first | omega | (simp; done) | (simp; omega)); have q3a := fun o => f3 (w.heap.size) o (by first | omega | (simp; done) | (simp; omega)); have d3b := fun o => c3 (w.heap.size + 1) o (by first | omega | (simp; done) | (simp; omega)); have q3b := fun o => f3 (w.heap.size + 1) o (by first | omega | (simp; done) | (simp; omega)); (try have d3c := fun o => c3 (w.heap.size + 2) o (by first | omega | (simp; done) | (simp; omega))); (try have q3c := fun o => f3 (w.heap.size + 2) o (by first | omega | (simp; done) | (simp; omega))); (try have d3d := fun o => c3 (w2.heap.size) o (by first | omega | (simp; done) | (simp; omega))); (try have q3d := fun o => f3 (w2.heap.size) o (by first | omega | (simp; done) | (simp; omega))); clear c3 f3); have y3 : w.heap.size < w3.heap.size := (by omega); have x3 : w.heap.size + 1 < w3.heap.size := (by omega); have n3 := Nat.ne_of_lt y3; have m3 := Nat.ne_of_lt x3))
  · go_upto_region 2 with fail
    go_name_world WWx hWWx
    have hG : BlockIs WWx (w3.heap.size) [.bool m.v6, .int .u64 m.hi, .int .u64 m.lo, .int .i64 k] 38 := by subst hWWx; exact BlockIs.new w3 [.bool m.v6, .int .u64 m.hi, .int .u64 m.lo, .int .i64 k] 38
    have hR : BlockIs WWx (w.heap.size + 1) [.bool false, .int .u64 0, .int .u64 0, .int .i64 0] 38 := by subst hWWx; exact BlockIs.alloc (by exact BlockIs.below (by exact BlockIs.below (by exact BlockIs.newAt (w.alloc (.cells #[.bool a.v6, .int .u64 a.hi, .int .u64 a.lo] 28)) [.bool false, .int .u64 0, .int .u64 0, .int .i64 0] 38 (n := w.heap.size + 1) (by simp)) b2) b3) (.cells #[.bool m.v6, .int .u64 m.hi, .int .u64 m.lo, .int .i64 k] 38)
    have bwx : Below w.heap.size w WWx := by subst hWWx; (repeat (first | assumption | exact Below.refl _ _ | refine Below.setCell ?_ (by first | omega | (simp; done) | (simp; omega)) _ | refine Below.alloc ?_ (by first | omega | (simp; done) | (simp; omega)) _ | refine Below.drew ?_ | (refine Below.trans ?_ (Below.mono (by assumption) (by first | omega | (simp; done) | (simp; omega))))))
    clear hWWx d2a d2b d3a d3b q2a q2b q3a q3b b2 b3
    have k0 := hG.cell (i := 0) rfl
    have k1 := hG.cell (i := 1) rfl
    have k2 := hG.cell (i := 2) rfl
    have k3 := hG.cell (i := 3) rfl
    have r0 := hR.cell (i := 0) rfl
    have r1 := hR.cell (i := 1) rfl
    have r2 := hR.cell (i := 2) rfl
    have r3 := hR.cell (i := 3) rfl
    have rf := hR.frozen
    clear hG hR
    go_wp2_with fail
    refine bodyPost_ret (v := .agg #[.bool m.v6, .int .u64 m.hi, .int .u64 m.lo, .int .i64 k]) (by simp [results, Try.results66, go_sem, *]) rfl ⟨rfl, ?_⟩
    (repeat (first | assumption | exact Below.refl _ _ | refine Below.setCell ?_ (by first | omega | (simp; done) | (simp; omega)) _ | refine Below.alloc ?_ (by first | omega | (simp; done) | (simp; omega)) _ | refine Below.drew ?_ | (refine Below.trans ?_ (Below.mono (by assumption) (by first | omega | (simp; done) | (simp; omega))))))
  · go_upto_region 2 with fail
    go_name_world WWx hWWx
    have hG : BlockIs WWx (w2.heap.size) [.bool m.v6, .int .u64 m.hi, .int .u64 m.lo, .int .i64 k] 38 := by subst hWWx; exact BlockIs.set (BlockIs.set (BlockIs.set (BlockIs.set (BlockIs.below (by exact BlockIs.new w2 [.bool false, .int .u64 0, .int .u64 0, .int .i64 0] 38) b3) 0 (.bool m.v6)) 1 (.int .u64 m.hi)) 2 (.int .u64 m.lo)) 3 (.int .i64 k)
    have hR : BlockIs WWx (w.heap.size + 1) [.bool false, .int .u64 0, .int .u64 0, .int .i64 0] 38 := by subst hWWx; exact BlockIs.other (BlockIs.other (BlockIs.other (BlockIs.other (BlockIs.below (by exact BlockIs.alloc (by exact BlockIs.below (by exact BlockIs.newAt (w.alloc (.cells #[.bool a.v6, .int .u64 a.hi, .int .u64 a.lo] 28)) [.bool false, .int .u64 0, .int .u64 0, .int .i64 0] 38 (n := w.heap.size + 1) (by simp)) b2) (.cells #[.bool false, .int .u64 0, .int .u64 0, .int .i64 0] 38)) b3) (p := ⟨w2.heap.size, 0, none⟩) (by simp only; omega) (.bool m.v6)) (p := ⟨w2.heap.size, 1, none⟩) (by simp only; omega) (.int .u64 m.hi)) (p := ⟨w2.heap.size, 2, none⟩) (by simp only; omega) (.int .u64 m.lo)) (p := ⟨w2.heap.size, 3, none⟩) (by simp only; omega) (.int .i64 k)
    have bwx : Below w.heap.size w WWx := by subst hWWx; (repeat (first | assumption | exact Below.refl _ _ | refine Below.setCell ?_ (by first | omega | (simp; done) | (simp; omega)) _ | refine Below.alloc ?_ (by first | omega | (simp; done) | (simp; omega)) _ | refine Below.drew ?_ | (refine Below.trans ?_ (Below.mono (by assumption) (by first | omega | (simp; done) | (simp; omega))))))
    clear hWWx d2a d2b d3a d3b q2a q2b q3a q3b b2 b3
    have k0 := hG.cell (i := 0) rfl
    have k1 := hG.cell (i := 1) rfl
    have k2 := hG.cell (i := 2) rfl
    have k3 := hG.cell (i := 3) rfl
    have r0 := hR.cell (i := 0) rfl
    have r1 := hR.cell (i := 1) rfl
    have r2 := hR.cell (i := 2) rfl
    have r3 := hR.cell (i := 3) rfl
    have rf := hR.frozen
    clear hG hR
    go_wp2_with fail
    refine bodyPost_ret (v := .agg #[.bool m.v6, .int .u64 m.hi, .int .u64 m.lo, .int .i64 k]) (by simp [results, Try.results66, go_sem, *]) rfl ⟨rfl, ?_⟩
    (repeat (first | assumption | exact Below.refl _ _ | refine Below.setCell ?_ (by first | omega | (simp; done) | (simp; omega)) _ | refine Below.alloc ?_ (by first | omega | (simp; done) | (simp; omega)) _ | refine Below.drew ?_ | (refine Below.trans ?_ (Below.mono (by assumption) (by first | omega | (simp; done) | (simp; omega))))))
  · go_upto_region 2 with fail
    go_name_world WWx hWWx
    have hG : BlockIs WWx (w.heap.size + 1 + 1) [.bool m.v6, .int .u64 m.hi, .int .u64 m.lo, .int .i64 k] 38 := by subst hWWx; exact BlockIs.set (BlockIs.set (BlockIs.set (BlockIs.set (BlockIs.below (by exact BlockIs.below (by exact BlockIs.newAt ((w.alloc (.cells #[.bool a.v6, .int .u64 a.hi, .int .u64 a.lo] 28)).alloc (.cells #[.bool false, .int .u64 0, .int .u64 0, .int .i64 0] 38)) [.bool false, .int .u64 0, .int .u64 0, .int .i64 0] 38 (n := w.heap.size + 1 + 1) (by simp)) b2) b3) 0 (.bool m.v6)) 1 (.int .u64 m.hi)) 2 (.int .u64 m.lo)) 3 (.int .i64 k)
    have hR : BlockIs WWx (w.heap.size + 1) [.bool false, .int .u64 0, .int .u64 0, .int .i64 0] 38 := by subst hWWx; exact BlockIs.other (BlockIs.other (BlockIs.other (BlockIs.other (BlockIs.below (by exact BlockIs.below (by exact BlockIs.alloc (by exact BlockIs.newAt (w.alloc (.cells #[.bool a.v6, .int .u64 a.hi, .int .u64 a.lo] 28)) [.bool false, .int .u64 0, .int .u64 0, .int .i64 0] 38 (n := w.heap.size + 1) (by simp)) (.cells #[.bool false, .int .u64 0, .int .u64 0, .int .i64 0] 38)) b2) b3) (p := ⟨w.heap.size + 1 + 1, 0, none⟩) (by simp only; omega) (.bool m.v6)) (p := ⟨w.heap.size + 1 + 1, 1, none⟩) (by simp only; omega) (.int .u64 m.hi)) (p := ⟨w.heap.size + 1 + 1, 2, none⟩) (by simp only; omega) (.int .u64 m.lo)) (p := ⟨w.heap.size + 1 + 1, 3, none⟩) (by simp only; omega) (.int .i64 k)
    have bwx : Below w.heap.size w WWx := by subst hWWx; (repeat (first | assumption | exact Below.refl _ _ | refine Below.setCell ?_ (by first | omega | (simp; done) | (simp; omega)) _ | refine Below.alloc ?_ (by first | omega | (simp; done) | (simp; omega)) _ | refine Below.drew ?_ | (refine Below.trans ?_ (Below.mono (by assumption) (by first | omega | (simp; done) | (simp; omega))))))
    clear hWWx d2a d2b d3a d3b q2a q2b q3a q3b b2 b3
    have k0 := hG.cell (i := 0) rfl
    have k1 := hG.cell (i := 1) rfl
    have k2 := hG.cell (i := 2) rfl
    have k3 := hG.cell (i := 3) rfl
    have r0 := hR.cell (i := 0) rfl
    have r1 := hR.cell (i := 1) rfl
    have r2 := hR.cell (i := 2) rfl
    have r3 := hR.cell (i := 3) rfl
    have rf := hR.frozen
    clear hG hR
    go_wp2_with fail
    refine bodyPost_ret (v := .agg #[.bool m.v6, .int .u64 m.hi, .int .u64 m.lo, .int .i64 k]) (by simp [results, Try.results66, go_sem, *]) rfl ⟨rfl, ?_⟩
    (repeat (first | assumption | exact Below.refl _ _ | refine Below.setCell ?_ (by first | omega | (simp; done) | (simp; omega)) _ | refine Below.alloc ?_ (by first | omega | (simp; done) | (simp; omega)) _ | refine Below.drew ?_ | (refine Below.trans ?_ (Below.mono (by assumption) (by first | omega | (simp; done) | (simp; omega))))))
end Go.Proofs.Ytdjmejdfcceknaa
/- The contracts of subnets: right, written. -/
namespace Go.Proofs.Ytdjmejdfcceknaa
open Go.RowKit
set_option linter.unusedSimpArgs false
set_option linter.unusedVariables false

end Go.Proofs.Ytdjmejdfcceknaa
/- Groups of addresses: plain laws; the contracts of subnets' texts and of groups. -/
namespace Go.Proofs.Ytdjmejdfcceknaa
open Go.RowKit
set_option linter.unusedSimpArgs false
set_option linter.unusedVariables false

theorem cut32 (x : Nat) : cutW 64 x 32 = x - x % 4294967296 := by
  unfold cutW; show x / 4294967296 * 4294967296 = _; omega
theorem cut16 (x : Nat) : cutW 32 x 16 = x - x % 65536 := by
  unfold cutW; show x / 65536 * 65536 = _; omega
theorem grBits_in (a : Ad) : 0 ≤ grBits a ∧ grBits a ≤ adBits a := by unfold grBits adBits; split <;> omega
theorem grOf_good (a : Ad) (h : adRight a = true) : grOf a = ⟨adMask a (grBits a), grBits a⟩ := by
  unfold grOf adMake; rw [if_pos ⟨h, grBits_in a⟩]
theorem grOf_bad (a : Ad) (h : adRight a = false) : grOf a = ⟨⟨false, 0, 0⟩, 0⟩ := by
  unfold grOf adMake; rw [if_neg (by rw [h]; simp)]
theorem grOf_6 (a : Ad) (hf : a.fits) (h : adRight a = true) (hv : a.v6 = true) : grOf a = ⟨⟨true, a.hi - a.hi % 4294967296, 0⟩, 32⟩ := by
  rw [grOf_good a h]
  have hb : grBits a = 32 := by unfold grBits; rw [if_pos hv]
  rw [hb]
  unfold adMask; rw [if_pos h, if_pos hv, clampB_in (by omega) (by rw [adBits_of hv]; omega)]
  show Nt.mk ⟨true, cutW 64 a.hi 32, cutW 64 a.lo 0⟩ 32 = _
  rw [cut32, cutW_none 64 a.lo hf.2]
theorem grOf_4 (a : Ad) (h : adRight a = true) (hv : a.v6 = false) : grOf a = ⟨⟨false, 0, a.lo - a.lo % 65536⟩, 16⟩ := by
  rw [grOf_good a h]
  have hb : grBits a = 16 := by unfold grBits; rw [if_neg (by rw [hv]; simp)]
  rw [hb]
  unfold adMask; rw [if_pos h, if_neg (by rw [hv]; simp), clampB_in (by omega) (by rw [adBits_of4 hv]; omega)]
  show Nt.mk ⟨false, 0, cutW 32 a.lo 16⟩ 16 = _
  rw [cut16]
theorem grOf_fits (a : Ad) (hf : a.fits) : (grOf a).ad.fits := by
  cases h : adRight a with
  | true => rw [grOf_good a h]; exact adMask_fits a _ hf
  | false => rw [grOf_bad a h]; exact ⟨by simp, by simp⟩
theorem grOf_right (a : Ad) (hf : a.fits) (h : adRight a = true) : ntRight (grOf a) = true := by
  refine adMake_right a (grBits a) hf ?_
  unfold adMake; rw [if_pos ⟨h, grBits_in a⟩]
theorem grOf_v6 (a : Ad) (h : adRight a = true) : (grOf a).ad.v6 = a.v6 := by
  rw [grOf_good a h]; exact adMask_v6 a _ h
def grSame (a b : Ad) : Bool := adRight a && (adRight b && decide (grOf a = grOf b))
theorem grBits_v6 {a b : Ad} (h : a.v6 = b.v6) : grBits a = grBits b := by unfold grBits; rw [h]
theorem grOf_iff (a b : Ad) (ha : adRight a = true) (hb : adRight b = true) : grOf a = grOf b ↔ a.v6 = b.v6 ∧ adMask a (grBits a) = adMask b (grBits a) := by
  constructor
  · intro h
    have hv : a.v6 = b.v6 := by rw [← grOf_v6 a ha, ← grOf_v6 b hb, h]
    refine ⟨hv, ?_⟩
    rw [grOf_good a ha, grOf_good b hb, ← grBits_v6 hv] at h
    exact congrArg Nt.ad h
  · intro ⟨hv, h⟩
    rw [grOf_good a ha, grOf_good b hb, ← grBits_v6 hv, h]
/-- the reference's way: bit by bit -/
theorem same_bits (a b : Ad) (fa : a.fits) (fb : b.fits) (ha : adRight a = true) (hb : adRight b = true) (hv : a.v6 = b.v6) : sameK a b (grBits a).toNat = decide (grOf a = grOf b) := by
  have hg := grBits_in b
  rw [← grBits_v6 hv] at hg
  have h1 := sameK_mask (adMask b (grBits a)) a (grBits a) (adMask_fits b _ fb) fa (adMask_right b _ fb hb) ha ((adMask_v6 b _ hb).trans hv.symm) hg.1 (by rw [adMask_bits b _ hb]; exact hg.2) (adMask_mask b _ fb hb)
  rw [Bool.eq_iff_iff, sameK_iff, decide_eq_true_iff, grOf_iff a b ha hb]
  rw [Bool.eq_iff_iff, sameK_iff, decide_eq_true_iff] at h1
  have e : (∀ j, j < (grBits a).toNat → adBit a (j : Int) = adBit b (j : Int)) ↔ (∀ j, j < (grBits a).toNat → adBit (adMask b (grBits a)) (j : Int) = adBit a (j : Int)) := by
    refine forall_congr' fun j => forall_congr' fun hj => ?_
    rw [adBit_mask b (grBits a) fb hb hg.1 hg.2 j (by omega), if_pos (by omega)]
    exact eq_comm
  rw [e, h1]
  exact ⟨fun h => ⟨hv, h⟩, fun h => h.2⟩
theorem ntHas_gr (a b : Ad) (fa : a.fits) (ha : adRight a = true) (hb : adRight b = true) : ntHas (grOf a) b = decide (grOf a = grOf b) := by
  unfold ntHas
  rw [grOf_right a fa ha, hb, grOf_v6 a ha]
  rw [Bool.eq_iff_iff, decide_eq_true_iff, grOf_iff a b ha hb, grOf_good a ha]
  simp only [Bool.true_and, Bool.and_eq_true, decide_eq_true_iff]
  exact ⟨fun h => ⟨h.1, h.2.symm⟩, fun h => ⟨h.1, h.2.symm⟩⟩

/-! ### the texts -/
theorem ntText_bad (n : Nt) (h : ntRight n = false) : ntText n = [] := by unfold ntText; rw [if_neg (by rw [h]; simp)]
end Go.Proofs.Ytdjmejdfcceknaa
/- The contracts of groups. -/
namespace Go.Proofs.Ytdjmejdfcceknaa
open Go.RowKit
set_option linter.unusedSimpArgs false
set_option linter.unusedVariables false

set_option maxRecDepth 100000 in
set_option maxHeartbeats 4000000 in
theorem refGrOf_any (a : Ad) (hf : a.fits) (w : World) : Calls Try.prog 22 #[.agg #[.bool a.v6, .int .u64 a.hi, .int .u64 a.lo]] w fun e w' => e = .returned (.agg #[.bool (grOf a).ad.v6, .int .u64 (grOf a).ad.hi, .int .u64 (grOf a).ad.lo, .int .i64 (grOf a).bits]) ∧ Below w.heap.size w w' := by
  have hR := fun w => refAdRight_any a hf w
  obtain ⟨h1, h2⟩ := hf
  obtain ⟨r, hr⟩ : ∃ r, grOf a = r := ⟨_, rfl⟩
  rw [hr]
  cases ha : adRight a with
  | false =>
    rw [ha] at hR
    rw [grOf_bad a ha] at hr
    subst hr
    have HR := Lib.hid hR; clear hR
    go_enter Try.func22, Try.ntmps22
    go_wp2_with (go_at_call 71; (with_reducible refine (HR.out _).mono ?_); rintro e w1 ⟨rfl, b1⟩; obtain ⟨c1, f1⟩ := bcell b1; have z1 := b1.size; (try simp at z1); have d1a := fun o => c1 (w.heap.size) o (by first | omega | (simp; done) | (simp; omega)); have q1a := fun o => f1 (w.heap.size) o (by first | omega | (simp; done) | (simp; omega)); have d1b := fun o => c1 (w.heap.size + 1) o (by first | omega | (simp; done) | (simp; omega)); have q1b := fun o => f1 (w.heap.size + 1) o (by first | omega | (simp; done) | (simp; omega)); clear c1 f1)
    refine bodyPost_ret (v := .agg #[.bool false, .int .u64 0, .int .u64 0, .int .i64 0]) (by simp [results, Try.results22, go_sem, *]) rfl ⟨rfl, ?_⟩
    (repeat (first | assumption | exact Below.refl _ _ | refine Below.setCell ?_ (by first | omega | (simp; done) | (simp; omega)) _ | refine Below.alloc ?_ (by first | omega | (simp; done) | (simp; omega)) _ | refine Below.drew ?_ | (refine Below.trans ?_ (Below.mono (by assumption) (by first | omega | (simp; done) | (simp; omega))))))
  | true =>
    rw [ha] at hR
    cases hv : a.v6 with
    | true =>
      rw [grOf_6 a ⟨h1, h2⟩ ha hv] at hr
      rw [hv] at hR
      subst hr
      have HR := Lib.hid hR; clear hR ha
      have hw : IntKind.u64.wrap ((a.hi : Int) - (a.hi : Int) % 4294967296) = ((a.hi - a.hi % 4294967296 : Nat) : Int) := by rw [IntWalk.u64_in _ (by omega)]; omega
      go_enter Try.func22, Try.ntmps22
      go_wp2_with (go_at_call 71; (with_reducible refine (HR.out _).mono ?_); rintro e w1 ⟨rfl, b1⟩; obtain ⟨c1, f1⟩ := bcell b1; have z1 := b1.size; (try simp at z1); have d1a := fun o => c1 (w.heap.size) o (by first | omega | (simp; done) | (simp; omega)); have q1a := fun o => f1 (w.heap.size) o (by first | omega | (simp; done) | (simp; omega)); have d1b := fun o => c1 (w.heap.size + 1) o (by first | omega | (simp; done) | (simp; omega)); have q1b := fun o => f1 (w.heap.size + 1) o (by first | omega | (simp; done) | (simp; omega)); clear c1 f1)
      refine bodyPost_ret (v := .agg #[.bool true, .int .u64 ((a.hi - a.hi % 4294967296 : Nat) : Int), .int .u64 0, .int .i64 32]) (by simp [results, Try.results22, go_sem, *]) rfl ⟨rfl, ?_⟩
      (repeat (first | assumption | exact Below.refl _ _ | refine Below.setCell ?_ (by first | omega | (simp; done) | (simp; omega)) _ | refine Below.alloc ?_ (by first | omega | (simp; done) | (simp; omega)) _ | refine Below.drew ?_ | (refine Below.trans ?_ (Below.mono (by assumption) (by first | omega | (simp; done) | (simp; omega))))))
    | false =>
      rw [grOf_4 a ha hv] at hr
      rw [hv] at hR
      subst hr
      have HR := Lib.hid hR; clear hR ha
      have hw : IntKind.u64.wrap ((a.lo : Int) - (a.lo : Int) % 65536) = ((a.lo - a.lo % 65536 : Nat) : Int) := by rw [IntWalk.u64_in _ (by omega)]; omega
      go_enter Try.func22, Try.ntmps22
      go_wp2_with (go_at_call 71; (with_reducible refine (HR.out _).mono ?_); rintro e w1 ⟨rfl, b1⟩; obtain ⟨c1, f1⟩ := bcell b1; have z1 := b1.size; (try simp at z1); have d1a := fun o => c1 (w.heap.size) o (by first | omega | (simp; done) | (simp; omega)); have q1a := fun o => f1 (w.heap.size) o (by first | omega | (simp; done) | (simp; omega)); have d1b := fun o => c1 (w.heap.size + 1) o (by first | omega | (simp; done) | (simp; omega)); have q1b := fun o => f1 (w.heap.size + 1) o (by first | omega | (simp; done) | (simp; omega)); clear c1 f1)
      refine bodyPost_ret (v := .agg #[.bool false, .int .u64 0, .int .u64 ((a.lo - a.lo % 65536 : Nat) : Int), .int .i64 16]) (by simp [results, Try.results22, go_sem, *]) rfl ⟨rfl, ?_⟩
      (repeat (first | assumption | exact Below.refl _ _ | refine Below.setCell ?_ (by first | omega | (simp; done) | (simp; omega)) _ | refine Below.alloc ?_ (by first | omega | (simp; done) | (simp; omega)) _ | refine Below.drew ?_ | (refine Below.trans ?_ (Below.mono (by assumption) (by first | omega | (simp; done) | (simp; omega))))))
end Go.Proofs.Ytdjmejdfcceknaa
