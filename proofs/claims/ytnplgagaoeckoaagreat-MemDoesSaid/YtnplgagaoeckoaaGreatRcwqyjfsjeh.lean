/- Texts put together: NetE. No condition. -/
import Derived.Test.YtnplgagaoeckoaaGreatRldnkkbbzkg
import Derived.BigGuardPart
import Derived.BigQuiet
import Derived.Deep.RegionHeld3
import Derived.Lib.ItoaWalk
import Derived.Deep.DeepCutAuto
set_option maxRecDepth 100000
set_option linter.unusedSimpArgs false
set_option linter.unusedVariables false
namespace Go.Proofs.YtnplgagaoeckoaaGreat
open Go.RowKit

/-- what is given back with a subnet -/
def GivesNt (w : World) (r : Nt × Bool) (e : Ending) (w' : World) : Prop := e = .returned (.tuple #[.agg #[.bool r.1.ad.v6, .int .u64 r.1.ad.hi, .int .u64 r.1.ad.lo, .int .i64 r.1.bits], .bool r.2]) ∧ Below w.heap.size w w'

theorem BlockIs.newAt (w : World) (arr : List Value) (T : TypeId) {n : Nat} (h : n = w.heap.size) : BlockIs (w.alloc (.cells arr.toArray T)) n arr T := h ▸ BlockIs.new w arr T
theorem BlockIs.alloc {w : World} {B : Nat} {arr : List Value} {T : TypeId} (h : BlockIs w B arr T) (o : Obj) : BlockIs (w.alloc o) B arr T := h.below ((Below.refl _ _).alloc (Nat.le_refl _) _)
set_option maxHeartbeats 4000000 in
theorem adMake_any (a : Ad) (hf : a.fits) (n : Int) (w : World) : Calls Tryz.prog 107 #[.agg #[.bool a.v6, .int .u64 a.hi, .int .u64 a.lo], .int .i64 n] w (GivesNt w (adMake a n)) := by
 have hR := fun w => adRight_any a hf w
 have hB := fun w => adBits_any a w
 have HM := zh (fun w => adMask_any a hf n w)
 obtain ⟨r, hm⟩ : ∃ r, adMake a n = r := ⟨_, rfl⟩
 unfold GivesNt
 rw [hm]
 unfold adMake at hm
 cases hr : adRight a with
 | false =>
  rw [hr] at hR
  rw [if_neg (by rw [hr]; simp)] at hm
  subst hm
  have HR := zh hR; clear hR hB
  go_enter Tryz.func107, Tryz.ntmps107
  go_wp2_with (go_at_call 120; (with_reducible refine (HR.out _).mono ?_); rintro e w1 ⟨rfl, b1⟩; obtain ⟨c1, f1⟩ := bcell b1; have z1 := b1.size; (try simp at z1); have d1a := fun o => c1 (w.heap.size) o (by first | omega | (simp; done) | (simp; omega)); have q1a := fun o => f1 (w.heap.size) o (by first | omega | (simp; done) | (simp; omega)); have d1b := fun o => c1 (w.heap.size + 1) o (by first | omega | (simp; done) | (simp; omega)); have q1b := fun o => f1 (w.heap.size + 1) o (by first | omega | (simp; done) | (simp; omega)); clear c1 f1)
  refine bodyPost_ret (v := .tuple #[.agg #[.bool false, .int .u64 0, .int .u64 0, .int .i64 0], .bool false]) (by simp [results, Tryz.results107, go_sem, *]) rfl ⟨rfl, ?_⟩
  (repeat (first | assumption | exact Below.refl _ _ | refine Below.setCell ?_ (by first | omega | (simp; done) | (simp; omega)) _ | refine Below.alloc ?_ (by first | omega | (simp; done) | (simp; omega)) _ | refine Below.drew ?_ | (refine Below.trans ?_ (Below.mono (by assumption) (by first | omega | (simp; done) | (simp; omega))))))
 | true =>
  rw [hr] at hR
  generalize adBits a = nb at *
  obtain ⟨HR, HB⟩ := zh2 hR hB; clear hR hB
  by_cases hn : n < 0
  ·rw [if_neg (by omega)] at hm
   subst hm
   go_enter Tryz.func107, Tryz.ntmps107
   go_wp2_with (first | (go_at_call 120; (with_reducible refine (HR.out _).mono ?_); rintro e w1 ⟨rfl, b1⟩; obtain ⟨c1, f1⟩ := bcell b1; have z1 := b1.size; (try simp at z1); have d1a := fun o => c1 (w.heap.size) o (by first | omega | (simp; done) | (simp; omega)); have q1a := fun o => f1 (w.heap.size) o (by first | omega | (simp; done) | (simp; omega)); have d1b := fun o => c1 (w.heap.size + 1) o (by first | omega | (simp; done) | (simp; omega)); have q1b := fun o => f1 (w.heap.size + 1) o (by first | omega | (simp; done) | (simp; omega)); clear c1 f1) | (go_at_call 108; (with_reducible refine (HB.out _).mono ?_); rintro e w2 ⟨rfl, b2⟩; obtain ⟨c2, f2⟩ := bcell b2; have z2 := b2.size; (try simp at z2); have d2a := fun o => c2 (w.heap.size) o (by first | omega | (simp; done) | (simp; omega)); have q2a := fun o => f2 (w.heap.size) o (by first | omega | (simp; done) | (simp; omega)); have d2b := fun o => c2 (w.heap.size + 1) o (by first | omega | (simp; done) | (simp; omega)); have q2b := fun o => f2 (w.heap.size + 1) o (by first | omega | (simp; done) | (simp; omega)); clear c2 f2))
   refine bodyPost_ret (v := .tuple #[.agg #[.bool false, .int .u64 0, .int .u64 0, .int .i64 0], .bool false]) (by simp [results, Tryz.results107, go_sem, *]) rfl ⟨rfl, ?_⟩
   (repeat (first | assumption | exact Below.refl _ _ | refine Below.setCell ?_ (by first | omega | (simp; done) | (simp; omega)) _ | refine Below.alloc ?_ (by first | omega | (simp; done) | (simp; omega)) _ | refine Below.drew ?_ | (refine Below.trans ?_ (Below.mono (by assumption) (by first | omega | (simp; done) | (simp; omega))))))
  have hnd : decide (n < 0) = false := decide_eq_false hn
  by_cases hn2 : nb < n
  ·rw [if_neg (by omega)] at hm
   subst hm
   go_enter Tryz.func107, Tryz.ntmps107
   go_wp2_with (first | (go_at_call 120; (with_reducible refine (HR.out _).mono ?_); rintro e w1 ⟨rfl, b1⟩; obtain ⟨c1, f1⟩ := bcell b1; have z1 := b1.size; (try simp at z1); have d1a := fun o => c1 (w.heap.size) o (by first | omega | (simp; done) | (simp; omega)); have q1a := fun o => f1 (w.heap.size) o (by first | omega | (simp; done) | (simp; omega)); have d1b := fun o => c1 (w.heap.size + 1) o (by first | omega | (simp; done) | (simp; omega)); have q1b := fun o => f1 (w.heap.size + 1) o (by first | omega | (simp; done) | (simp; omega)); clear c1 f1) | (go_at_call 108; (with_reducible refine (HB.out _).mono ?_); rintro e w2 ⟨rfl, b2⟩; obtain ⟨c2, f2⟩ := bcell b2; have z2 := b2.size; (try simp at z2); have d2a := fun o => c2 (w.heap.size) o (by first | omega | (simp; done) | (simp; omega)); have q2a := fun o => f2 (w.heap.size) o (by first | omega | (simp; done) | (simp; omega)); have d2b := fun o => c2 (w.heap.size + 1) o (by first | omega | (simp; done) | (simp; omega)); have q2b := fun o => f2 (w.heap.size + 1) o (by first | omega | (simp; done) | (simp; omega)); clear c2 f2))
   refine bodyPost_ret (v := .tuple #[.agg #[.bool false, .int .u64 0, .int .u64 0, .int .i64 0], .bool false]) (by simp [results, Tryz.results107, go_sem, *]) rfl ⟨rfl, ?_⟩
   (repeat (first | assumption | exact Below.refl _ _ | refine Below.setCell ?_ (by first | omega | (simp; done) | (simp; omega)) _ | refine Below.alloc ?_ (by first | omega | (simp; done) | (simp; omega)) _ | refine Below.drew ?_ | (refine Below.trans ?_ (Below.mono (by assumption) (by first | omega | (simp; done) | (simp; omega))))))
  ·rw [if_pos (by exact ⟨hr, by omega, by omega⟩)] at hm
   subst hm
   generalize adMask a n = m at *
   have hn3 : n ≤ nb := by omega
   have hnd2 : decide (nb < n) = false := decide_eq_false hn2
   go_enter Tryz.func107, Tryz.ntmps107
   go_wp2_with (first | (go_at_call 120; (with_reducible refine (HR.out _).mono ?_); rintro e w1 ⟨rfl, b1⟩; obtain ⟨c1, f1⟩ := bcell b1; have z1 := b1.size; (try simp at z1); have d1a := fun o => c1 (w.heap.size) o (by first | omega | (simp; done) | (simp; omega)); have q1a := fun o => f1 (w.heap.size) o (by first | omega | (simp; done) | (simp; omega)); have d1b := fun o => c1 (w.heap.size + 1) o (by first | omega | (simp; done) | (simp; omega)); have q1b := fun o => f1 (w.heap.size + 1) o (by first | omega | (simp; done) | (simp; omega)); clear c1 f1) | (go_at_call 108; (with_reducible refine (HB.out _).mono ?_); rintro e w2 ⟨rfl, b2⟩; obtain ⟨c2, f2⟩ := bcell b2; have z2 := b2.size; (try simp at z2); have d2a := fun o => c2 (w.heap.size) o (by first | omega | (simp; done) | (simp; omega)); have q2a := fun o => f2 (w.heap.size) o (by first | omega | (simp; done) | (simp; omega)); have d2b := fun o => c2 (w.heap.size + 1) o (by first | omega | (simp; done) | (simp; omega)); have q2b := fun o => f2 (w.heap.size + 1) o (by first | omega | (simp; done) | (simp; omega)); clear c2 f2) | (go_at_call 121; (with_reducible refine (HM.out _).mono ?_); rintro e w3 ⟨rfl, b3⟩; obtain ⟨c3, f3⟩ := bcell b3; have z3 := b3.size; (try simp at z3); have d3a := fun o => c3 (w.heap.size) o (by first | omega | (simp; done) | (simp; omega)); have q3a := fun o => f3 (w.heap.size) o (by first | omega | (simp; done) | (simp; omega)); have d3b := fun o => c3 (w.heap.size + 1) o (by first | omega | (simp; done) | (simp; omega)); have q3b := fun o => f3 (w.heap.size + 1) o (by first | omega | (simp; done) | (simp; omega)); clear c3 f3))
   refine bodyPost_ret (v := .tuple #[.agg #[.bool m.v6, .int .u64 m.hi, .int .u64 m.lo, .int .i64 n], .bool true]) (by simp [results, Tryz.results107, go_sem, *]) rfl ⟨rfl, ?_⟩
   (repeat (first | assumption | exact Below.refl _ _ | refine Below.setCell ?_ (by first | omega | (simp; done) | (simp; omega)) _ | refine Below.alloc ?_ (by first | omega | (simp; done) | (simp; omega)) _ | refine Below.drew ?_ | (refine Below.trans ?_ (Below.mono (by assumption) (by first | omega | (simp; done) | (simp; omega))))))
set_option maxHeartbeats 4000000 in
theorem refAdMake_any (a : Ad) (hf : a.fits) (n : Int) (w : World) : Calls Tryz.prog 110 #[.agg #[.bool a.v6, .int .u64 a.hi, .int .u64 a.lo], .int .i64 n] w (GivesNt w (adMake a n)) := by
 have hR := fun w => refAdRight_any a hf w
 have hB := fun w => refAdBits_any a w
 have HM := zh (fun w => refAdMask_any a hf n w)
 obtain ⟨r, hm⟩ : ∃ r, adMake a n = r := ⟨_, rfl⟩
 unfold GivesNt
 rw [hm]
 unfold adMake at hm
 cases hr : adRight a with
 | false =>
  rw [hr] at hR
  rw [if_neg (by rw [hr]; simp)] at hm
  subst hm
  have HR := zh hR; clear hR hB
  go_enter Tryz.func110, Tryz.ntmps110
  go_wp2_with (go_at_call 116; (with_reducible refine (HR.out _).mono ?_); rintro e w1 ⟨rfl, b1⟩; obtain ⟨c1, f1⟩ := bcell b1; have z1 := b1.size; (try simp at z1); have d1a := fun o => c1 (w.heap.size) o (by first | omega | (simp; done) | (simp; omega)); have q1a := fun o => f1 (w.heap.size) o (by first | omega | (simp; done) | (simp; omega)); have d1b := fun o => c1 (w.heap.size + 1) o (by first | omega | (simp; done) | (simp; omega)); have q1b := fun o => f1 (w.heap.size + 1) o (by first | omega | (simp; done) | (simp; omega)); clear c1 f1)
  refine bodyPost_ret (v := .tuple #[.agg #[.bool false, .int .u64 0, .int .u64 0, .int .i64 0], .bool false]) (by simp [results, Tryz.results110, go_sem, *]) rfl ⟨rfl, ?_⟩
  (repeat (first | assumption | exact Below.refl _ _ | refine Below.setCell ?_ (by first | omega | (simp; done) | (simp; omega)) _ | refine Below.alloc ?_ (by first | omega | (simp; done) | (simp; omega)) _ | refine Below.drew ?_ | (refine Below.trans ?_ (Below.mono (by assumption) (by first | omega | (simp; done) | (simp; omega))))))
 | true =>
  rw [hr] at hR
  generalize adBits a = nb at *
  obtain ⟨HR, HB⟩ := zh2 hR hB; clear hR hB
  by_cases hn : n < 0
  ·rw [if_neg (by omega)] at hm
   subst hm
   go_enter Tryz.func110, Tryz.ntmps110
   go_wp2_with (first | (go_at_call 116; (with_reducible refine (HR.out _).mono ?_); rintro e w1 ⟨rfl, b1⟩; obtain ⟨c1, f1⟩ := bcell b1; have z1 := b1.size; (try simp at z1); have d1a := fun o => c1 (w.heap.size) o (by first | omega | (simp; done) | (simp; omega)); have q1a := fun o => f1 (w.heap.size) o (by first | omega | (simp; done) | (simp; omega)); have d1b := fun o => c1 (w.heap.size + 1) o (by first | omega | (simp; done) | (simp; omega)); have q1b := fun o => f1 (w.heap.size + 1) o (by first | omega | (simp; done) | (simp; omega)); clear c1 f1) | (go_at_call 111; (with_reducible refine (HB.out _).mono ?_); rintro e w2 ⟨rfl, b2⟩; obtain ⟨c2, f2⟩ := bcell b2; have z2 := b2.size; (try simp at z2); have d2a := fun o => c2 (w.heap.size) o (by first | omega | (simp; done) | (simp; omega)); have q2a := fun o => f2 (w.heap.size) o (by first | omega | (simp; done) | (simp; omega)); have d2b := fun o => c2 (w.heap.size + 1) o (by first | omega | (simp; done) | (simp; omega)); have q2b := fun o => f2 (w.heap.size + 1) o (by first | omega | (simp; done) | (simp; omega)); clear c2 f2))
   refine bodyPost_ret (v := .tuple #[.agg #[.bool false, .int .u64 0, .int .u64 0, .int .i64 0], .bool false]) (by simp [results, Tryz.results110, go_sem, *]) rfl ⟨rfl, ?_⟩
   (repeat (first | assumption | exact Below.refl _ _ | refine Below.setCell ?_ (by first | omega | (simp; done) | (simp; omega)) _ | refine Below.alloc ?_ (by first | omega | (simp; done) | (simp; omega)) _ | refine Below.drew ?_ | (refine Below.trans ?_ (Below.mono (by assumption) (by first | omega | (simp; done) | (simp; omega))))))
  have hnd : decide (n < 0) = false := decide_eq_false hn
  by_cases hn2 : nb < n
  ·rw [if_neg (by omega)] at hm
   subst hm
   go_enter Tryz.func110, Tryz.ntmps110
   go_wp2_with (first | (go_at_call 116; (with_reducible refine (HR.out _).mono ?_); rintro e w1 ⟨rfl, b1⟩; obtain ⟨c1, f1⟩ := bcell b1; have z1 := b1.size; (try simp at z1); have d1a := fun o => c1 (w.heap.size) o (by first | omega | (simp; done) | (simp; omega)); have q1a := fun o => f1 (w.heap.size) o (by first | omega | (simp; done) | (simp; omega)); have d1b := fun o => c1 (w.heap.size + 1) o (by first | omega | (simp; done) | (simp; omega)); have q1b := fun o => f1 (w.heap.size + 1) o (by first | omega | (simp; done) | (simp; omega)); clear c1 f1) | (go_at_call 111; (with_reducible refine (HB.out _).mono ?_); rintro e w2 ⟨rfl, b2⟩; obtain ⟨c2, f2⟩ := bcell b2; have z2 := b2.size; (try simp at z2); have d2a := fun o => c2 (w.heap.size) o (by first | omega | (simp; done) | (simp; omega)); have q2a := fun o => f2 (w.heap.size) o (by first | omega | (simp; done) | (simp; omega)); have d2b := fun o => c2 (w.heap.size + 1) o (by first | omega | (simp; done) | (simp; omega)); have q2b := fun o => f2 (w.heap.size + 1) o (by first | omega | (simp; done) | (simp; omega)); clear c2 f2))
   refine bodyPost_ret (v := .tuple #[.agg #[.bool false, .int .u64 0, .int .u64 0, .int .i64 0], .bool false]) (by simp [results, Tryz.results110, go_sem, *]) rfl ⟨rfl, ?_⟩
   (repeat (first | assumption | exact Below.refl _ _ | refine Below.setCell ?_ (by first | omega | (simp; done) | (simp; omega)) _ | refine Below.alloc ?_ (by first | omega | (simp; done) | (simp; omega)) _ | refine Below.drew ?_ | (refine Below.trans ?_ (Below.mono (by assumption) (by first | omega | (simp; done) | (simp; omega))))))
  ·rw [if_pos (by exact ⟨hr, by omega, by omega⟩)] at hm
   subst hm
   generalize adMask a n = m at *
   have hn3 : n ≤ nb := by omega
   have hnd2 : decide (nb < n) = false := decide_eq_false hn2
   go_enter Tryz.func110, Tryz.ntmps110
   go_wp2_with (first | (go_at_call 116; (with_reducible refine (HR.out _).mono ?_); rintro e w1 ⟨rfl, b1⟩; obtain ⟨c1, f1⟩ := bcell b1; have z1 := b1.size; (try simp at z1); have d1a := fun o => c1 (w.heap.size) o (by first | omega | (simp; done) | (simp; omega)); have q1a := fun o => f1 (w.heap.size) o (by first | omega | (simp; done) | (simp; omega)); have d1b := fun o => c1 (w.heap.size + 1) o (by first | omega | (simp; done) | (simp; omega)); have q1b := fun o => f1 (w.heap.size + 1) o (by first | omega | (simp; done) | (simp; omega)); clear c1 f1) | (go_at_call 111; (with_reducible refine (HB.out _).mono ?_); rintro e w2 ⟨rfl, b2⟩; obtain ⟨c2, f2⟩ := bcell b2; have z2 := b2.size; (try simp at z2); have d2a := fun o => c2 (w.heap.size) o (by first | omega | (simp; done) | (simp; omega)); have q2a := fun o => f2 (w.heap.size) o (by first | omega | (simp; done) | (simp; omega)); have d2b := fun o => c2 (w.heap.size + 1) o (by first | omega | (simp; done) | (simp; omega)); have q2b := fun o => f2 (w.heap.size + 1) o (by first | omega | (simp; done) | (simp; omega)); clear c2 f2) | (go_at_call 123; (with_reducible refine (HM.out _).mono ?_); rintro e w3 ⟨rfl, b3⟩; obtain ⟨c3, f3⟩ := bcell b3; have z3 := b3.size; (try simp at z3); have d3a := fun o => c3 (w.heap.size) o (by first | omega | (simp; done) | (simp; omega)); have q3a := fun o => f3 (w.heap.size) o (by first | omega | (simp; done) | (simp; omega)); have d3b := fun o => c3 (w.heap.size + 1) o (by first | omega | (simp; done) | (simp; omega)); have q3b := fun o => f3 (w.heap.size + 1) o (by first | omega | (simp; done) | (simp; omega)); clear c3 f3))
   refine bodyPost_ret (v := .tuple #[.agg #[.bool m.v6, .int .u64 m.hi, .int .u64 m.lo, .int .i64 n], .bool true]) (by simp [results, Tryz.results110, go_sem, *]) rfl ⟨rfl, ?_⟩
   (repeat (first | assumption | exact Below.refl _ _ | refine Below.setCell ?_ (by first | omega | (simp; done) | (simp; omega)) _ | refine Below.alloc ?_ (by first | omega | (simp; done) | (simp; omega)) _ | refine Below.drew ?_ | (refine Below.trans ?_ (Below.mono (by assumption) (by first | omega | (simp; done) | (simp; omega))))))
set_option maxHeartbeats 4000000 in
theorem ntFull_any (a : Ad) (hf : a.fits) (w : World) : Calls Tryz.prog 89 #[.agg #[.bool a.v6, .int .u64 a.hi, .int .u64 a.lo]] w fun e w' => e = .returned (.agg #[.bool (ntFull a).ad.v6, .int .u64 (ntFull a).ad.hi, .int .u64 (ntFull a).ad.lo, .int .i64 (ntFull a).bits]) ∧ Below w.heap.size w w' := by
 have HB := zh (fun w => adBits_any a w)
 have hM := fun w => adMake_any a hf (adBits a) w
 unfold GivesNt at hM
 unfold ntFull
 generalize adMake a (adBits a) = r at *
 generalize adBits a = nb at *
 have HM := zh hM; clear hM
 obtain ⟨⟨m, k⟩, ok⟩ := r
 go_enter Tryz.func89, Tryz.ntmps89
 go_wp2_with fail
 go_region_held3 (fun w' => w'.cell? ⟨w.heap.size, 0, none⟩ = some (.bool a.v6) ∧ w'.cell? ⟨w.heap.size, 1, none⟩ = some (.int .u64 a.hi) ∧ w'.cell? ⟨w.heap.size, 2, none⟩ = some (.int .u64 a.lo)) (first | go_keep | (simp (disch := omega) [*]; done) | (simp (disch := first | omega | (simp; omega)) [World.cell?_setCell_far, World.cell?_alloc_past, *]; done) | (simp (disch := first | omega | (simp; omega)) [World.cell?_setCell_far, World.cell?_alloc_past, *]; repeat (first | exact rfl | refine ⟨rfl, ?_⟩))) (first | ((go_at_call 108; (with_reducible refine (HB.out _).mono ?_); rintro e w2 ⟨rfl, b2⟩; obtain ⟨c2, f2⟩ := bcell b2; have z2 := b2.size; (try simp at z2); have d2a := fun o => c2 (w.heap.size) o (by first | omega | (simp; done) | (simp; omega)); have q2a := fun o => f2 (w.heap.size) o (by first | omega | (simp; done) | (simp; omega)); have d2b := fun o => c2 (w.heap.size + 1) o (by first | omega | (simp; done) | (simp; omega)); have q2b := fun o => f2 (w.heap.size + 1) o (by first | omega | (simp; done) | (simp; omega)); (try have d2c := fun o => c2 (w.heap.size + 2) o (by first | omega | (simp; done) | (simp; omega))); (try have q2c := fun o => f2 (w.heap.size + 2) o (by first | omega | (simp; done) | (simp; omega))); clear c2 f2); have y2 : w.heap.size < w2.heap.size := (by omega); have x2 : w.heap.size + 1 < w2.heap.size := (by omega); have n2 := Nat.ne_of_lt y2; have m2 := Nat.ne_of_lt x2) | ((go_at_call 107; (with_reducible refine (HM.out _).mono ?_); rintro e w3 ⟨rfl, b3⟩; obtain ⟨c3, f3⟩ := bcell b3; have z3 := b3.size; (try simp at z3); have d3a := fun o => c3 (w.heap.size) o (by first | omega | (simp; done) | (simp; omega)); have q3a := fun o => f3 (w.heap.size) o (by first | omega | (simp; done) | (simp; omega)); have d3b := fun o => c3 (w.heap.size + 1) o (by first | omega | (simp; done) | (simp; omega)); have q3b := fun o => f3 (w.heap.size + 1) o (by first | omega | (simp; done) | (simp; omega)); (try have d3c := fun o => c3 (w.heap.size + 2) o (by first | omega | (simp; done) | (simp; omega))); (try have q3c := fun o => f3 (w.heap.size + 2) o (by first | omega | (simp; done) | (simp; omega))); (try have d3d := fun o => c3 (w2.heap.size) o (by first | omega | (simp; done) | (simp; omega))); (try have q3d := fun o => f3 (w2.heap.size) o (by first | omega | (simp; done) | (simp; omega))); clear c3 f3); have y3 : w.heap.size < w3.heap.size := (by omega); have x3 : w.heap.size + 1 < w3.heap.size := (by omega); have n3 := Nat.ne_of_lt y3; have m3 := Nat.ne_of_lt x3))
 ·go_upto_region 2 with fail
  go_name_world WWx hWWx
  have hG : BlockIs WWx (w3.heap.size) [.bool m.v6, .int .u64 m.hi, .int .u64 m.lo, .int .i64 k] 82 := by subst hWWx; exact BlockIs.new w3 [.bool m.v6, .int .u64 m.hi, .int .u64 m.lo, .int .i64 k] 82
  have hR : BlockIs WWx (w.heap.size + 1) [.bool false, .int .u64 0, .int .u64 0, .int .i64 0] 82 := by subst hWWx; exact BlockIs.alloc (by exact BlockIs.below (by exact BlockIs.below (by exact BlockIs.newAt (w.alloc (.cells #[.bool a.v6, .int .u64 a.hi, .int .u64 a.lo] 46)) [.bool false, .int .u64 0, .int .u64 0, .int .i64 0] 82 (n := w.heap.size + 1) (by simp)) b2) b3) (.cells #[.bool m.v6, .int .u64 m.hi, .int .u64 m.lo, .int .i64 k] 82)
  have bwx : Below w.heap.size w WWx := by subst hWWx; (repeat (first | assumption | exact Below.refl _ _ | refine Below.setCell ?_ (by first | omega | (simp; done) | (simp; omega)) _ | refine Below.alloc ?_ (by first | omega | (simp; done) | (simp; omega)) _ | refine Below.drew ?_ | (refine Below.trans ?_ (Below.mono (by assumption) (by first | omega | (simp; done) | (simp; omega))))))
  clear hWWx d2a d2b d3a d3b q2a q2b q3a q3b b2 b3
  obtain ⟨k0, k1, k2, k3⟩ := hG.e4
  obtain ⟨r0, r1, r2, r3⟩ := hR.e4
  have rf := hR.frozen
  clear hG hR
  go_wp2_with fail
  refine bodyPost_ret (v := .agg #[.bool m.v6, .int .u64 m.hi, .int .u64 m.lo, .int .i64 k]) (by simp [results, Tryz.results89, go_sem, *]) rfl ⟨rfl, ?_⟩
  (repeat (first | assumption | exact Below.refl _ _ | refine Below.setCell ?_ (by first | omega | (simp; done) | (simp; omega)) _ | refine Below.alloc ?_ (by first | omega | (simp; done) | (simp; omega)) _ | refine Below.drew ?_ | (refine Below.trans ?_ (Below.mono (by assumption) (by first | omega | (simp; done) | (simp; omega))))))
 ·go_upto_region 2 with fail
  go_name_world WWx hWWx
  have hG : BlockIs WWx (w2.heap.size) [.bool m.v6, .int .u64 m.hi, .int .u64 m.lo, .int .i64 k] 82 := by subst hWWx; exact BlockIs.set (BlockIs.set (BlockIs.set (BlockIs.set (BlockIs.below (by exact BlockIs.new w2 [.bool false, .int .u64 0, .int .u64 0, .int .i64 0] 82) b3) 0 (.bool m.v6)) 1 (.int .u64 m.hi)) 2 (.int .u64 m.lo)) 3 (.int .i64 k)
  have hR : BlockIs WWx (w.heap.size + 1) [.bool false, .int .u64 0, .int .u64 0, .int .i64 0] 82 := by subst hWWx; exact BlockIs.other (BlockIs.other (BlockIs.other (BlockIs.other (BlockIs.below (by exact BlockIs.alloc (by exact BlockIs.below (by exact BlockIs.newAt (w.alloc (.cells #[.bool a.v6, .int .u64 a.hi, .int .u64 a.lo] 46)) [.bool false, .int .u64 0, .int .u64 0, .int .i64 0] 82 (n := w.heap.size + 1) (by simp)) b2) (.cells #[.bool false, .int .u64 0, .int .u64 0, .int .i64 0] 82)) b3) (p := ⟨w2.heap.size, 0, none⟩) (by simp only; omega) (.bool m.v6)) (p := ⟨w2.heap.size, 1, none⟩) (by simp only; omega) (.int .u64 m.hi)) (p := ⟨w2.heap.size, 2, none⟩) (by simp only; omega) (.int .u64 m.lo)) (p := ⟨w2.heap.size, 3, none⟩) (by simp only; omega) (.int .i64 k)
  have bwx : Below w.heap.size w WWx := by subst hWWx; (repeat (first | assumption | exact Below.refl _ _ | refine Below.setCell ?_ (by first | omega | (simp; done) | (simp; omega)) _ | refine Below.alloc ?_ (by first | omega | (simp; done) | (simp; omega)) _ | refine Below.drew ?_ | (refine Below.trans ?_ (Below.mono (by assumption) (by first | omega | (simp; done) | (simp; omega))))))
  clear hWWx d2a d2b d3a d3b q2a q2b q3a q3b b2 b3
  obtain ⟨k0, k1, k2, k3⟩ := hG.e4
  obtain ⟨r0, r1, r2, r3⟩ := hR.e4
  have rf := hR.frozen
  clear hG hR
  go_wp2_with fail
  refine bodyPost_ret (v := .agg #[.bool m.v6, .int .u64 m.hi, .int .u64 m.lo, .int .i64 k]) (by simp [results, Tryz.results89, go_sem, *]) rfl ⟨rfl, ?_⟩
  (repeat (first | assumption | exact Below.refl _ _ | refine Below.setCell ?_ (by first | omega | (simp; done) | (simp; omega)) _ | refine Below.alloc ?_ (by first | omega | (simp; done) | (simp; omega)) _ | refine Below.drew ?_ | (refine Below.trans ?_ (Below.mono (by assumption) (by first | omega | (simp; done) | (simp; omega))))))
 ·go_upto_region 2 with fail
  go_name_world WWx hWWx
  have hG : BlockIs WWx (w.heap.size + 1 + 1) [.bool m.v6, .int .u64 m.hi, .int .u64 m.lo, .int .i64 k] 82 := by subst hWWx; exact BlockIs.set (BlockIs.set (BlockIs.set (BlockIs.set (BlockIs.below (by exact BlockIs.below (by exact BlockIs.newAt ((w.alloc (.cells #[.bool a.v6, .int .u64 a.hi, .int .u64 a.lo] 46)).alloc (.cells #[.bool false, .int .u64 0, .int .u64 0, .int .i64 0] 82)) [.bool false, .int .u64 0, .int .u64 0, .int .i64 0] 82 (n := w.heap.size + 1 + 1) (by simp)) b2) b3) 0 (.bool m.v6)) 1 (.int .u64 m.hi)) 2 (.int .u64 m.lo)) 3 (.int .i64 k)
  have hR : BlockIs WWx (w.heap.size + 1) [.bool false, .int .u64 0, .int .u64 0, .int .i64 0] 82 := by subst hWWx; exact BlockIs.other (BlockIs.other (BlockIs.other (BlockIs.other (BlockIs.below (by exact BlockIs.below (by exact BlockIs.alloc (by exact BlockIs.newAt (w.alloc (.cells #[.bool a.v6, .int .u64 a.hi, .int .u64 a.lo] 46)) [.bool false, .int .u64 0, .int .u64 0, .int .i64 0] 82 (n := w.heap.size + 1) (by simp)) (.cells #[.bool false, .int .u64 0, .int .u64 0, .int .i64 0] 82)) b2) b3) (p := ⟨w.heap.size + 1 + 1, 0, none⟩) (by simp only; omega) (.bool m.v6)) (p := ⟨w.heap.size + 1 + 1, 1, none⟩) (by simp only; omega) (.int .u64 m.hi)) (p := ⟨w.heap.size + 1 + 1, 2, none⟩) (by simp only; omega) (.int .u64 m.lo)) (p := ⟨w.heap.size + 1 + 1, 3, none⟩) (by simp only; omega) (.int .i64 k)
  have bwx : Below w.heap.size w WWx := by subst hWWx; (repeat (first | assumption | exact Below.refl _ _ | refine Below.setCell ?_ (by first | omega | (simp; done) | (simp; omega)) _ | refine Below.alloc ?_ (by first | omega | (simp; done) | (simp; omega)) _ | refine Below.drew ?_ | (refine Below.trans ?_ (Below.mono (by assumption) (by first | omega | (simp; done) | (simp; omega))))))
  clear hWWx d2a d2b d3a d3b q2a q2b q3a q3b b2 b3
  obtain ⟨k0, k1, k2, k3⟩ := hG.e4
  obtain ⟨r0, r1, r2, r3⟩ := hR.e4
  have rf := hR.frozen
  clear hG hR
  go_wp2_with fail
  refine bodyPost_ret (v := .agg #[.bool m.v6, .int .u64 m.hi, .int .u64 m.lo, .int .i64 k]) (by simp [results, Tryz.results89, go_sem, *]) rfl ⟨rfl, ?_⟩
  (repeat (first | assumption | exact Below.refl _ _ | refine Below.setCell ?_ (by first | omega | (simp; done) | (simp; omega)) _ | refine Below.alloc ?_ (by first | omega | (simp; done) | (simp; omega)) _ | refine Below.drew ?_ | (refine Below.trans ?_ (Below.mono (by assumption) (by first | omega | (simp; done) | (simp; omega))))))
set_option maxHeartbeats 4000000 in
theorem refNtFull_any (a : Ad) (hf : a.fits) (w : World) : Calls Tryz.prog 92 #[.agg #[.bool a.v6, .int .u64 a.hi, .int .u64 a.lo]] w fun e w' => e = .returned (.agg #[.bool (ntFull a).ad.v6, .int .u64 (ntFull a).ad.hi, .int .u64 (ntFull a).ad.lo, .int .i64 (ntFull a).bits]) ∧ Below w.heap.size w w' := by
 have HB := zh (fun w => refAdBits_any a w)
 have hM := fun w => refAdMake_any a hf (adBits a) w
 unfold GivesNt at hM
 unfold ntFull
 generalize adMake a (adBits a) = r at *
 generalize adBits a = nb at *
 have HM := zh hM; clear hM
 obtain ⟨⟨m, k⟩, ok⟩ := r
 go_enter Tryz.func92, Tryz.ntmps92
 go_wp2_with fail
 go_region_held3 (fun w' => w'.cell? ⟨w.heap.size, 0, none⟩ = some (.bool a.v6) ∧ w'.cell? ⟨w.heap.size, 1, none⟩ = some (.int .u64 a.hi) ∧ w'.cell? ⟨w.heap.size, 2, none⟩ = some (.int .u64 a.lo)) (first | go_keep | (simp (disch := omega) [*]; done) | (simp (disch := first | omega | (simp; omega)) [World.cell?_setCell_far, World.cell?_alloc_past, *]; done) | (simp (disch := first | omega | (simp; omega)) [World.cell?_setCell_far, World.cell?_alloc_past, *]; repeat (first | exact rfl | refine ⟨rfl, ?_⟩))) (first | ((go_at_call 111; (with_reducible refine (HB.out _).mono ?_); rintro e w2 ⟨rfl, b2⟩; obtain ⟨c2, f2⟩ := bcell b2; have z2 := b2.size; (try simp at z2); have d2a := fun o => c2 (w.heap.size) o (by first | omega | (simp; done) | (simp; omega)); have q2a := fun o => f2 (w.heap.size) o (by first | omega | (simp; done) | (simp; omega)); have d2b := fun o => c2 (w.heap.size + 1) o (by first | omega | (simp; done) | (simp; omega)); have q2b := fun o => f2 (w.heap.size + 1) o (by first | omega | (simp; done) | (simp; omega)); (try have d2c := fun o => c2 (w.heap.size + 2) o (by first | omega | (simp; done) | (simp; omega))); (try have q2c := fun o => f2 (w.heap.size + 2) o (by first | omega | (simp; done) | (simp; omega))); clear c2 f2); have y2 : w.heap.size < w2.heap.size := (by omega); have x2 : w.heap.size + 1 < w2.heap.size := (by omega); have n2 := Nat.ne_of_lt y2; have m2 := Nat.ne_of_lt x2) | ((go_at_call 110; (with_reducible refine (HM.out _).mono ?_); rintro e w3 ⟨rfl, b3⟩; obtain ⟨c3, f3⟩ := bcell b3; have z3 := b3.size; (try simp at z3); have d3a := fun o => c3 (w.heap.size) o (by first | omega | (simp; done) | (simp; omega)); have q3a := fun o => f3 (w.heap.size) o (by first | omega | (simp; done) | (simp; omega)); have d3b := fun o => c3 (w.heap.size + 1) o (by first | omega | (simp; done) | (simp; omega)); have q3b := fun o => f3 (w.heap.size + 1) o (by first | omega | (simp; done) | (simp; omega)); (try have d3c := fun o => c3 (w.heap.size + 2) o (by first | omega | (simp; done) | (simp; omega))); (try have q3c := fun o => f3 (w.heap.size + 2) o (by first | omega | (simp; done) | (simp; omega))); (try have d3d := fun o => c3 (w2.heap.size) o (by first | omega | (simp; done) | (simp; omega))); (try have q3d := fun o => f3 (w2.heap.size) o (by first | omega | (simp; done) | (simp; omega))); clear c3 f3); have y3 : w.heap.size < w3.heap.size := (by omega); have x3 : w.heap.size + 1 < w3.heap.size := (by omega); have n3 := Nat.ne_of_lt y3; have m3 := Nat.ne_of_lt x3))
 ·go_upto_region 2 with fail
  go_name_world WWx hWWx
  have hG : BlockIs WWx (w3.heap.size) [.bool m.v6, .int .u64 m.hi, .int .u64 m.lo, .int .i64 k] 82 := by subst hWWx; exact BlockIs.new w3 [.bool m.v6, .int .u64 m.hi, .int .u64 m.lo, .int .i64 k] 82
  have hR : BlockIs WWx (w.heap.size + 1) [.bool false, .int .u64 0, .int .u64 0, .int .i64 0] 82 := by subst hWWx; exact BlockIs.alloc (by exact BlockIs.below (by exact BlockIs.below (by exact BlockIs.newAt (w.alloc (.cells #[.bool a.v6, .int .u64 a.hi, .int .u64 a.lo] 46)) [.bool false, .int .u64 0, .int .u64 0, .int .i64 0] 82 (n := w.heap.size + 1) (by simp)) b2) b3) (.cells #[.bool m.v6, .int .u64 m.hi, .int .u64 m.lo, .int .i64 k] 82)
  have bwx : Below w.heap.size w WWx := by subst hWWx; (repeat (first | assumption | exact Below.refl _ _ | refine Below.setCell ?_ (by first | omega | (simp; done) | (simp; omega)) _ | refine Below.alloc ?_ (by first | omega | (simp; done) | (simp; omega)) _ | refine Below.drew ?_ | (refine Below.trans ?_ (Below.mono (by assumption) (by first | omega | (simp; done) | (simp; omega))))))
  clear hWWx d2a d2b d3a d3b q2a q2b q3a q3b b2 b3
  obtain ⟨k0, k1, k2, k3⟩ := hG.e4
  obtain ⟨r0, r1, r2, r3⟩ := hR.e4
  have rf := hR.frozen
  clear hG hR
  go_wp2_with fail
  refine bodyPost_ret (v := .agg #[.bool m.v6, .int .u64 m.hi, .int .u64 m.lo, .int .i64 k]) (by simp [results, Tryz.results92, go_sem, *]) rfl ⟨rfl, ?_⟩
  (repeat (first | assumption | exact Below.refl _ _ | refine Below.setCell ?_ (by first | omega | (simp; done) | (simp; omega)) _ | refine Below.alloc ?_ (by first | omega | (simp; done) | (simp; omega)) _ | refine Below.drew ?_ | (refine Below.trans ?_ (Below.mono (by assumption) (by first | omega | (simp; done) | (simp; omega))))))
 ·go_upto_region 2 with fail
  go_name_world WWx hWWx
  have hG : BlockIs WWx (w2.heap.size) [.bool m.v6, .int .u64 m.hi, .int .u64 m.lo, .int .i64 k] 82 := by subst hWWx; exact BlockIs.set (BlockIs.set (BlockIs.set (BlockIs.set (BlockIs.below (by exact BlockIs.new w2 [.bool false, .int .u64 0, .int .u64 0, .int .i64 0] 82) b3) 0 (.bool m.v6)) 1 (.int .u64 m.hi)) 2 (.int .u64 m.lo)) 3 (.int .i64 k)
  have hR : BlockIs WWx (w.heap.size + 1) [.bool false, .int .u64 0, .int .u64 0, .int .i64 0] 82 := by subst hWWx; exact BlockIs.other (BlockIs.other (BlockIs.other (BlockIs.other (BlockIs.below (by exact BlockIs.alloc (by exact BlockIs.below (by exact BlockIs.newAt (w.alloc (.cells #[.bool a.v6, .int .u64 a.hi, .int .u64 a.lo] 46)) [.bool false, .int .u64 0, .int .u64 0, .int .i64 0] 82 (n := w.heap.size + 1) (by simp)) b2) (.cells #[.bool false, .int .u64 0, .int .u64 0, .int .i64 0] 82)) b3) (p := ⟨w2.heap.size, 0, none⟩) (by simp only; omega) (.bool m.v6)) (p := ⟨w2.heap.size, 1, none⟩) (by simp only; omega) (.int .u64 m.hi)) (p := ⟨w2.heap.size, 2, none⟩) (by simp only; omega) (.int .u64 m.lo)) (p := ⟨w2.heap.size, 3, none⟩) (by simp only; omega) (.int .i64 k)
  have bwx : Below w.heap.size w WWx := by subst hWWx; (repeat (first | assumption | exact Below.refl _ _ | refine Below.setCell ?_ (by first | omega | (simp; done) | (simp; omega)) _ | refine Below.alloc ?_ (by first | omega | (simp; done) | (simp; omega)) _ | refine Below.drew ?_ | (refine Below.trans ?_ (Below.mono (by assumption) (by first | omega | (simp; done) | (simp; omega))))))
  clear hWWx d2a d2b d3a d3b q2a q2b q3a q3b b2 b3
  obtain ⟨k0, k1, k2, k3⟩ := hG.e4
  obtain ⟨r0, r1, r2, r3⟩ := hR.e4
  have rf := hR.frozen
  clear hG hR
  go_wp2_with fail
  refine bodyPost_ret (v := .agg #[.bool m.v6, .int .u64 m.hi, .int .u64 m.lo, .int .i64 k]) (by simp [results, Tryz.results92, go_sem, *]) rfl ⟨rfl, ?_⟩
  (repeat (first | assumption | exact Below.refl _ _ | refine Below.setCell ?_ (by first | omega | (simp; done) | (simp; omega)) _ | refine Below.alloc ?_ (by first | omega | (simp; done) | (simp; omega)) _ | refine Below.drew ?_ | (refine Below.trans ?_ (Below.mono (by assumption) (by first | omega | (simp; done) | (simp; omega))))))
 ·go_upto_region 2 with fail
  go_name_world WWx hWWx
  have hG : BlockIs WWx (w.heap.size + 1 + 1) [.bool m.v6, .int .u64 m.hi, .int .u64 m.lo, .int .i64 k] 82 := by subst hWWx; exact BlockIs.set (BlockIs.set (BlockIs.set (BlockIs.set (BlockIs.below (by exact BlockIs.below (by exact BlockIs.newAt ((w.alloc (.cells #[.bool a.v6, .int .u64 a.hi, .int .u64 a.lo] 46)).alloc (.cells #[.bool false, .int .u64 0, .int .u64 0, .int .i64 0] 82)) [.bool false, .int .u64 0, .int .u64 0, .int .i64 0] 82 (n := w.heap.size + 1 + 1) (by simp)) b2) b3) 0 (.bool m.v6)) 1 (.int .u64 m.hi)) 2 (.int .u64 m.lo)) 3 (.int .i64 k)
  have hR : BlockIs WWx (w.heap.size + 1) [.bool false, .int .u64 0, .int .u64 0, .int .i64 0] 82 := by subst hWWx; exact BlockIs.other (BlockIs.other (BlockIs.other (BlockIs.other (BlockIs.below (by exact BlockIs.below (by exact BlockIs.alloc (by exact BlockIs.newAt (w.alloc (.cells #[.bool a.v6, .int .u64 a.hi, .int .u64 a.lo] 46)) [.bool false, .int .u64 0, .int .u64 0, .int .i64 0] 82 (n := w.heap.size + 1) (by simp)) (.cells #[.bool false, .int .u64 0, .int .u64 0, .int .i64 0] 82)) b2) b3) (p := ⟨w.heap.size + 1 + 1, 0, none⟩) (by simp only; omega) (.bool m.v6)) (p := ⟨w.heap.size + 1 + 1, 1, none⟩) (by simp only; omega) (.int .u64 m.hi)) (p := ⟨w.heap.size + 1 + 1, 2, none⟩) (by simp only; omega) (.int .u64 m.lo)) (p := ⟨w.heap.size + 1 + 1, 3, none⟩) (by simp only; omega) (.int .i64 k)
  have bwx : Below w.heap.size w WWx := by subst hWWx; (repeat (first | assumption | exact Below.refl _ _ | refine Below.setCell ?_ (by first | omega | (simp; done) | (simp; omega)) _ | refine Below.alloc ?_ (by first | omega | (simp; done) | (simp; omega)) _ | refine Below.drew ?_ | (refine Below.trans ?_ (Below.mono (by assumption) (by first | omega | (simp; done) | (simp; omega))))))
  clear hWWx d2a d2b d3a d3b q2a q2b q3a q3b b2 b3
  obtain ⟨k0, k1, k2, k3⟩ := hG.e4
  obtain ⟨r0, r1, r2, r3⟩ := hR.e4
  have rf := hR.frozen
  clear hG hR
  go_wp2_with fail
  refine bodyPost_ret (v := .agg #[.bool m.v6, .int .u64 m.hi, .int .u64 m.lo, .int .i64 k]) (by simp [results, Tryz.results92, go_sem, *]) rfl ⟨rfl, ?_⟩
  (repeat (first | assumption | exact Below.refl _ _ | refine Below.setCell ?_ (by first | omega | (simp; done) | (simp; omega)) _ | refine Below.alloc ?_ (by first | omega | (simp; done) | (simp; omega)) _ | refine Below.drew ?_ | (refine Below.trans ?_ (Below.mono (by assumption) (by first | omega | (simp; done) | (simp; omega))))))
def grBits (a : Ad) : Int := if a.v6 = true then 32 else 16
def grOf (a : Ad) : Nt := (adMake a (grBits a)).1
end Go.Proofs.YtnplgagaoeckoaaGreat
