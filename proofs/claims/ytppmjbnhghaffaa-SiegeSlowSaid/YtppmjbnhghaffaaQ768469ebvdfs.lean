/- Texts put together: NetE, NetF, NetG, Grp. No condition. -/
import Derived.Test.YtppmjbnhghaffaaQ05cacesrgptd
import Derived.BigGuardPart
import Derived.BigQuiet
import Derived.Deep.RegionHeld3
import Derived.Lib.ItoaWalk
import Derived.Deep.DeepCutAuto
/- The contracts of subnets: made, full, right. -/
namespace Go.Proofs.Ytppmjbnhghaffaa
open Go.RowKit
set_option linter.unusedSimpArgs false
set_option linter.unusedVariables false

/-- what is given back with a subnet -/
def GivesNt (w : World) (r : Nt × Bool) (e : Ending) (w' : World) : Prop := e = .returned (.tuple #[.agg #[.bool r.1.ad.v6, .int .u64 r.1.ad.hi, .int .u64 r.1.ad.lo, .int .i64 r.1.bits], .bool r.2]) ∧ Below w.heap.size w w'

theorem BlockIs.newAt (w : World) (arr : List Value) (T : TypeId) {n : Nat} (h : n = w.heap.size) : BlockIs (w.alloc (.cells arr.toArray T)) n arr T := h ▸ BlockIs.new w arr T
theorem BlockIs.alloc {w : World} {B : Nat} {arr : List Value} {T : TypeId} (h : BlockIs w B arr T) (o : Obj) : BlockIs (w.alloc o) B arr T := h.below ((Below.refl _ _).alloc (Nat.le_refl _) _)
set_option maxRecDepth 100000 in
set_option maxHeartbeats 4000000 in
theorem adMake_any (a : Ad) (hf : a.fits) (n : Int) (w : World) : Calls Try.prog 134 #[.agg #[.bool a.v6, .int .u64 a.hi, .int .u64 a.lo], .int .i64 n] w (GivesNt w (adMake a n)) := by
  have hR := fun w => adRight_any a hf w
  have hB := fun w => adBits_any a w
  have HM := Lib.hid (fun w => adMask_any a hf n w)
  obtain ⟨r, hm⟩ : ∃ r, adMake a n = r := ⟨_, rfl⟩
  unfold GivesNt
  rw [hm]
  unfold adMake at hm
  cases hr : adRight a with
  | false =>
    rw [hr] at hR
    rw [if_neg (by rw [hr]; simp)] at hm
    subst hm
    have HR := Lib.hid hR; clear hR hB
    go_enter Try.func134, Try.ntmps134
    go_wp2_with (go_at_call 147; (with_reducible refine (HR.out _).mono ?_); rintro e w1 ⟨rfl, b1⟩; obtain ⟨c1, f1⟩ := bcell b1; have z1 := b1.size; (try simp at z1); have d1a := fun o => c1 (w.heap.size) o (by first | omega | (simp; done) | (simp; omega)); have q1a := fun o => f1 (w.heap.size) o (by first | omega | (simp; done) | (simp; omega)); have d1b := fun o => c1 (w.heap.size + 1) o (by first | omega | (simp; done) | (simp; omega)); have q1b := fun o => f1 (w.heap.size + 1) o (by first | omega | (simp; done) | (simp; omega)); clear c1 f1)
    refine bodyPost_ret (v := .tuple #[.agg #[.bool false, .int .u64 0, .int .u64 0, .int .i64 0], .bool false]) (by simp [results, Try.results134, go_sem, *]) rfl ⟨rfl, ?_⟩
    (repeat (first | assumption | exact Below.refl _ _ | refine Below.setCell ?_ (by first | omega | (simp; done) | (simp; omega)) _ | refine Below.alloc ?_ (by first | omega | (simp; done) | (simp; omega)) _ | refine Below.drew ?_ | (refine Below.trans ?_ (Below.mono (by assumption) (by first | omega | (simp; done) | (simp; omega))))))
  | true =>
    rw [hr] at hR
    generalize adBits a = nb at *
    have HR := Lib.hid hR; have HB := Lib.hid hB; clear hR hB
    by_cases hn : n < 0
    · rw [if_neg (by omega)] at hm
      subst hm
      go_enter Try.func134, Try.ntmps134
      go_wp2_with (first | (go_at_call 147; (with_reducible refine (HR.out _).mono ?_); rintro e w1 ⟨rfl, b1⟩; obtain ⟨c1, f1⟩ := bcell b1; have z1 := b1.size; (try simp at z1); have d1a := fun o => c1 (w.heap.size) o (by first | omega | (simp; done) | (simp; omega)); have q1a := fun o => f1 (w.heap.size) o (by first | omega | (simp; done) | (simp; omega)); have d1b := fun o => c1 (w.heap.size + 1) o (by first | omega | (simp; done) | (simp; omega)); have q1b := fun o => f1 (w.heap.size + 1) o (by first | omega | (simp; done) | (simp; omega)); clear c1 f1) | (go_at_call 135; (with_reducible refine (HB.out _).mono ?_); rintro e w2 ⟨rfl, b2⟩; obtain ⟨c2, f2⟩ := bcell b2; have z2 := b2.size; (try simp at z2); have d2a := fun o => c2 (w.heap.size) o (by first | omega | (simp; done) | (simp; omega)); have q2a := fun o => f2 (w.heap.size) o (by first | omega | (simp; done) | (simp; omega)); have d2b := fun o => c2 (w.heap.size + 1) o (by first | omega | (simp; done) | (simp; omega)); have q2b := fun o => f2 (w.heap.size + 1) o (by first | omega | (simp; done) | (simp; omega)); clear c2 f2))
      refine bodyPost_ret (v := .tuple #[.agg #[.bool false, .int .u64 0, .int .u64 0, .int .i64 0], .bool false]) (by simp [results, Try.results134, go_sem, *]) rfl ⟨rfl, ?_⟩
      (repeat (first | assumption | exact Below.refl _ _ | refine Below.setCell ?_ (by first | omega | (simp; done) | (simp; omega)) _ | refine Below.alloc ?_ (by first | omega | (simp; done) | (simp; omega)) _ | refine Below.drew ?_ | (refine Below.trans ?_ (Below.mono (by assumption) (by first | omega | (simp; done) | (simp; omega))))))
    have hnd : decide (n < 0) = false := decide_eq_false hn
    by_cases hn2 : nb < n
    · rw [if_neg (by omega)] at hm
      subst hm
      go_enter Try.func134, Try.ntmps134
      go_wp2_with (first | (go_at_call 147; (with_reducible refine (HR.out _).mono ?_); rintro e w1 ⟨rfl, b1⟩; obtain ⟨c1, f1⟩ := bcell b1; have z1 := b1.size; (try simp at z1); have d1a := fun o => c1 (w.heap.size) o (by first | omega | (simp; done) | (simp; omega)); have q1a := fun o => f1 (w.heap.size) o (by first | omega | (simp; done) | (simp; omega)); have d1b := fun o => c1 (w.heap.size + 1) o (by first | omega | (simp; done) | (simp; omega)); have q1b := fun o => f1 (w.heap.size + 1) o (by first | omega | (simp; done) | (simp; omega)); clear c1 f1) | (go_at_call 135; (with_reducible refine (HB.out _).mono ?_); rintro e w2 ⟨rfl, b2⟩; obtain ⟨c2, f2⟩ := bcell b2; have z2 := b2.size; (try simp at z2); have d2a := fun o => c2 (w.heap.size) o (by first | omega | (simp; done) | (simp; omega)); have q2a := fun o => f2 (w.heap.size) o (by first | omega | (simp; done) | (simp; omega)); have d2b := fun o => c2 (w.heap.size + 1) o (by first | omega | (simp; done) | (simp; omega)); have q2b := fun o => f2 (w.heap.size + 1) o (by first | omega | (simp; done) | (simp; omega)); clear c2 f2))
      refine bodyPost_ret (v := .tuple #[.agg #[.bool false, .int .u64 0, .int .u64 0, .int .i64 0], .bool false]) (by simp [results, Try.results134, go_sem, *]) rfl ⟨rfl, ?_⟩
      (repeat (first | assumption | exact Below.refl _ _ | refine Below.setCell ?_ (by first | omega | (simp; done) | (simp; omega)) _ | refine Below.alloc ?_ (by first | omega | (simp; done) | (simp; omega)) _ | refine Below.drew ?_ | (refine Below.trans ?_ (Below.mono (by assumption) (by first | omega | (simp; done) | (simp; omega))))))
    · rw [if_pos (by exact ⟨hr, by omega, by omega⟩)] at hm
      subst hm
      generalize adMask a n = m at *
      have hn3 : n ≤ nb := by omega
      have hnd2 : decide (nb < n) = false := decide_eq_false hn2
      go_enter Try.func134, Try.ntmps134
      go_wp2_with (first | (go_at_call 147; (with_reducible refine (HR.out _).mono ?_); rintro e w1 ⟨rfl, b1⟩; obtain ⟨c1, f1⟩ := bcell b1; have z1 := b1.size; (try simp at z1); have d1a := fun o => c1 (w.heap.size) o (by first | omega | (simp; done) | (simp; omega)); have q1a := fun o => f1 (w.heap.size) o (by first | omega | (simp; done) | (simp; omega)); have d1b := fun o => c1 (w.heap.size + 1) o (by first | omega | (simp; done) | (simp; omega)); have q1b := fun o => f1 (w.heap.size + 1) o (by first | omega | (simp; done) | (simp; omega)); clear c1 f1) | (go_at_call 135; (with_reducible refine (HB.out _).mono ?_); rintro e w2 ⟨rfl, b2⟩; obtain ⟨c2, f2⟩ := bcell b2; have z2 := b2.size; (try simp at z2); have d2a := fun o => c2 (w.heap.size) o (by first | omega | (simp; done) | (simp; omega)); have q2a := fun o => f2 (w.heap.size) o (by first | omega | (simp; done) | (simp; omega)); have d2b := fun o => c2 (w.heap.size + 1) o (by first | omega | (simp; done) | (simp; omega)); have q2b := fun o => f2 (w.heap.size + 1) o (by first | omega | (simp; done) | (simp; omega)); clear c2 f2) | (go_at_call 148; (with_reducible refine (HM.out _).mono ?_); rintro e w3 ⟨rfl, b3⟩; obtain ⟨c3, f3⟩ := bcell b3; have z3 := b3.size; (try simp at z3); have d3a := fun o => c3 (w.heap.size) o (by first | omega | (simp; done) | (simp; omega)); have q3a := fun o => f3 (w.heap.size) o (by first | omega | (simp; done) | (simp; omega)); have d3b := fun o => c3 (w.heap.size + 1) o (by first | omega | (simp; done) | (simp; omega)); have q3b := fun o => f3 (w.heap.size + 1) o (by first | omega | (simp; done) | (simp; omega)); clear c3 f3))
      refine bodyPost_ret (v := .tuple #[.agg #[.bool m.v6, .int .u64 m.hi, .int .u64 m.lo, .int .i64 n], .bool true]) (by simp [results, Try.results134, go_sem, *]) rfl ⟨rfl, ?_⟩
      (repeat (first | assumption | exact Below.refl _ _ | refine Below.setCell ?_ (by first | omega | (simp; done) | (simp; omega)) _ | refine Below.alloc ?_ (by first | omega | (simp; done) | (simp; omega)) _ | refine Below.drew ?_ | (refine Below.trans ?_ (Below.mono (by assumption) (by first | omega | (simp; done) | (simp; omega))))))
set_option maxRecDepth 100000 in
set_option maxHeartbeats 4000000 in
theorem refAdMake_any (a : Ad) (hf : a.fits) (n : Int) (w : World) : Calls Try.prog 137 #[.agg #[.bool a.v6, .int .u64 a.hi, .int .u64 a.lo], .int .i64 n] w (GivesNt w (adMake a n)) := by
  have hR := fun w => refAdRight_any a hf w
  have hB := fun w => refAdBits_any a w
  have HM := Lib.hid (fun w => refAdMask_any a hf n w)
  obtain ⟨r, hm⟩ : ∃ r, adMake a n = r := ⟨_, rfl⟩
  unfold GivesNt
  rw [hm]
  unfold adMake at hm
  cases hr : adRight a with
  | false =>
    rw [hr] at hR
    rw [if_neg (by rw [hr]; simp)] at hm
    subst hm
    have HR := Lib.hid hR; clear hR hB
    go_enter Try.func137, Try.ntmps137
    go_wp2_with (go_at_call 140; (with_reducible refine (HR.out _).mono ?_); rintro e w1 ⟨rfl, b1⟩; obtain ⟨c1, f1⟩ := bcell b1; have z1 := b1.size; (try simp at z1); have d1a := fun o => c1 (w.heap.size) o (by first | omega | (simp; done) | (simp; omega)); have q1a := fun o => f1 (w.heap.size) o (by first | omega | (simp; done) | (simp; omega)); have d1b := fun o => c1 (w.heap.size + 1) o (by first | omega | (simp; done) | (simp; omega)); have q1b := fun o => f1 (w.heap.size + 1) o (by first | omega | (simp; done) | (simp; omega)); clear c1 f1)
    refine bodyPost_ret (v := .tuple #[.agg #[.bool false, .int .u64 0, .int .u64 0, .int .i64 0], .bool false]) (by simp [results, Try.results137, go_sem, *]) rfl ⟨rfl, ?_⟩
    (repeat (first | assumption | exact Below.refl _ _ | refine Below.setCell ?_ (by first | omega | (simp; done) | (simp; omega)) _ | refine Below.alloc ?_ (by first | omega | (simp; done) | (simp; omega)) _ | refine Below.drew ?_ | (refine Below.trans ?_ (Below.mono (by assumption) (by first | omega | (simp; done) | (simp; omega))))))
  | true =>
    rw [hr] at hR
    generalize adBits a = nb at *
    have HR := Lib.hid hR; have HB := Lib.hid hB; clear hR hB
    by_cases hn : n < 0
    · rw [if_neg (by omega)] at hm
      subst hm
      go_enter Try.func137, Try.ntmps137
      go_wp2_with (first | (go_at_call 140; (with_reducible refine (HR.out _).mono ?_); rintro e w1 ⟨rfl, b1⟩; obtain ⟨c1, f1⟩ := bcell b1; have z1 := b1.size; (try simp at z1); have d1a := fun o => c1 (w.heap.size) o (by first | omega | (simp; done) | (simp; omega)); have q1a := fun o => f1 (w.heap.size) o (by first | omega | (simp; done) | (simp; omega)); have d1b := fun o => c1 (w.heap.size + 1) o (by first | omega | (simp; done) | (simp; omega)); have q1b := fun o => f1 (w.heap.size + 1) o (by first | omega | (simp; done) | (simp; omega)); clear c1 f1) | (go_at_call 138; (with_reducible refine (HB.out _).mono ?_); rintro e w2 ⟨rfl, b2⟩; obtain ⟨c2, f2⟩ := bcell b2; have z2 := b2.size; (try simp at z2); have d2a := fun o => c2 (w.heap.size) o (by first | omega | (simp; done) | (simp; omega)); have q2a := fun o => f2 (w.heap.size) o (by first | omega | (simp; done) | (simp; omega)); have d2b := fun o => c2 (w.heap.size + 1) o (by first | omega | (simp; done) | (simp; omega)); have q2b := fun o => f2 (w.heap.size + 1) o (by first | omega | (simp; done) | (simp; omega)); clear c2 f2))
      refine bodyPost_ret (v := .tuple #[.agg #[.bool false, .int .u64 0, .int .u64 0, .int .i64 0], .bool false]) (by simp [results, Try.results137, go_sem, *]) rfl ⟨rfl, ?_⟩
      (repeat (first | assumption | exact Below.refl _ _ | refine Below.setCell ?_ (by first | omega | (simp; done) | (simp; omega)) _ | refine Below.alloc ?_ (by first | omega | (simp; done) | (simp; omega)) _ | refine Below.drew ?_ | (refine Below.trans ?_ (Below.mono (by assumption) (by first | omega | (simp; done) | (simp; omega))))))
    have hnd : decide (n < 0) = false := decide_eq_false hn
    by_cases hn2 : nb < n
    · rw [if_neg (by omega)] at hm
      subst hm
      go_enter Try.func137, Try.ntmps137
      go_wp2_with (first | (go_at_call 140; (with_reducible refine (HR.out _).mono ?_); rintro e w1 ⟨rfl, b1⟩; obtain ⟨c1, f1⟩ := bcell b1; have z1 := b1.size; (try simp at z1); have d1a := fun o => c1 (w.heap.size) o (by first | omega | (simp; done) | (simp; omega)); have q1a := fun o => f1 (w.heap.size) o (by first | omega | (simp; done) | (simp; omega)); have d1b := fun o => c1 (w.heap.size + 1) o (by first | omega | (simp; done) | (simp; omega)); have q1b := fun o => f1 (w.heap.size + 1) o (by first | omega | (simp; done) | (simp; omega)); clear c1 f1) | (go_at_call 138; (with_reducible refine (HB.out _).mono ?_); rintro e w2 ⟨rfl, b2⟩; obtain ⟨c2, f2⟩ := bcell b2; have z2 := b2.size; (try simp at z2); have d2a := fun o => c2 (w.heap.size) o (by first | omega | (simp; done) | (simp; omega)); have q2a := fun o => f2 (w.heap.size) o (by first | omega | (simp; done) | (simp; omega)); have d2b := fun o => c2 (w.heap.size + 1) o (by first | omega | (simp; done) | (simp; omega)); have q2b := fun o => f2 (w.heap.size + 1) o (by first | omega | (simp; done) | (simp; omega)); clear c2 f2))
      refine bodyPost_ret (v := .tuple #[.agg #[.bool false, .int .u64 0, .int .u64 0, .int .i64 0], .bool false]) (by simp [results, Try.results137, go_sem, *]) rfl ⟨rfl, ?_⟩
      (repeat (first | assumption | exact Below.refl _ _ | refine Below.setCell ?_ (by first | omega | (simp; done) | (simp; omega)) _ | refine Below.alloc ?_ (by first | omega | (simp; done) | (simp; omega)) _ | refine Below.drew ?_ | (refine Below.trans ?_ (Below.mono (by assumption) (by first | omega | (simp; done) | (simp; omega))))))
    · rw [if_pos (by exact ⟨hr, by omega, by omega⟩)] at hm
      subst hm
      generalize adMask a n = m at *
      have hn3 : n ≤ nb := by omega
      have hnd2 : decide (nb < n) = false := decide_eq_false hn2
      go_enter Try.func137, Try.ntmps137
      go_wp2_with (first | (go_at_call 140; (with_reducible refine (HR.out _).mono ?_); rintro e w1 ⟨rfl, b1⟩; obtain ⟨c1, f1⟩ := bcell b1; have z1 := b1.size; (try simp at z1); have d1a := fun o => c1 (w.heap.size) o (by first | omega | (simp; done) | (simp; omega)); have q1a := fun o => f1 (w.heap.size) o (by first | omega | (simp; done) | (simp; omega)); have d1b := fun o => c1 (w.heap.size + 1) o (by first | omega | (simp; done) | (simp; omega)); have q1b := fun o => f1 (w.heap.size + 1) o (by first | omega | (simp; done) | (simp; omega)); clear c1 f1) | (go_at_call 138; (with_reducible refine (HB.out _).mono ?_); rintro e w2 ⟨rfl, b2⟩; obtain ⟨c2, f2⟩ := bcell b2; have z2 := b2.size; (try simp at z2); have d2a := fun o => c2 (w.heap.size) o (by first | omega | (simp; done) | (simp; omega)); have q2a := fun o => f2 (w.heap.size) o (by first | omega | (simp; done) | (simp; omega)); have d2b := fun o => c2 (w.heap.size + 1) o (by first | omega | (simp; done) | (simp; omega)); have q2b := fun o => f2 (w.heap.size + 1) o (by first | omega | (simp; done) | (simp; omega)); clear c2 f2) | (go_at_call 164; (with_reducible refine (HM.out _).mono ?_); rintro e w3 ⟨rfl, b3⟩; obtain ⟨c3, f3⟩ := bcell b3; have z3 := b3.size; (try simp at z3); have d3a := fun o => c3 (w.heap.size) o (by first | omega | (simp; done) | (simp; omega)); have q3a := fun o => f3 (w.heap.size) o (by first | omega | (simp; done) | (simp; omega)); have d3b := fun o => c3 (w.heap.size + 1) o (by first | omega | (simp; done) | (simp; omega)); have q3b := fun o => f3 (w.heap.size + 1) o (by first | omega | (simp; done) | (simp; omega)); clear c3 f3))
      refine bodyPost_ret (v := .tuple #[.agg #[.bool m.v6, .int .u64 m.hi, .int .u64 m.lo, .int .i64 n], .bool true]) (by simp [results, Try.results137, go_sem, *]) rfl ⟨rfl, ?_⟩
      (repeat (first | assumption | exact Below.refl _ _ | refine Below.setCell ?_ (by first | omega | (simp; done) | (simp; omega)) _ | refine Below.alloc ?_ (by first | omega | (simp; done) | (simp; omega)) _ | refine Below.drew ?_ | (refine Below.trans ?_ (Below.mono (by assumption) (by first | omega | (simp; done) | (simp; omega))))))
set_option maxRecDepth 100000 in
set_option maxHeartbeats 4000000 in
theorem ntFull_any (a : Ad) (hf : a.fits) (w : World) : Calls Try.prog 94 #[.agg #[.bool a.v6, .int .u64 a.hi, .int .u64 a.lo]] w fun e w' => e = .returned (.agg #[.bool (ntFull a).ad.v6, .int .u64 (ntFull a).ad.hi, .int .u64 (ntFull a).ad.lo, .int .i64 (ntFull a).bits]) ∧ Below w.heap.size w w' := by
  have HB := Lib.hid (fun w => adBits_any a w)
  have hM := fun w => adMake_any a hf (adBits a) w
  unfold GivesNt at hM
  unfold ntFull
  generalize adMake a (adBits a) = r at *
  generalize adBits a = nb at *
  have HM := Lib.hid hM; clear hM
  obtain ⟨⟨m, k⟩, ok⟩ := r
  go_enter Try.func94, Try.ntmps94
  go_wp2_with fail
  go_region_held3 (fun w' => w'.cell? ⟨w.heap.size, 0, none⟩ = some (.bool a.v6) ∧ w'.cell? ⟨w.heap.size, 1, none⟩ = some (.int .u64 a.hi) ∧ w'.cell? ⟨w.heap.size, 2, none⟩ = some (.int .u64 a.lo)) (first | go_keep | (simp (disch := omega) [*]; done) | (simp (disch := first | omega | (simp; omega)) [World.cell?_setCell_far, World.cell?_alloc_past, *]; done) | (simp (disch := first | omega | (simp; omega)) [World.cell?_setCell_far, World.cell?_alloc_past, *]; repeat (first | exact rfl | refine ⟨rfl, ?_⟩))) (first | ((go_at_call 135; (with_reducible refine (HB.out _).mono ?_); rintro e w2 ⟨rfl, b2⟩; obtain ⟨c2, f2⟩ := bcell b2; have z2 := b2.size; (try simp at z2); have d2a := fun o => c2 (w.heap.size) o (by first | omega | (simp; done) | (simp; omega)); have q2a := fun o => f2 (w.heap.size) o (by first | omega | (simp; done) | (simp; omega)); have d2b := fun o => c2 (w.heap.size + 1) o (by first | omega | (simp; done) | (simp; omega)); have q2b := fun o => f2 (w.heap.size + 1) o (by first | omega | (simp; done) | (simp; omega)); (try have d2c := fun o => c2 (w.heap.size + 2) o (by first | omega | (simp; done) | (simp; omega))); (try have q2c := fun o => f2 (w.heap.size + 2) o (by first | omega | (simp; done) | (simp; omega))); clear c2 f2); have y2 : w.heap.size < w2.heap.size := (by omega); have x2 : w.heap.size + 1 < w2.heap.size := (by omega); have n2 := Nat.ne_of_lt y2; have m2 := Nat.ne_of_lt x2) | ((go_at_call 134; (with_reducible refine (HM.out _).mono ?_); rintro e w3 ⟨rfl, b3⟩; obtain ⟨c3, f3⟩ := bcell b3; have z3 := b3.size; (try simp at z3); have d3a := fun o => c3 (w.heap.size) o (by first | omega | (simp; done) | (simp; omega)); have q3a := fun o => f3 (w.heap.size) o (by first | omega | (simp; done) | (simp; omega)); have d3b := fun o => c3 (w.heap.size + 1) o (by first | omega | (simp; done) | (simp; omega)); have q3b := fun o => f3 (w.heap.size + 1) o (by first | omega | (simp; done) | (simp; omega)); (try have d3c := fun o => c3 (w.heap.size + 2) o (by first | omega | (simp; done) | (simp; omega))); (try have q3c := fun o => f3 (w.heap.size + 2) o (by first | omega | (simp; done) | (simp; omega))); (try have d3d := fun o => c3 (w2.heap.size) o (by first | omega | (simp; done) | (simp; omega))); (try have q3d := fun o => f3 (w2.heap.size) o (by first | omega | (simp; done) | (simp; omega))); clear c3 f3); have y3 : w.heap.size < w3.heap.size := (by omega); have x3 : w.heap.size + 1 < w3.heap.size := (by omega); have n3 := Nat.ne_of_lt y3; have m3 := Nat.ne_of_lt x3))
  · go_upto_region 2 with fail
    go_name_world WWx hWWx
    have hG : BlockIs WWx (w3.heap.size) [.bool m.v6, .int .u64 m.hi, .int .u64 m.lo, .int .i64 k] 92 := by subst hWWx; exact BlockIs.new w3 [.bool m.v6, .int .u64 m.hi, .int .u64 m.lo, .int .i64 k] 92
    have hR : BlockIs WWx (w.heap.size + 1) [.bool false, .int .u64 0, .int .u64 0, .int .i64 0] 92 := by subst hWWx; exact BlockIs.alloc (by exact BlockIs.below (by exact BlockIs.below (by exact BlockIs.newAt (w.alloc (.cells #[.bool a.v6, .int .u64 a.hi, .int .u64 a.lo] 32)) [.bool false, .int .u64 0, .int .u64 0, .int .i64 0] 92 (n := w.heap.size + 1) (by simp)) b2) b3) (.cells #[.bool m.v6, .int .u64 m.hi, .int .u64 m.lo, .int .i64 k] 92)
    have bwx : Below w.heap.size w WWx := by subst hWWx; (repeat (first | assumption | exact Below.refl _ _ | refine Below.setCell ?_ (by first | omega | (simp; done) | (simp; omega)) _ | refine Below.alloc ?_ (by first | omega | (simp; done) | (simp; omega)) _ | refine Below.drew ?_ | (refine Below.trans ?_ (Below.mono (by assumption) (by first | omega | (simp; done) | (simp; omega))))))
    clear hWWx d2a d2b d3a d3b q2a q2b q3a q3b b2 b3
    have k0 := hG.cell (i := 0) rfl
    have k1 := hG.cell (i := 1) rfl
    have k2 := hG.cell (i := 2) rfl
    have k3 := hG.cell (i := 3) rfl
    have r0 := hR.cell (i := 0) rfl
    have r1 := hR.cell (i := 1) rfl
    have r2 := hR.cell (i := 2) rfl
    have r3 := hR.cell (i := 3) rfl
    have rf := hR.frozen
    clear hG hR
    go_wp2_with fail
    refine bodyPost_ret (v := .agg #[.bool m.v6, .int .u64 m.hi, .int .u64 m.lo, .int .i64 k]) (by simp [results, Try.results94, go_sem, *]) rfl ⟨rfl, ?_⟩
    (repeat (first | assumption | exact Below.refl _ _ | refine Below.setCell ?_ (by first | omega | (simp; done) | (simp; omega)) _ | refine Below.alloc ?_ (by first | omega | (simp; done) | (simp; omega)) _ | refine Below.drew ?_ | (refine Below.trans ?_ (Below.mono (by assumption) (by first | omega | (simp; done) | (simp; omega))))))
  · go_upto_region 2 with fail
    go_name_world WWx hWWx
    have hG : BlockIs WWx (w2.heap.size) [.bool m.v6, .int .u64 m.hi, .int .u64 m.lo, .int .i64 k] 92 := by subst hWWx; exact BlockIs.set (BlockIs.set (BlockIs.set (BlockIs.set (BlockIs.below (by exact BlockIs.new w2 [.bool false, .int .u64 0, .int .u64 0, .int .i64 0] 92) b3) 0 (.bool m.v6)) 1 (.int .u64 m.hi)) 2 (.int .u64 m.lo)) 3 (.int .i64 k)
    have hR : BlockIs WWx (w.heap.size + 1) [.bool false, .int .u64 0, .int .u64 0, .int .i64 0] 92 := by subst hWWx; exact BlockIs.other (BlockIs.other (BlockIs.other (BlockIs.other (BlockIs.below (by exact BlockIs.alloc (by exact BlockIs.below (by exact BlockIs.newAt (w.alloc (.cells #[.bool a.v6, .int .u64 a.hi, .int .u64 a.lo] 32)) [.bool false, .int .u64 0, .int .u64 0, .int .i64 0] 92 (n := w.heap.size + 1) (by simp)) b2) (.cells #[.bool false, .int .u64 0, .int .u64 0, .int .i64 0] 92)) b3) (p := ⟨w2.heap.size, 0, none⟩) (by simp only; omega) (.bool m.v6)) (p := ⟨w2.heap.size, 1, none⟩) (by simp only; omega) (.int .u64 m.hi)) (p := ⟨w2.heap.size, 2, none⟩) (by simp only; omega) (.int .u64 m.lo)) (p := ⟨w2.heap.size, 3, none⟩) (by simp only; omega) (.int .i64 k)
    have bwx : Below w.heap.size w WWx := by subst hWWx; (repeat (first | assumption | exact Below.refl _ _ | refine Below.setCell ?_ (by first | omega | (simp; done) | (simp; omega)) _ | refine Below.alloc ?_ (by first | omega | (simp; done) | (simp; omega)) _ | refine Below.drew ?_ | (refine Below.trans ?_ (Below.mono (by assumption) (by first | omega | (simp; done) | (simp; omega))))))
    clear hWWx d2a d2b d3a d3b q2a q2b q3a q3b b2 b3
    have k0 := hG.cell (i := 0) rfl
    have k1 := hG.cell (i := 1) rfl
    have k2 := hG.cell (i := 2) rfl
    have k3 := hG.cell (i := 3) rfl
    have r0 := hR.cell (i := 0) rfl
    have r1 := hR.cell (i := 1) rfl
    have r2 := hR.cell (i := 2) rfl
    have r3 := hR.cell (i := 3) rfl
    have rf := hR.frozen
    clear hG hR
    go_wp2_with fail
    refine bodyPost_ret (v := .agg #[.bool m.v6, .int .u64 m.hi, .int .u64 m.lo, .int .i64 k]) (by simp [results, Try.results94, go_sem, *]) rfl ⟨rfl, ?_⟩
    (repeat (first | assumption | exact Below.refl _ _ | refine Below.setCell ?_ (by first | omega | (simp; done) | (simp; omega)) _ | refine Below.alloc ?_ (by first | omega | (simp; done) | (simp; omega)) _ | refine Below.drew ?_ | (refine Below.trans ?_ (Below.mono (by assumption) (by first | omega | (simp; done) | (simp; omega))))))
  · go_upto_region 2 with fail
    go_name_world WWx hWWx
    have hG : BlockIs WWx (w.heap.size + 1 + 1) [.bool m.v6, .int .u64 m.hi, .int .u64 m.lo, .int .i64 k] 92 := by subst hWWx; exact BlockIs.set (BlockIs.set (BlockIs.set (BlockIs.set (BlockIs.below (by exact BlockIs.below (by exact BlockIs.newAt ((w.alloc (.cells #[.bool a.v6, .int .u64 a.hi, .int .u64 a.lo] 32)).alloc (.cells #[.bool false, .int .u64 0, .int .u64 0, .int .i64 0] 92)) [.bool false, .int .u64 0, .int .u64 0, .int .i64 0] 92 (n := w.heap.size + 1 + 1) (by simp)) b2) b3) 0 (.bool m.v6)) 1 (.int .u64 m.hi)) 2 (.int .u64 m.lo)) 3 (.int .i64 k)
    have hR : BlockIs WWx (w.heap.size + 1) [.bool false, .int .u64 0, .int .u64 0, .int .i64 0] 92 := by subst hWWx; exact BlockIs.other (BlockIs.other (BlockIs.other (BlockIs.other (BlockIs.below (by exact BlockIs.below (by exact BlockIs.alloc (by exact BlockIs.newAt (w.alloc (.cells #[.bool a.v6, .int .u64 a.hi, .int .u64 a.lo] 32)) [.bool false, .int .u64 0, .int .u64 0, .int .i64 0] 92 (n := w.heap.size + 1) (by simp)) (.cells #[.bool false, .int .u64 0, .int .u64 0, .int .i64 0] 92)) b2) b3) (p := ⟨w.heap.size + 1 + 1, 0, none⟩) (by simp only; omega) (.bool m.v6)) (p := ⟨w.heap.size + 1 + 1, 1, none⟩) (by simp only; omega) (.int .u64 m.hi)) (p := ⟨w.heap.size + 1 + 1, 2, none⟩) (by simp only; omega) (.int .u64 m.lo)) (p := ⟨w.heap.size + 1 + 1, 3, none⟩) (by simp only; omega) (.int .i64 k)
    have bwx : Below w.heap.size w WWx := by subst hWWx; (repeat (first | assumption | exact Below.refl _ _ | refine Below.setCell ?_ (by first | omega | (simp; done) | (simp; omega)) _ | refine Below.alloc ?_ (by first | omega | (simp; done) | (simp; omega)) _ | refine Below.drew ?_ | (refine Below.trans ?_ (Below.mono (by assumption) (by first | omega | (simp; done) | (simp; omega))))))
    clear hWWx d2a d2b d3a d3b q2a q2b q3a q3b b2 b3
    have k0 := hG.cell (i := 0) rfl
    have k1 := hG.cell (i := 1) rfl
    have k2 := hG.cell (i := 2) rfl
    have k3 := hG.cell (i := 3) rfl
    have r0 := hR.cell (i := 0) rfl
    have r1 := hR.cell (i := 1) rfl
    have r2 := hR.cell (i := 2) rfl
    have r3 := hR.cell (i := 3) rfl
    have rf := hR.frozen
    clear hG hR
    go_wp2_with fail
    refine bodyPost_ret (v := .agg #[.bool m.v6, .int .u64 m.hi, .int .u64 m.lo, .int .i64 k]) (by simp [results, Try.results94, go_sem, *]) rfl ⟨rfl, ?_⟩
    (repeat (first | assumption | exact Below.refl _ _ | refine Below.setCell ?_ (by first | omega | (simp; done) | (simp; omega)) _ | refine Below.alloc ?_ (by first | omega | (simp; done) | (simp; omega)) _ | refine Below.drew ?_ | (refine Below.trans ?_ (Below.mono (by assumption) (by first | omega | (simp; done) | (simp; omega))))))
set_option maxRecDepth 100000 in
set_option maxHeartbeats 4000000 in
theorem refNtFull_any (a : Ad) (hf : a.fits) (w : World) : Calls Try.prog 98 #[.agg #[.bool a.v6, .int .u64 a.hi, .int .u64 a.lo]] w fun e w' => e = .returned (.agg #[.bool (ntFull a).ad.v6, .int .u64 (ntFull a).ad.hi, .int .u64 (ntFull a).ad.lo, .int .i64 (ntFull a).bits]) ∧ Below w.heap.size w w' := by
  have HB := Lib.hid (fun w => refAdBits_any a w)
  have hM := fun w => refAdMake_any a hf (adBits a) w
  unfold GivesNt at hM
  unfold ntFull
  generalize adMake a (adBits a) = r at *
  generalize adBits a = nb at *
  have HM := Lib.hid hM; clear hM
  obtain ⟨⟨m, k⟩, ok⟩ := r
  go_enter Try.func98, Try.ntmps98
  go_wp2_with fail
  go_region_held3 (fun w' => w'.cell? ⟨w.heap.size, 0, none⟩ = some (.bool a.v6) ∧ w'.cell? ⟨w.heap.size, 1, none⟩ = some (.int .u64 a.hi) ∧ w'.cell? ⟨w.heap.size, 2, none⟩ = some (.int .u64 a.lo)) (first | go_keep | (simp (disch := omega) [*]; done) | (simp (disch := first | omega | (simp; omega)) [World.cell?_setCell_far, World.cell?_alloc_past, *]; done) | (simp (disch := first | omega | (simp; omega)) [World.cell?_setCell_far, World.cell?_alloc_past, *]; repeat (first | exact rfl | refine ⟨rfl, ?_⟩))) (first | ((go_at_call 138; (with_reducible refine (HB.out _).mono ?_); rintro e w2 ⟨rfl, b2⟩; obtain ⟨c2, f2⟩ := bcell b2; have z2 := b2.size; (try simp at z2); have d2a := fun o => c2 (w.heap.size) o (by first | omega | (simp; done) | (simp; omega)); have q2a := fun o => f2 (w.heap.size) o (by first | omega | (simp; done) | (simp; omega)); have d2b := fun o => c2 (w.heap.size + 1) o (by first | omega | (simp; done) | (simp; omega)); have q2b := fun o => f2 (w.heap.size + 1) o (by first | omega | (simp; done) | (simp; omega)); (try have d2c := fun o => c2 (w.heap.size + 2) o (by first | omega | (simp; done) | (simp; omega))); (try have q2c := fun o => f2 (w.heap.size + 2) o (by first | omega | (simp; done) | (simp; omega))); clear c2 f2); have y2 : w.heap.size < w2.heap.size := (by omega); have x2 : w.heap.size + 1 < w2.heap.size := (by omega); have n2 := Nat.ne_of_lt y2; have m2 := Nat.ne_of_lt x2) | ((go_at_call 137; (with_reducible refine (HM.out _).mono ?_); rintro e w3 ⟨rfl, b3⟩; obtain ⟨c3, f3⟩ := bcell b3; have z3 := b3.size; (try simp at z3); have d3a := fun o => c3 (w.heap.size) o (by first | omega | (simp; done) | (simp; omega)); have q3a := fun o => f3 (w.heap.size) o (by first | omega | (simp; done) | (simp; omega)); have d3b := fun o => c3 (w.heap.size + 1) o (by first | omega | (simp; done) | (simp; omega)); have q3b := fun o => f3 (w.heap.size + 1) o (by first | omega | (simp; done) | (simp; omega)); (try have d3c := fun o => c3 (w.heap.size + 2) o (by first | omega | (simp; done) | (simp; omega))); (try have q3c := fun o => f3 (w.heap.size + 2) o (by first | omega | (simp; done) | (simp; omega))); (try have d3d := fun o => c3 (w2.heap.size) o (by first | omega | (simp; done) | (simp; omega))); (try have q3d := fun o => f3 (w2.heap.size) o (by first | omega | (simp; done) | (simp; omega))); clear c3 f3); have y3 : w.heap.size < w3.heap.size := (by omega); have x3 : w.heap.size + 1 < w3.heap.size := (by omega); have n3 := Nat.ne_of_lt y3; have m3 := Nat.ne_of_lt x3))
  · go_upto_region 2 with fail
    go_name_world WWx hWWx
    have hG : BlockIs WWx (w3.heap.size) [.bool m.v6, .int .u64 m.hi, .int .u64 m.lo, .int .i64 k] 92 := by subst hWWx; exact BlockIs.new w3 [.bool m.v6, .int .u64 m.hi, .int .u64 m.lo, .int .i64 k] 92
    have hR : BlockIs WWx (w.heap.size + 1) [.bool false, .int .u64 0, .int .u64 0, .int .i64 0] 92 := by subst hWWx; exact BlockIs.alloc (by exact BlockIs.below (by exact BlockIs.below (by exact BlockIs.newAt (w.alloc (.cells #[.bool a.v6, .int .u64 a.hi, .int .u64 a.lo] 32)) [.bool false, .int .u64 0, .int .u64 0, .int .i64 0] 92 (n := w.heap.size + 1) (by simp)) b2) b3) (.cells #[.bool m.v6, .int .u64 m.hi, .int .u64 m.lo, .int .i64 k] 92)
    have bwx : Below w.heap.size w WWx := by subst hWWx; (repeat (first | assumption | exact Below.refl _ _ | refine Below.setCell ?_ (by first | omega | (simp; done) | (simp; omega)) _ | refine Below.alloc ?_ (by first | omega | (simp; done) | (simp; omega)) _ | refine Below.drew ?_ | (refine Below.trans ?_ (Below.mono (by assumption) (by first | omega | (simp; done) | (simp; omega))))))
    clear hWWx d2a d2b d3a d3b q2a q2b q3a q3b b2 b3
    have k0 := hG.cell (i := 0) rfl
    have k1 := hG.cell (i := 1) rfl
    have k2 := hG.cell (i := 2) rfl
    have k3 := hG.cell (i := 3) rfl
    have r0 := hR.cell (i := 0) rfl
    have r1 := hR.cell (i := 1) rfl
    have r2 := hR.cell (i := 2) rfl
    have r3 := hR.cell (i := 3) rfl
    have rf := hR.frozen
    clear hG hR
    go_wp2_with fail
    refine bodyPost_ret (v := .agg #[.bool m.v6, .int .u64 m.hi, .int .u64 m.lo, .int .i64 k]) (by simp [results, Try.results98, go_sem, *]) rfl ⟨rfl, ?_⟩
    (repeat (first | assumption | exact Below.refl _ _ | refine Below.setCell ?_ (by first | omega | (simp; done) | (simp; omega)) _ | refine Below.alloc ?_ (by first | omega | (simp; done) | (simp; omega)) _ | refine Below.drew ?_ | (refine Below.trans ?_ (Below.mono (by assumption) (by first | omega | (simp; done) | (simp; omega))))))
  · go_upto_region 2 with fail
    go_name_world WWx hWWx
    have hG : BlockIs WWx (w2.heap.size) [.bool m.v6, .int .u64 m.hi, .int .u64 m.lo, .int .i64 k] 92 := by subst hWWx; exact BlockIs.set (BlockIs.set (BlockIs.set (BlockIs.set (BlockIs.below (by exact BlockIs.new w2 [.bool false, .int .u64 0, .int .u64 0, .int .i64 0] 92) b3) 0 (.bool m.v6)) 1 (.int .u64 m.hi)) 2 (.int .u64 m.lo)) 3 (.int .i64 k)
    have hR : BlockIs WWx (w.heap.size + 1) [.bool false, .int .u64 0, .int .u64 0, .int .i64 0] 92 := by subst hWWx; exact BlockIs.other (BlockIs.other (BlockIs.other (BlockIs.other (BlockIs.below (by exact BlockIs.alloc (by exact BlockIs.below (by exact BlockIs.newAt (w.alloc (.cells #[.bool a.v6, .int .u64 a.hi, .int .u64 a.lo] 32)) [.bool false, .int .u64 0, .int .u64 0, .int .i64 0] 92 (n := w.heap.size + 1) (by simp)) b2) (.cells #[.bool false, .int .u64 0, .int .u64 0, .int .i64 0] 92)) b3) (p := ⟨w2.heap.size, 0, none⟩) (by simp only; omega) (.bool m.v6)) (p := ⟨w2.heap.size, 1, none⟩) (by simp only; omega) (.int .u64 m.hi)) (p := ⟨w2.heap.size, 2, none⟩) (by simp only; omega) (.int .u64 m.lo)) (p := ⟨w2.heap.size, 3, none⟩) (by simp only; omega) (.int .i64 k)
    have bwx : Below w.heap.size w WWx := by subst hWWx; (repeat (first | assumption | exact Below.refl _ _ | refine Below.setCell ?_ (by first | omega | (simp; done) | (simp; omega)) _ | refine Below.alloc ?_ (by first | omega | (simp; done) | (simp; omega)) _ | refine Below.drew ?_ | (refine Below.trans ?_ (Below.mono (by assumption) (by first | omega | (simp; done) | (simp; omega))))))
    clear hWWx d2a d2b d3a d3b q2a q2b q3a q3b b2 b3
    have k0 := hG.cell (i := 0) rfl
    have k1 := hG.cell (i := 1) rfl
    have k2 := hG.cell (i := 2) rfl
    have k3 := hG.cell (i := 3) rfl
    have r0 := hR.cell (i := 0) rfl
    have r1 := hR.cell (i := 1) rfl
    have r2 := hR.cell (i := 2) rfl
    have r3 := hR.cell (i := 3) rfl
    have rf := hR.frozen
    clear hG hR
    go_wp2_with fail
    refine bodyPost_ret (v := .agg #[.bool m.v6, .int .u64 m.hi, .int .u64 m.lo, .int .i64 k]) (by simp [results, Try.results98, go_sem, *]) rfl ⟨rfl, ?_⟩
    (repeat (first | assumption | exact Below.refl _ _ | refine Below.setCell ?_ (by first | omega | (simp; done) | (simp; omega)) _ | refine Below.alloc ?_ (by first | omega | (simp; done) | (simp; omega)) _ | refine Below.drew ?_ | (refine Below.trans ?_ (Below.mono (by assumption) (by first | omega | (simp; done) | (simp; omega))))))
  · go_upto_region 2 with fail
    go_name_world WWx hWWx
    have hG : BlockIs WWx (w.heap.size + 1 + 1) [.bool m.v6, .int .u64 m.hi, .int .u64 m.lo, .int .i64 k] 92 := by subst hWWx; exact BlockIs.set (BlockIs.set (BlockIs.set (BlockIs.set (BlockIs.below (by exact BlockIs.below (by exact BlockIs.newAt ((w.alloc (.cells #[.bool a.v6, .int .u64 a.hi, .int .u64 a.lo] 32)).alloc (.cells #[.bool false, .int .u64 0, .int .u64 0, .int .i64 0] 92)) [.bool false, .int .u64 0, .int .u64 0, .int .i64 0] 92 (n := w.heap.size + 1 + 1) (by simp)) b2) b3) 0 (.bool m.v6)) 1 (.int .u64 m.hi)) 2 (.int .u64 m.lo)) 3 (.int .i64 k)
    have hR : BlockIs WWx (w.heap.size + 1) [.bool false, .int .u64 0, .int .u64 0, .int .i64 0] 92 := by subst hWWx; exact BlockIs.other (BlockIs.other (BlockIs.other (BlockIs.other (BlockIs.below (by exact BlockIs.below (by exact BlockIs.alloc (by exact BlockIs.newAt (w.alloc (.cells #[.bool a.v6, .int .u64 a.hi, .int .u64 a.lo] 32)) [.bool false, .int .u64 0, .int .u64 0, .int .i64 0] 92 (n := w.heap.size + 1) (by simp)) (.cells #[.bool false, .int .u64 0, .int .u64 0, .int .i64 0] 92)) b2) b3) (p := ⟨w.heap.size + 1 + 1, 0, none⟩) (by simp only; omega) (.bool m.v6)) (p := ⟨w.heap.size + 1 + 1, 1, none⟩) (by simp only; omega) (.int .u64 m.hi)) (p := ⟨w.heap.size + 1 + 1, 2, none⟩) (by simp only; omega) (.int .u64 m.lo)) (p := ⟨w.heap.size + 1 + 1, 3, none⟩) (by simp only; omega) (.int .i64 k)
    have bwx : Below w.heap.size w WWx := by subst hWWx; (repeat (first | assumption | exact Below.refl _ _ | refine Below.setCell ?_ (by first | omega | (simp; done) | (simp; omega)) _ | refine Below.alloc ?_ (by first | omega | (simp; done) | (simp; omega)) _ | refine Below.drew ?_ | (refine Below.trans ?_ (Below.mono (by assumption) (by first | omega | (simp; done) | (simp; omega))))))
    clear hWWx d2a d2b d3a d3b q2a q2b q3a q3b b2 b3
    have k0 := hG.cell (i := 0) rfl
    have k1 := hG.cell (i := 1) rfl
    have k2 := hG.cell (i := 2) rfl
    have k3 := hG.cell (i := 3) rfl
    have r0 := hR.cell (i := 0) rfl
    have r1 := hR.cell (i := 1) rfl
    have r2 := hR.cell (i := 2) rfl
    have r3 := hR.cell (i := 3) rfl
    have rf := hR.frozen
    clear hG hR
    go_wp2_with fail
    refine bodyPost_ret (v := .agg #[.bool m.v6, .int .u64 m.hi, .int .u64 m.lo, .int .i64 k]) (by simp [results, Try.results98, go_sem, *]) rfl ⟨rfl, ?_⟩
    (repeat (first | assumption | exact Below.refl _ _ | refine Below.setCell ?_ (by first | omega | (simp; done) | (simp; omega)) _ | refine Below.alloc ?_ (by first | omega | (simp; done) | (simp; omega)) _ | refine Below.drew ?_ | (refine Below.trans ?_ (Below.mono (by assumption) (by first | omega | (simp; done) | (simp; omega))))))
def grBits (a : Ad) : Int := if a.v6 = true then 32 else 16
def grOf (a : Ad) : Nt := (adMake a (grBits a)).1
theorem grBits_any (a : Ad) (w : World) : Calls Try.prog 193 #[.agg #[.bool a.v6, .int .u64 a.hi, .int .u64 a.lo]] w fun e w' => e = .returned (.int .i64 (grBits a)) ∧ Below w.heap.size w w' := by
  unfold grBits
  go_enter Try.func193, Try.ntmps193
  go_wp2
  all_goals
    go_ret
    exact ⟨ret_int (by simp [*]), (Below.refl _ _).alloc (Nat.le_refl _) _⟩
set_option maxRecDepth 100000 in
set_option maxHeartbeats 4000000 in
theorem grOf_any (a : Ad) (hf : a.fits) (w : World) : Calls Try.prog 177 #[.agg #[.bool a.v6, .int .u64 a.hi, .int .u64 a.lo]] w fun e w' => e = .returned (.agg #[.bool (grOf a).ad.v6, .int .u64 (grOf a).ad.hi, .int .u64 (grOf a).ad.lo, .int .i64 (grOf a).bits]) ∧ Below w.heap.size w w' := by
  have HB := Lib.hid (fun w => grBits_any a w)
  have hM := fun w => adMake_any a hf (grBits a) w
  unfold GivesNt at hM
  unfold grOf
  generalize adMake a (grBits a) = r at *
  generalize grBits a = nb at *
  have HM := Lib.hid hM; clear hM
  obtain ⟨⟨m, k⟩, ok⟩ := r
  go_enter Try.func177, Try.ntmps177
  go_wp2_with fail
  go_region_held3 (fun w' => w'.cell? ⟨w.heap.size, 0, none⟩ = some (.bool a.v6) ∧ w'.cell? ⟨w.heap.size, 1, none⟩ = some (.int .u64 a.hi) ∧ w'.cell? ⟨w.heap.size, 2, none⟩ = some (.int .u64 a.lo)) (first | go_keep | (simp (disch := omega) [*]; done) | (simp (disch := first | omega | (simp; omega)) [World.cell?_setCell_far, World.cell?_alloc_past, *]; done) | (simp (disch := first | omega | (simp; omega)) [World.cell?_setCell_far, World.cell?_alloc_past, *]; repeat (first | exact rfl | refine ⟨rfl, ?_⟩))) (first | ((go_at_call 193; (with_reducible refine (HB.out _).mono ?_); rintro e w2 ⟨rfl, b2⟩; obtain ⟨c2, f2⟩ := bcell b2; have z2 := b2.size; (try simp at z2); have d2a := fun o => c2 (w.heap.size) o (by first | omega | (simp; done) | (simp; omega)); have q2a := fun o => f2 (w.heap.size) o (by first | omega | (simp; done) | (simp; omega)); have d2b := fun o => c2 (w.heap.size + 1) o (by first | omega | (simp; done) | (simp; omega)); have q2b := fun o => f2 (w.heap.size + 1) o (by first | omega | (simp; done) | (simp; omega)); (try have d2c := fun o => c2 (w.heap.size + 2) o (by first | omega | (simp; done) | (simp; omega))); (try have q2c := fun o => f2 (w.heap.size + 2) o (by first | omega | (simp; done) | (simp; omega))); clear c2 f2); have y2 : w.heap.size < w2.heap.size := (by omega); have x2 : w.heap.size + 1 < w2.heap.size := (by omega); have n2 := Nat.ne_of_lt y2; have m2 := Nat.ne_of_lt x2) | ((go_at_call 134; (with_reducible refine (HM.out _).mono ?_); rintro e w3 ⟨rfl, b3⟩; obtain ⟨c3, f3⟩ := bcell b3; have z3 := b3.size; (try simp at z3); have d3a := fun o => c3 (w.heap.size) o (by first | omega | (simp; done) | (simp; omega)); have q3a := fun o => f3 (w.heap.size) o (by first | omega | (simp; done) | (simp; omega)); have d3b := fun o => c3 (w.heap.size + 1) o (by first | omega | (simp; done) | (simp; omega)); have q3b := fun o => f3 (w.heap.size + 1) o (by first | omega | (simp; done) | (simp; omega)); (try have d3c := fun o => c3 (w.heap.size + 2) o (by first | omega | (simp; done) | (simp; omega))); (try have q3c := fun o => f3 (w.heap.size + 2) o (by first | omega | (simp; done) | (simp; omega))); (try have d3d := fun o => c3 (w2.heap.size) o (by first | omega | (simp; done) | (simp; omega))); (try have q3d := fun o => f3 (w2.heap.size) o (by first | omega | (simp; done) | (simp; omega))); clear c3 f3); have y3 : w.heap.size < w3.heap.size := (by omega); have x3 : w.heap.size + 1 < w3.heap.size := (by omega); have n3 := Nat.ne_of_lt y3; have m3 := Nat.ne_of_lt x3))
  · go_upto_region 2 with fail
    go_name_world WWx hWWx
    have hG : BlockIs WWx (w3.heap.size) [.bool m.v6, .int .u64 m.hi, .int .u64 m.lo, .int .i64 k] 92 := by subst hWWx; exact BlockIs.new w3 [.bool m.v6, .int .u64 m.hi, .int .u64 m.lo, .int .i64 k] 92
    have hR : BlockIs WWx (w.heap.size + 1) [.bool false, .int .u64 0, .int .u64 0, .int .i64 0] 92 := by subst hWWx; exact BlockIs.alloc (by exact BlockIs.below (by exact BlockIs.below (by exact BlockIs.newAt (w.alloc (.cells #[.bool a.v6, .int .u64 a.hi, .int .u64 a.lo] 32)) [.bool false, .int .u64 0, .int .u64 0, .int .i64 0] 92 (n := w.heap.size + 1) (by simp)) b2) b3) (.cells #[.bool m.v6, .int .u64 m.hi, .int .u64 m.lo, .int .i64 k] 92)
    have bwx : Below w.heap.size w WWx := by subst hWWx; (repeat (first | assumption | exact Below.refl _ _ | refine Below.setCell ?_ (by first | omega | (simp; done) | (simp; omega)) _ | refine Below.alloc ?_ (by first | omega | (simp; done) | (simp; omega)) _ | refine Below.drew ?_ | (refine Below.trans ?_ (Below.mono (by assumption) (by first | omega | (simp; done) | (simp; omega))))))
    clear hWWx d2a d2b d3a d3b q2a q2b q3a q3b b2 b3
    have k0 := hG.cell (i := 0) rfl
    have k1 := hG.cell (i := 1) rfl
    have k2 := hG.cell (i := 2) rfl
    have k3 := hG.cell (i := 3) rfl
    have r0 := hR.cell (i := 0) rfl
    have r1 := hR.cell (i := 1) rfl
    have r2 := hR.cell (i := 2) rfl
    have r3 := hR.cell (i := 3) rfl
    have rf := hR.frozen
    clear hG hR
    go_wp2_with fail
    refine bodyPost_ret (v := .agg #[.bool m.v6, .int .u64 m.hi, .int .u64 m.lo, .int .i64 k]) (by simp [results, Try.results177, go_sem, *]) rfl ⟨rfl, ?_⟩
    (repeat (first | assumption | exact Below.refl _ _ | refine Below.setCell ?_ (by first | omega | (simp; done) | (simp; omega)) _ | refine Below.alloc ?_ (by first | omega | (simp; done) | (simp; omega)) _ | refine Below.drew ?_ | (refine Below.trans ?_ (Below.mono (by assumption) (by first | omega | (simp; done) | (simp; omega))))))
  · go_upto_region 2 with fail
    go_name_world WWx hWWx
    have hG : BlockIs WWx (w2.heap.size) [.bool m.v6, .int .u64 m.hi, .int .u64 m.lo, .int .i64 k] 92 := by subst hWWx; exact BlockIs.set (BlockIs.set (BlockIs.set (BlockIs.set (BlockIs.below (by exact BlockIs.new w2 [.bool false, .int .u64 0, .int .u64 0, .int .i64 0] 92) b3) 0 (.bool m.v6)) 1 (.int .u64 m.hi)) 2 (.int .u64 m.lo)) 3 (.int .i64 k)
    have hR : BlockIs WWx (w.heap.size + 1) [.bool false, .int .u64 0, .int .u64 0, .int .i64 0] 92 := by subst hWWx; exact BlockIs.other (BlockIs.other (BlockIs.other (BlockIs.other (BlockIs.below (by exact BlockIs.alloc (by exact BlockIs.below (by exact BlockIs.newAt (w.alloc (.cells #[.bool a.v6, .int .u64 a.hi, .int .u64 a.lo] 32)) [.bool false, .int .u64 0, .int .u64 0, .int .i64 0] 92 (n := w.heap.size + 1) (by simp)) b2) (.cells #[.bool false, .int .u64 0, .int .u64 0, .int .i64 0] 92)) b3) (p := ⟨w2.heap.size, 0, none⟩) (by simp only; omega) (.bool m.v6)) (p := ⟨w2.heap.size, 1, none⟩) (by simp only; omega) (.int .u64 m.hi)) (p := ⟨w2.heap.size, 2, none⟩) (by simp only; omega) (.int .u64 m.lo)) (p := ⟨w2.heap.size, 3, none⟩) (by simp only; omega) (.int .i64 k)
    have bwx : Below w.heap.size w WWx := by subst hWWx; (repeat (first | assumption | exact Below.refl _ _ | refine Below.setCell ?_ (by first | omega | (simp; done) | (simp; omega)) _ | refine Below.alloc ?_ (by first | omega | (simp; done) | (simp; omega)) _ | refine Below.drew ?_ | (refine Below.trans ?_ (Below.mono (by assumption) (by first | omega | (simp; done) | (simp; omega))))))
    clear hWWx d2a d2b d3a d3b q2a q2b q3a q3b b2 b3
    have k0 := hG.cell (i := 0) rfl
    have k1 := hG.cell (i := 1) rfl
    have k2 := hG.cell (i := 2) rfl
    have k3 := hG.cell (i := 3) rfl
    have r0 := hR.cell (i := 0) rfl
    have r1 := hR.cell (i := 1) rfl
    have r2 := hR.cell (i := 2) rfl
    have r3 := hR.cell (i := 3) rfl
    have rf := hR.frozen
    clear hG hR
    go_wp2_with fail
    refine bodyPost_ret (v := .agg #[.bool m.v6, .int .u64 m.hi, .int .u64 m.lo, .int .i64 k]) (by simp [results, Try.results177, go_sem, *]) rfl ⟨rfl, ?_⟩
    (repeat (first | assumption | exact Below.refl _ _ | refine Below.setCell ?_ (by first | omega | (simp; done) | (simp; omega)) _ | refine Below.alloc ?_ (by first | omega | (simp; done) | (simp; omega)) _ | refine Below.drew ?_ | (refine Below.trans ?_ (Below.mono (by assumption) (by first | omega | (simp; done) | (simp; omega))))))
  · go_upto_region 2 with fail
    go_name_world WWx hWWx
    have hG : BlockIs WWx (w.heap.size + 1 + 1) [.bool m.v6, .int .u64 m.hi, .int .u64 m.lo, .int .i64 k] 92 := by subst hWWx; exact BlockIs.set (BlockIs.set (BlockIs.set (BlockIs.set (BlockIs.below (by exact BlockIs.below (by exact BlockIs.newAt ((w.alloc (.cells #[.bool a.v6, .int .u64 a.hi, .int .u64 a.lo] 32)).alloc (.cells #[.bool false, .int .u64 0, .int .u64 0, .int .i64 0] 92)) [.bool false, .int .u64 0, .int .u64 0, .int .i64 0] 92 (n := w.heap.size + 1 + 1) (by simp)) b2) b3) 0 (.bool m.v6)) 1 (.int .u64 m.hi)) 2 (.int .u64 m.lo)) 3 (.int .i64 k)
    have hR : BlockIs WWx (w.heap.size + 1) [.bool false, .int .u64 0, .int .u64 0, .int .i64 0] 92 := by subst hWWx; exact BlockIs.other (BlockIs.other (BlockIs.other (BlockIs.other (BlockIs.below (by exact BlockIs.below (by exact BlockIs.alloc (by exact BlockIs.newAt (w.alloc (.cells #[.bool a.v6, .int .u64 a.hi, .int .u64 a.lo] 32)) [.bool false, .int .u64 0, .int .u64 0, .int .i64 0] 92 (n := w.heap.size + 1) (by simp)) (.cells #[.bool false, .int .u64 0, .int .u64 0, .int .i64 0] 92)) b2) b3) (p := ⟨w.heap.size + 1 + 1, 0, none⟩) (by simp only; omega) (.bool m.v6)) (p := ⟨w.heap.size + 1 + 1, 1, none⟩) (by simp only; omega) (.int .u64 m.hi)) (p := ⟨w.heap.size + 1 + 1, 2, none⟩) (by simp only; omega) (.int .u64 m.lo)) (p := ⟨w.heap.size + 1 + 1, 3, none⟩) (by simp only; omega) (.int .i64 k)
    have bwx : Below w.heap.size w WWx := by subst hWWx; (repeat (first | assumption | exact Below.refl _ _ | refine Below.setCell ?_ (by first | omega | (simp; done) | (simp; omega)) _ | refine Below.alloc ?_ (by first | omega | (simp; done) | (simp; omega)) _ | refine Below.drew ?_ | (refine Below.trans ?_ (Below.mono (by assumption) (by first | omega | (simp; done) | (simp; omega))))))
    clear hWWx d2a d2b d3a d3b q2a q2b q3a q3b b2 b3
    have k0 := hG.cell (i := 0) rfl
    have k1 := hG.cell (i := 1) rfl
    have k2 := hG.cell (i := 2) rfl
    have k3 := hG.cell (i := 3) rfl
    have r0 := hR.cell (i := 0) rfl
    have r1 := hR.cell (i := 1) rfl
    have r2 := hR.cell (i := 2) rfl
    have r3 := hR.cell (i := 3) rfl
    have rf := hR.frozen
    clear hG hR
    go_wp2_with fail
    refine bodyPost_ret (v := .agg #[.bool m.v6, .int .u64 m.hi, .int .u64 m.lo, .int .i64 k]) (by simp [results, Try.results177, go_sem, *]) rfl ⟨rfl, ?_⟩
    (repeat (first | assumption | exact Below.refl _ _ | refine Below.setCell ?_ (by first | omega | (simp; done) | (simp; omega)) _ | refine Below.alloc ?_ (by first | omega | (simp; done) | (simp; omega)) _ | refine Below.drew ?_ | (refine Below.trans ?_ (Below.mono (by assumption) (by first | omega | (simp; done) | (simp; omega))))))
end Go.Proofs.Ytppmjbnhghaffaa
/- The contracts of subnets: right, written. -/
namespace Go.Proofs.Ytppmjbnhghaffaa
open Go.RowKit
set_option linter.unusedSimpArgs false
set_option linter.unusedVariables false

set_option maxRecDepth 100000 in
set_option maxHeartbeats 4000000 in
theorem ntRight_any (n : Nt) (hf : n.ad.fits) (w : World) : Calls Try.prog 146 #[.agg #[.bool n.ad.v6, .int .u64 n.ad.hi, .int .u64 n.ad.lo, .int .i64 n.bits]] w fun e w' => e = .returned (.bool (ntRight n)) ∧ Below w.heap.size w w' := by
  have hM := fun w => adMake_any n.ad hf n.bits w
  unfold GivesNt at hM
  have hr := ntRight_make n
  generalize adMake n.ad n.bits = r at *
  obtain ⟨m, ok⟩ := r
  simp only at hr hM
  have q := fun W => eqlNt m n W
  have HM := Lib.hid hM; clear hM
  cases ok with
  | false =>
    rw [Bool.false_and] at hr
    rw [hr]
    clear q hr
    go_enter Try.func146, Try.ntmps146
    go_wp2_with (go_at_call 134; (with_reducible refine (HM.out _).mono ?_); rintro e w1 ⟨rfl, b1⟩; obtain ⟨c1, f1⟩ := bcell b1; have z1 := b1.size; (try simp at z1); have l1a : w.heap.size < w1.heap.size := (by omega); have n1a := Nat.ne_of_lt l1a; have d1a := fun o => c1 (w.heap.size) o (by first | omega | (simp; done) | (simp; omega)); clear c1 f1)
    go_ret
    refine ⟨rfl, ?_⟩
    (repeat (first | assumption | exact Below.refl _ _ | refine Below.setCell ?_ (by first | omega | (simp; done) | (simp; omega)) _ | refine Below.alloc ?_ (by first | omega | (simp; done) | (simp; omega)) _ | refine Below.drew ?_ | (refine Below.trans ?_ (Below.mono (by assumption) (by first | omega | (simp; done) | (simp; omega))))))
  | true =>
    rw [Bool.true_and] at hr
    rw [hr]
    clear hr
    go_enter Try.func146, Try.ntmps146
    go_wp2_with (go_at_call 134; (with_reducible refine (HM.out _).mono ?_); rintro e w1 ⟨rfl, b1⟩; obtain ⟨c1, f1⟩ := bcell b1; have z1 := b1.size; (try simp at z1); have l1a : w.heap.size < w1.heap.size := (by omega); have n1a := Nat.ne_of_lt l1a; have d1a := fun o => c1 (w.heap.size) o (by first | omega | (simp; done) | (simp; omega)); clear c1 f1)
    go_ret
    refine ⟨rfl, ?_⟩
    (repeat (first | assumption | exact Below.refl _ _ | refine Below.setCell ?_ (by first | omega | (simp; done) | (simp; omega)) _ | refine Below.alloc ?_ (by first | omega | (simp; done) | (simp; omega)) _ | refine Below.drew ?_ | (refine Below.trans ?_ (Below.mono (by assumption) (by first | omega | (simp; done) | (simp; omega))))))
set_option maxRecDepth 100000 in
set_option maxHeartbeats 4000000 in
theorem refNtRight_any (n : Nt) (hf : n.ad.fits) (w : World) : Calls Try.prog 149 #[.agg #[.bool n.ad.v6, .int .u64 n.ad.hi, .int .u64 n.ad.lo, .int .i64 n.bits]] w fun e w' => e = .returned (.bool (ntRight n)) ∧ Below w.heap.size w w' := by
  have hR := fun w => refAdRight_any n.ad hf w
  have HB := Lib.hid (fun w => refAdBits_any n.ad w)
  have HBi := Lib.hid (fun i w => refAdBit_any n.ad hf i w)
  have hnn := adBits_nn n.ad
  have hbits := ntRight_bits n hf
  obtain ⟨r, hr⟩ : ∃ r, ntRight n = r := ⟨_, rfl⟩
  rw [hr] at hbits ⊢
  cases hrr : adRight n.ad with
  | false =>
    have hz : r = false := by rw [← hr]; unfold ntRight; rw [hrr]; rfl
    subst hz
    rw [hrr] at hR
    have HR := Lib.hid hR; clear hR hbits hr
    go_enter Try.func149, Try.ntmps149
    go_wp2_with fail
    go_name_world WWx hWWx
    have ex0 : ∀ Y, (ext WWx Y).cell? ⟨w.heap.size, 0, none⟩ = some (.bool n.ad.v6) := by subst hWWx; intro Y; exact (ext_cell _ Y (by first | omega | (simp; done) | (simp; omega))).trans (by first | (simp (disch := first | omega | (simp; omega)) [World.cell?_alloc_past, *]; done) | (simp (disch := first | omega | (simp; omega)) [World.cell?_setCell_far, World.cell?_alloc_past, *]; done) | (simp (disch := first | omega | (simp; omega)) [World.cell?_alloc_past, *]; rfl) | (simp (disch := first | omega | (simp; omega)) [World.cell?_setCell_far, World.cell?_alloc_past, *]; rfl) | (simp [go_sem, *]; done) | (simp (disch := first | omega | (simp; omega) | (simp [go_sem, *]; done)) [go_sem, World.cell?_setCell_far, World.cell?_alloc_past, *]; done))
    have ex1 : ∀ Y, (ext WWx Y).cell? ⟨w.heap.size, 1, none⟩ = some (.int .u64 n.ad.hi) := by subst hWWx; intro Y; exact (ext_cell _ Y (by first | omega | (simp; done) | (simp; omega))).trans (by first | (simp (disch := first | omega | (simp; omega)) [World.cell?_alloc_past, *]; done) | (simp (disch := first | omega | (simp; omega)) [World.cell?_setCell_far, World.cell?_alloc_past, *]; done) | (simp (disch := first | omega | (simp; omega)) [World.cell?_alloc_past, *]; rfl) | (simp (disch := first | omega | (simp; omega)) [World.cell?_setCell_far, World.cell?_alloc_past, *]; rfl) | (simp [go_sem, *]; done) | (simp (disch := first | omega | (simp; omega) | (simp [go_sem, *]; done)) [go_sem, World.cell?_setCell_far, World.cell?_alloc_past, *]; done))
    have ex2 : ∀ Y, (ext WWx Y).cell? ⟨w.heap.size, 2, none⟩ = some (.int .u64 n.ad.lo) := by subst hWWx; intro Y; exact (ext_cell _ Y (by first | omega | (simp; done) | (simp; omega))).trans (by first | (simp (disch := first | omega | (simp; omega)) [World.cell?_alloc_past, *]; done) | (simp (disch := first | omega | (simp; omega)) [World.cell?_setCell_far, World.cell?_alloc_past, *]; done) | (simp (disch := first | omega | (simp; omega)) [World.cell?_alloc_past, *]; rfl) | (simp (disch := first | omega | (simp; omega)) [World.cell?_setCell_far, World.cell?_alloc_past, *]; rfl) | (simp [go_sem, *]; done) | (simp (disch := first | omega | (simp; omega) | (simp [go_sem, *]; done)) [go_sem, World.cell?_setCell_far, World.cell?_alloc_past, *]; done))
    have ex3 : ∀ Y, (ext WWx Y).cell? ⟨w.heap.size, 3, none⟩ = some (.int .i64 n.bits) := by subst hWWx; intro Y; exact (ext_cell _ Y (by first | omega | (simp; done) | (simp; omega))).trans (by first | (simp (disch := first | omega | (simp; omega)) [World.cell?_alloc_past, *]; done) | (simp (disch := first | omega | (simp; omega)) [World.cell?_setCell_far, World.cell?_alloc_past, *]; done) | (simp (disch := first | omega | (simp; omega)) [World.cell?_alloc_past, *]; rfl) | (simp (disch := first | omega | (simp; omega)) [World.cell?_setCell_far, World.cell?_alloc_past, *]; rfl) | (simp [go_sem, *]; done) | (simp (disch := first | omega | (simp; omega) | (simp [go_sem, *]; done)) [go_sem, World.cell?_setCell_far, World.cell?_alloc_past, *]; done))
    have bWx : Below w.heap.size w WWx := by subst hWWx; (repeat (first | assumption | exact Below.refl _ _ | refine Below.setCell ?_ (by first | omega | (simp; done) | (simp; omega)) _ | refine Below.alloc ?_ (by first | omega | (simp; done) | (simp; omega)) _ | refine Below.drew ?_ | (refine Below.trans ?_ (Below.mono (by assumption) (by first | omega | (simp; done) | (simp; omega))))))
    have lWx0 : w.heap.size < WWx.heap.size := by subst hWWx; first | omega | (simp; done) | (simp; omega)
    clear hWWx
    try simp only [List.append_eq, List.cons_append, List.nil_append]
    refine wp_region_ext (by kernel_rfl) (by kernel_rfl) ?_
    repeat (go_big_quiet_step ((first | (go_at_call 140; with_reducible exact qe (HR.out _)) | (go_at_call 138; with_reducible exact qe (HB.out _)))))
    refine wpQuiet_nil ?_
    intro _ hw'
    obtain ⟨x, hw''⟩ := hw'
    subst hw''
    have px0 := ex0 x
    have px1 := ex1 x
    have px2 := ex2 x
    have px3 := ex3 x
    clear ex0 ex1 ex2 ex3
    have bwx := bWx.trans ((ext_below WWx x).mono bWx.size)
    have zwx := bwx.size
    have zex := (ext_below WWx x).size
    go_wp2_with fail
    go_ret
    exact ⟨rfl, bwx⟩
  | true =>
    rw [hrr] at hR
    have HR := Lib.hid hR; clear hR
    by_cases h0 : n.bits < 0
    · have hz : r = false := by rw [← hr]; unfold ntRight; rw [decide_eq_false (show ¬ 0 ≤ n.bits from by omega)]; simp
      subst hz
      have hd0 : decide (n.bits < 0) = true := decide_eq_true h0
      clear hbits hr
      go_enter Try.func149, Try.ntmps149
      go_wp2_with fail
      go_name_world WWx hWWx
      have ex0 : ∀ Y, (ext WWx Y).cell? ⟨w.heap.size, 0, none⟩ = some (.bool n.ad.v6) := by subst hWWx; intro Y; exact (ext_cell _ Y (by first | omega | (simp; done) | (simp; omega))).trans (by first | (simp (disch := first | omega | (simp; omega)) [World.cell?_alloc_past, *]; done) | (simp (disch := first | omega | (simp; omega)) [World.cell?_setCell_far, World.cell?_alloc_past, *]; done) | (simp (disch := first | omega | (simp; omega)) [World.cell?_alloc_past, *]; rfl) | (simp (disch := first | omega | (simp; omega)) [World.cell?_setCell_far, World.cell?_alloc_past, *]; rfl) | (simp [go_sem, *]; done) | (simp (disch := first | omega | (simp; omega) | (simp [go_sem, *]; done)) [go_sem, World.cell?_setCell_far, World.cell?_alloc_past, *]; done))
      have ex1 : ∀ Y, (ext WWx Y).cell? ⟨w.heap.size, 1, none⟩ = some (.int .u64 n.ad.hi) := by subst hWWx; intro Y; exact (ext_cell _ Y (by first | omega | (simp; done) | (simp; omega))).trans (by first | (simp (disch := first | omega | (simp; omega)) [World.cell?_alloc_past, *]; done) | (simp (disch := first | omega | (simp; omega)) [World.cell?_setCell_far, World.cell?_alloc_past, *]; done) | (simp (disch := first | omega | (simp; omega)) [World.cell?_alloc_past, *]; rfl) | (simp (disch := first | omega | (simp; omega)) [World.cell?_setCell_far, World.cell?_alloc_past, *]; rfl) | (simp [go_sem, *]; done) | (simp (disch := first | omega | (simp; omega) | (simp [go_sem, *]; done)) [go_sem, World.cell?_setCell_far, World.cell?_alloc_past, *]; done))
      have ex2 : ∀ Y, (ext WWx Y).cell? ⟨w.heap.size, 2, none⟩ = some (.int .u64 n.ad.lo) := by subst hWWx; intro Y; exact (ext_cell _ Y (by first | omega | (simp; done) | (simp; omega))).trans (by first | (simp (disch := first | omega | (simp; omega)) [World.cell?_alloc_past, *]; done) | (simp (disch := first | omega | (simp; omega)) [World.cell?_setCell_far, World.cell?_alloc_past, *]; done) | (simp (disch := first | omega | (simp; omega)) [World.cell?_alloc_past, *]; rfl) | (simp (disch := first | omega | (simp; omega)) [World.cell?_setCell_far, World.cell?_alloc_past, *]; rfl) | (simp [go_sem, *]; done) | (simp (disch := first | omega | (simp; omega) | (simp [go_sem, *]; done)) [go_sem, World.cell?_setCell_far, World.cell?_alloc_past, *]; done))
      have ex3 : ∀ Y, (ext WWx Y).cell? ⟨w.heap.size, 3, none⟩ = some (.int .i64 n.bits) := by subst hWWx; intro Y; exact (ext_cell _ Y (by first | omega | (simp; done) | (simp; omega))).trans (by first | (simp (disch := first | omega | (simp; omega)) [World.cell?_alloc_past, *]; done) | (simp (disch := first | omega | (simp; omega)) [World.cell?_setCell_far, World.cell?_alloc_past, *]; done) | (simp (disch := first | omega | (simp; omega)) [World.cell?_alloc_past, *]; rfl) | (simp (disch := first | omega | (simp; omega)) [World.cell?_setCell_far, World.cell?_alloc_past, *]; rfl) | (simp [go_sem, *]; done) | (simp (disch := first | omega | (simp; omega) | (simp [go_sem, *]; done)) [go_sem, World.cell?_setCell_far, World.cell?_alloc_past, *]; done))
      have bWx : Below w.heap.size w WWx := by subst hWWx; (repeat (first | assumption | exact Below.refl _ _ | refine Below.setCell ?_ (by first | omega | (simp; done) | (simp; omega)) _ | refine Below.alloc ?_ (by first | omega | (simp; done) | (simp; omega)) _ | refine Below.drew ?_ | (refine Below.trans ?_ (Below.mono (by assumption) (by first | omega | (simp; done) | (simp; omega))))))
      have lWx0 : w.heap.size < WWx.heap.size := by subst hWWx; first | omega | (simp; done) | (simp; omega)
      clear hWWx
      try simp only [List.append_eq, List.cons_append, List.nil_append]
      refine wp_region_ext (by kernel_rfl) (by kernel_rfl) ?_
      repeat (go_big_quiet_step ((first | (go_at_call 140; with_reducible exact qe (HR.out _)) | (go_at_call 138; with_reducible exact qe (HB.out _)))))
      refine wpQuiet_nil ?_
      intro _ hw'
      obtain ⟨x, hw''⟩ := hw'
      subst hw''
      have px0 := ex0 x
      have px1 := ex1 x
      have px2 := ex2 x
      have px3 := ex3 x
      clear ex0 ex1 ex2 ex3
      have bwx := bWx.trans ((ext_below WWx x).mono bWx.size)
      have zwx := bwx.size
      have zex := (ext_below WWx x).size
      go_wp2_with fail
      go_ret
      exact ⟨rfl, bwx⟩
    have hd0 : decide (n.bits < 0) = false := decide_eq_false h0
    by_cases h1 : adBits n.ad < n.bits
    · have hz : r = false := by rw [← hr]; unfold ntRight; rw [decide_eq_false (show ¬ n.bits ≤ adBits n.ad from by omega)]; simp
      subst hz
      have hd1 : decide (adBits n.ad < n.bits) = true := decide_eq_true h1
      clear hbits hr
      go_enter Try.func149, Try.ntmps149
      go_wp2_with fail
      go_name_world WWx hWWx
      have ex0 : ∀ Y, (ext WWx Y).cell? ⟨w.heap.size, 0, none⟩ = some (.bool n.ad.v6) := by subst hWWx; intro Y; exact (ext_cell _ Y (by first | omega | (simp; done) | (simp; omega))).trans (by first | (simp (disch := first | omega | (simp; omega)) [World.cell?_alloc_past, *]; done) | (simp (disch := first | omega | (simp; omega)) [World.cell?_setCell_far, World.cell?_alloc_past, *]; done) | (simp (disch := first | omega | (simp; omega)) [World.cell?_alloc_past, *]; rfl) | (simp (disch := first | omega | (simp; omega)) [World.cell?_setCell_far, World.cell?_alloc_past, *]; rfl) | (simp [go_sem, *]; done) | (simp (disch := first | omega | (simp; omega) | (simp [go_sem, *]; done)) [go_sem, World.cell?_setCell_far, World.cell?_alloc_past, *]; done))
      have ex1 : ∀ Y, (ext WWx Y).cell? ⟨w.heap.size, 1, none⟩ = some (.int .u64 n.ad.hi) := by subst hWWx; intro Y; exact (ext_cell _ Y (by first | omega | (simp; done) | (simp; omega))).trans (by first | (simp (disch := first | omega | (simp; omega)) [World.cell?_alloc_past, *]; done) | (simp (disch := first | omega | (simp; omega)) [World.cell?_setCell_far, World.cell?_alloc_past, *]; done) | (simp (disch := first | omega | (simp; omega)) [World.cell?_alloc_past, *]; rfl) | (simp (disch := first | omega | (simp; omega)) [World.cell?_setCell_far, World.cell?_alloc_past, *]; rfl) | (simp [go_sem, *]; done) | (simp (disch := first | omega | (simp; omega) | (simp [go_sem, *]; done)) [go_sem, World.cell?_setCell_far, World.cell?_alloc_past, *]; done))
      have ex2 : ∀ Y, (ext WWx Y).cell? ⟨w.heap.size, 2, none⟩ = some (.int .u64 n.ad.lo) := by subst hWWx; intro Y; exact (ext_cell _ Y (by first | omega | (simp; done) | (simp; omega))).trans (by first | (simp (disch := first | omega | (simp; omega)) [World.cell?_alloc_past, *]; done) | (simp (disch := first | omega | (simp; omega)) [World.cell?_setCell_far, World.cell?_alloc_past, *]; done) | (simp (disch := first | omega | (simp; omega)) [World.cell?_alloc_past, *]; rfl) | (simp (disch := first | omega | (simp; omega)) [World.cell?_setCell_far, World.cell?_alloc_past, *]; rfl) | (simp [go_sem, *]; done) | (simp (disch := first | omega | (simp; omega) | (simp [go_sem, *]; done)) [go_sem, World.cell?_setCell_far, World.cell?_alloc_past, *]; done))
      have ex3 : ∀ Y, (ext WWx Y).cell? ⟨w.heap.size, 3, none⟩ = some (.int .i64 n.bits) := by subst hWWx; intro Y; exact (ext_cell _ Y (by first | omega | (simp; done) | (simp; omega))).trans (by first | (simp (disch := first | omega | (simp; omega)) [World.cell?_alloc_past, *]; done) | (simp (disch := first | omega | (simp; omega)) [World.cell?_setCell_far, World.cell?_alloc_past, *]; done) | (simp (disch := first | omega | (simp; omega)) [World.cell?_alloc_past, *]; rfl) | (simp (disch := first | omega | (simp; omega)) [World.cell?_setCell_far, World.cell?_alloc_past, *]; rfl) | (simp [go_sem, *]; done) | (simp (disch := first | omega | (simp; omega) | (simp [go_sem, *]; done)) [go_sem, World.cell?_setCell_far, World.cell?_alloc_past, *]; done))
      have bWx : Below w.heap.size w WWx := by subst hWWx; (repeat (first | assumption | exact Below.refl _ _ | refine Below.setCell ?_ (by first | omega | (simp; done) | (simp; omega)) _ | refine Below.alloc ?_ (by first | omega | (simp; done) | (simp; omega)) _ | refine Below.drew ?_ | (refine Below.trans ?_ (Below.mono (by assumption) (by first | omega | (simp; done) | (simp; omega))))))
      have lWx0 : w.heap.size < WWx.heap.size := by subst hWWx; first | omega | (simp; done) | (simp; omega)
      clear hWWx
      try simp only [List.append_eq, List.cons_append, List.nil_append]
      refine wp_region_ext (by kernel_rfl) (by kernel_rfl) ?_
      repeat (go_big_quiet_step ((first | (go_at_call 140; with_reducible exact qe (HR.out _)) | (go_at_call 138; with_reducible exact qe (HB.out _)))))
      refine wpQuiet_nil ?_
      intro _ hw'
      obtain ⟨x, hw''⟩ := hw'
      subst hw''
      have px0 := ex0 x
      have px1 := ex1 x
      have px2 := ex2 x
      have px3 := ex3 x
      clear ex0 ex1 ex2 ex3
      have bwx := bWx.trans ((ext_below WWx x).mono bWx.size)
      have zwx := bwx.size
      have zex := (ext_below WWx x).size
      go_wp2_with fail
      go_ret
      exact ⟨rfl, bwx⟩
    have hd1 : decide (adBits n.ad < n.bits) = false := decide_eq_false h1
    have HBITS := Lib.hid (hbits hrr (by omega) (by omega)); clear hbits hr
    generalize adBits n.ad = nb at *
    go_enter Try.func149, Try.ntmps149
    go_wp2_with fail
    go_name_world WWx hWWx
    have ex0 : ∀ Y, (ext WWx Y).cell? ⟨w.heap.size, 0, none⟩ = some (.bool n.ad.v6) := by subst hWWx; intro Y; exact (ext_cell _ Y (by first | omega | (simp; done) | (simp; omega))).trans (by first | (simp (disch := first | omega | (simp; omega)) [World.cell?_alloc_past, *]; done) | (simp (disch := first | omega | (simp; omega)) [World.cell?_setCell_far, World.cell?_alloc_past, *]; done) | (simp (disch := first | omega | (simp; omega)) [World.cell?_alloc_past, *]; rfl) | (simp (disch := first | omega | (simp; omega)) [World.cell?_setCell_far, World.cell?_alloc_past, *]; rfl) | (simp [go_sem, *]; done) | (simp (disch := first | omega | (simp; omega) | (simp [go_sem, *]; done)) [go_sem, World.cell?_setCell_far, World.cell?_alloc_past, *]; done))
    have ex1 : ∀ Y, (ext WWx Y).cell? ⟨w.heap.size, 1, none⟩ = some (.int .u64 n.ad.hi) := by subst hWWx; intro Y; exact (ext_cell _ Y (by first | omega | (simp; done) | (simp; omega))).trans (by first | (simp (disch := first | omega | (simp; omega)) [World.cell?_alloc_past, *]; done) | (simp (disch := first | omega | (simp; omega)) [World.cell?_setCell_far, World.cell?_alloc_past, *]; done) | (simp (disch := first | omega | (simp; omega)) [World.cell?_alloc_past, *]; rfl) | (simp (disch := first | omega | (simp; omega)) [World.cell?_setCell_far, World.cell?_alloc_past, *]; rfl) | (simp [go_sem, *]; done) | (simp (disch := first | omega | (simp; omega) | (simp [go_sem, *]; done)) [go_sem, World.cell?_setCell_far, World.cell?_alloc_past, *]; done))
    have ex2 : ∀ Y, (ext WWx Y).cell? ⟨w.heap.size, 2, none⟩ = some (.int .u64 n.ad.lo) := by subst hWWx; intro Y; exact (ext_cell _ Y (by first | omega | (simp; done) | (simp; omega))).trans (by first | (simp (disch := first | omega | (simp; omega)) [World.cell?_alloc_past, *]; done) | (simp (disch := first | omega | (simp; omega)) [World.cell?_setCell_far, World.cell?_alloc_past, *]; done) | (simp (disch := first | omega | (simp; omega)) [World.cell?_alloc_past, *]; rfl) | (simp (disch := first | omega | (simp; omega)) [World.cell?_setCell_far, World.cell?_alloc_past, *]; rfl) | (simp [go_sem, *]; done) | (simp (disch := first | omega | (simp; omega) | (simp [go_sem, *]; done)) [go_sem, World.cell?_setCell_far, World.cell?_alloc_past, *]; done))
    have ex3 : ∀ Y, (ext WWx Y).cell? ⟨w.heap.size, 3, none⟩ = some (.int .i64 n.bits) := by subst hWWx; intro Y; exact (ext_cell _ Y (by first | omega | (simp; done) | (simp; omega))).trans (by first | (simp (disch := first | omega | (simp; omega)) [World.cell?_alloc_past, *]; done) | (simp (disch := first | omega | (simp; omega)) [World.cell?_setCell_far, World.cell?_alloc_past, *]; done) | (simp (disch := first | omega | (simp; omega)) [World.cell?_alloc_past, *]; rfl) | (simp (disch := first | omega | (simp; omega)) [World.cell?_setCell_far, World.cell?_alloc_past, *]; rfl) | (simp [go_sem, *]; done) | (simp (disch := first | omega | (simp; omega) | (simp [go_sem, *]; done)) [go_sem, World.cell?_setCell_far, World.cell?_alloc_past, *]; done))
    have bWx : Below w.heap.size w WWx := by subst hWWx; (repeat (first | assumption | exact Below.refl _ _ | refine Below.setCell ?_ (by first | omega | (simp; done) | (simp; omega)) _ | refine Below.alloc ?_ (by first | omega | (simp; done) | (simp; omega)) _ | refine Below.drew ?_ | (refine Below.trans ?_ (Below.mono (by assumption) (by first | omega | (simp; done) | (simp; omega))))))
    have lWx0 : w.heap.size < WWx.heap.size := by subst hWWx; first | omega | (simp; done) | (simp; omega)
    clear hWWx
    try simp only [List.append_eq, List.cons_append, List.nil_append]
    refine wp_region_ext (by kernel_rfl) (by kernel_rfl) ?_
    repeat (go_big_quiet_step ((first | (go_at_call 140; with_reducible exact qe (HR.out _)) | (go_at_call 138; with_reducible exact qe (HB.out _)))))
    refine wpQuiet_nil ?_
    intro _ hw'
    obtain ⟨x, hw''⟩ := hw'
    subst hw''
    have px0 := ex0 x
    have px1 := ex1 x
    have px2 := ex2 x
    have px3 := ex3 x
    clear ex0 ex1 ex2 ex3
    have bwx := bWx.trans ((ext_below WWx x).mono bWx.size)
    have zwx := bwx.size
    have zex := (ext_below WWx x).size
    go_wp2_with fail
    obtain ⟨b0, hb0⟩ : ∃ b0 : Nat, n.bits = b0 := ⟨n.bits.toNat, by omega⟩
    have HB0 := Lib.hid hb0; clear hb0
    go_loopw [3] (fun i wr => ∃ k : Nat, i = .int .i64 k ∧ n.bits ≤ k ∧ (k : Int) ≤ nb ∧ Hid (noBits n.ad n.bits k = true) ∧ Below (ext WWx x).heap.size (ext WWx x) wr) (fun i _ => 128 - (intOf i).toNat)
    case atStart => have hb0 := HB0.out; exact ⟨b0, by rw [hb0], by omega, by omega, noBits_start _ _ _ (by omega), Below.refl _ _⟩
    case round =>
      obtain ⟨k, rfl, hk0, hk, HN, hb⟩ := hrel
      have p0 := keep hb (by omega) px0
      have p1 := keep hb (by omega) px1
      have p2 := keep hb (by omega) px2
      have zr := hb.size
      have bww := bwx.trans (hb.mono zwx)
      by_cases hlt : (k : Int) < nb
      · have hdl : decide ((k : Int) < nb) = true := decide_eq_true hlt
        have hBk := fun w => HBi.out k w
        rcases adBit_2 n.ad k with hv | hv
        · rw [show ((adBit n.ad k : Nat) : Int) = 0 from by rw [hv]; rfl] at hBk
          have HBk := Lib.hid hBk; clear hBk
          have HV := Lib.hid hv; clear hv
          go_wp2_with (first | (go_at_call 138; (with_reducible refine (HB.out _).mono ?_); rintro e w1 ⟨rfl, b1⟩; obtain ⟨c1, f1⟩ := bcell b1; have z1 := b1.size; (try simp at z1); have d1a := fun o => c1 (w.heap.size) o (by first | omega | (simp; done) | (simp; omega)); clear c1 f1) | (go_at_call 150; (with_reducible refine (HBk.out _).mono ?_); rintro e w2 ⟨rfl, b2⟩; obtain ⟨c2, f2⟩ := bcell b2; have z2 := b2.size; (try simp at z2); clear c2 f2))
          go_roundw
          case rel => exact ⟨k + 1, by go_num, by omega, by omega, noBits_good _ _ _ HN.out (by rw [HV.out]; omega), hb.trans ((b1.trans (b2.mono b1.size)).mono zr)⟩
          case measure => simp [intOf]; omega
        · rw [show ((adBit n.ad k : Nat) : Int) = 1 from by rw [hv]; rfl] at hBk
          have HBk := Lib.hid hBk; clear hBk
          have HV := Lib.hid hv; clear hv
          go_wp2_with (first | (go_at_call 138; (with_reducible refine (HB.out _).mono ?_); rintro e w1 ⟨rfl, b1⟩; obtain ⟨c1, f1⟩ := bcell b1; have z1 := b1.size; (try simp at z1); have d1a := fun o => c1 (w.heap.size) o (by first | omega | (simp; done) | (simp; omega)); clear c1 f1) | (go_at_call 150; (with_reducible refine (HBk.out _).mono ?_); rintro e w2 ⟨rfl, b2⟩; obtain ⟨c2, f2⟩ := bcell b2; have z2 := b2.size; (try simp at z2); clear c2 f2))
          go_ret
          refine ⟨ret_bool ?_, ?_⟩
          · rw [HBITS.out, noBits_bad _ _ k _ hk0 (by omega) HV.out]
          · (repeat (first | assumption | exact Below.refl _ _ | refine Below.setCell ?_ (by first | omega | (simp; done) | (simp; omega)) _ | refine Below.alloc ?_ (by first | omega | (simp; done) | (simp; omega)) _ | refine Below.drew ?_ | (refine Below.trans ?_ (Below.mono (by assumption) (by first | omega | (simp; done) | (simp; omega))))))
      · have hdl : decide ((k : Int) < nb) = false := decide_eq_false hlt
        go_wp2_with (first | (go_at_call 138; (with_reducible refine (HB.out _).mono ?_); rintro e w1 ⟨rfl, b1⟩; obtain ⟨c1, f1⟩ := bcell b1; have z1 := b1.size; (try simp at z1); have d1a := fun o => c1 (w.heap.size) o (by first | omega | (simp; done) | (simp; omega)); clear c1 f1))
        go_ret
        refine ⟨ret_bool ?_, ?_⟩
        · rw [HBITS.out, show nb.toNat = k from by omega, HN.out]
        · (repeat (first | assumption | exact Below.refl _ _ | refine Below.setCell ?_ (by first | omega | (simp; done) | (simp; omega)) _ | refine Below.alloc ?_ (by first | omega | (simp; done) | (simp; omega)) _ | refine Below.drew ?_ | (refine Below.trans ?_ (Below.mono (by assumption) (by first | omega | (simp; done) | (simp; omega))))))
end Go.Proofs.Ytppmjbnhghaffaa
/- Groups of addresses: plain laws; the contracts of subnets' texts and of groups. -/
namespace Go.Proofs.Ytppmjbnhghaffaa
open Go.RowKit
set_option linter.unusedSimpArgs false
set_option linter.unusedVariables false

theorem cut32 (x : Nat) : cutW 64 x 32 = x - x % 4294967296 := by
  unfold cutW; show x / 4294967296 * 4294967296 = _; omega
theorem cut16 (x : Nat) : cutW 32 x 16 = x - x % 65536 := by
  unfold cutW; show x / 65536 * 65536 = _; omega
theorem grBits_in (a : Ad) : 0 ≤ grBits a ∧ grBits a ≤ adBits a := by unfold grBits adBits; split <;> omega
theorem grOf_good (a : Ad) (h : adRight a = true) : grOf a = ⟨adMask a (grBits a), grBits a⟩ := by
  unfold grOf adMake; rw [if_pos ⟨h, grBits_in a⟩]
theorem grOf_bad (a : Ad) (h : adRight a = false) : grOf a = ⟨⟨false, 0, 0⟩, 0⟩ := by
  unfold grOf adMake; rw [if_neg (by rw [h]; simp)]
theorem grOf_6 (a : Ad) (hf : a.fits) (h : adRight a = true) (hv : a.v6 = true) : grOf a = ⟨⟨true, a.hi - a.hi % 4294967296, 0⟩, 32⟩ := by
  rw [grOf_good a h]
  have hb : grBits a = 32 := by unfold grBits; rw [if_pos hv]
  rw [hb]
  unfold adMask; rw [if_pos h, if_pos hv, clampB_in (by omega) (by rw [adBits_of hv]; omega)]
  show Nt.mk ⟨true, cutW 64 a.hi 32, cutW 64 a.lo 0⟩ 32 = _
  rw [cut32, cutW_none 64 a.lo hf.2]
theorem grOf_4 (a : Ad) (h : adRight a = true) (hv : a.v6 = false) : grOf a = ⟨⟨false, 0, a.lo - a.lo % 65536⟩, 16⟩ := by
  rw [grOf_good a h]
  have hb : grBits a = 16 := by unfold grBits; rw [if_neg (by rw [hv]; simp)]
  rw [hb]
  unfold adMask; rw [if_pos h, if_neg (by rw [hv]; simp), clampB_in (by omega) (by rw [adBits_of4 hv]; omega)]
  show Nt.mk ⟨false, 0, cutW 32 a.lo 16⟩ 16 = _
  rw [cut16]
theorem grOf_fits (a : Ad) (hf : a.fits) : (grOf a).ad.fits := by
  cases h : adRight a with
  | true => rw [grOf_good a h]; exact adMask_fits a _ hf
  | false => rw [grOf_bad a h]; exact ⟨by simp, by simp⟩
theorem grOf_right (a : Ad) (hf : a.fits) (h : adRight a = true) : ntRight (grOf a) = true := by
  refine adMake_right a (grBits a) hf ?_
  unfold adMake; rw [if_pos ⟨h, grBits_in a⟩]
theorem grOf_v6 (a : Ad) (h : adRight a = true) : (grOf a).ad.v6 = a.v6 := by
  rw [grOf_good a h]; exact adMask_v6 a _ h
def grSame (a b : Ad) : Bool := adRight a && (adRight b && decide (grOf a = grOf b))
theorem grBits_v6 {a b : Ad} (h : a.v6 = b.v6) : grBits a = grBits b := by unfold grBits; rw [h]
theorem grOf_iff (a b : Ad) (ha : adRight a = true) (hb : adRight b = true) : grOf a = grOf b ↔ a.v6 = b.v6 ∧ adMask a (grBits a) = adMask b (grBits a) := by
  constructor
  · intro h
    have hv : a.v6 = b.v6 := by rw [← grOf_v6 a ha, ← grOf_v6 b hb, h]
    refine ⟨hv, ?_⟩
    rw [grOf_good a ha, grOf_good b hb, ← grBits_v6 hv] at h
    exact congrArg Nt.ad h
  · intro ⟨hv, h⟩
    rw [grOf_good a ha, grOf_good b hb, ← grBits_v6 hv, h]
/-- the reference's way: bit by bit -/
theorem same_bits (a b : Ad) (fa : a.fits) (fb : b.fits) (ha : adRight a = true) (hb : adRight b = true) (hv : a.v6 = b.v6) : sameK a b (grBits a).toNat = decide (grOf a = grOf b) := by
  have hg := grBits_in b
  rw [← grBits_v6 hv] at hg
  have h1 := sameK_mask (adMask b (grBits a)) a (grBits a) (adMask_fits b _ fb) fa (adMask_right b _ fb hb) ha ((adMask_v6 b _ hb).trans hv.symm) hg.1 (by rw [adMask_bits b _ hb]; exact hg.2) (adMask_mask b _ fb hb)
  rw [Bool.eq_iff_iff, sameK_iff, decide_eq_true_iff, grOf_iff a b ha hb]
  rw [Bool.eq_iff_iff, sameK_iff, decide_eq_true_iff] at h1
  have e : (∀ j, j < (grBits a).toNat → adBit a (j : Int) = adBit b (j : Int)) ↔ (∀ j, j < (grBits a).toNat → adBit (adMask b (grBits a)) (j : Int) = adBit a (j : Int)) := by
    refine forall_congr' fun j => forall_congr' fun hj => ?_
    rw [adBit_mask b (grBits a) fb hb hg.1 hg.2 j (by omega), if_pos (by omega)]
    exact eq_comm
  rw [e, h1]
  exact ⟨fun h => ⟨hv, h⟩, fun h => h.2⟩
theorem ntHas_gr (a b : Ad) (fa : a.fits) (ha : adRight a = true) (hb : adRight b = true) : ntHas (grOf a) b = decide (grOf a = grOf b) := by
  unfold ntHas
  rw [grOf_right a fa ha, hb, grOf_v6 a ha]
  rw [Bool.eq_iff_iff, decide_eq_true_iff, grOf_iff a b ha hb, grOf_good a ha]
  simp only [Bool.true_and, Bool.and_eq_true, decide_eq_true_iff]
  exact ⟨fun h => ⟨h.1, h.2.symm⟩, fun h => ⟨h.1, h.2.symm⟩⟩

/-! ### the texts -/
theorem ntText_bad (n : Nt) (h : ntRight n = false) : ntText n = [] := by unfold ntText; rw [if_neg (by rw [h]; simp)]
end Go.Proofs.Ytppmjbnhghaffaa
/- The contracts of groups. -/
namespace Go.Proofs.Ytppmjbnhghaffaa
open Go.RowKit
set_option linter.unusedSimpArgs false
set_option linter.unusedVariables false

set_option maxRecDepth 100000 in
set_option maxHeartbeats 4000000 in
theorem refGrOf_any (a : Ad) (hf : a.fits) (w : World) : Calls Try.prog 173 #[.agg #[.bool a.v6, .int .u64 a.hi, .int .u64 a.lo]] w fun e w' => e = .returned (.agg #[.bool (grOf a).ad.v6, .int .u64 (grOf a).ad.hi, .int .u64 (grOf a).ad.lo, .int .i64 (grOf a).bits]) ∧ Below w.heap.size w w' := by
  have hR := fun w => refAdRight_any a hf w
  obtain ⟨h1, h2⟩ := hf
  obtain ⟨r, hr⟩ : ∃ r, grOf a = r := ⟨_, rfl⟩
  rw [hr]
  cases ha : adRight a with
  | false =>
    rw [ha] at hR
    rw [grOf_bad a ha] at hr
    subst hr
    have HR := Lib.hid hR; clear hR
    go_enter Try.func173, Try.ntmps173
    go_wp2_with (go_at_call 140; (with_reducible refine (HR.out _).mono ?_); rintro e w1 ⟨rfl, b1⟩; obtain ⟨c1, f1⟩ := bcell b1; have z1 := b1.size; (try simp at z1); have d1a := fun o => c1 (w.heap.size) o (by first | omega | (simp; done) | (simp; omega)); have q1a := fun o => f1 (w.heap.size) o (by first | omega | (simp; done) | (simp; omega)); have d1b := fun o => c1 (w.heap.size + 1) o (by first | omega | (simp; done) | (simp; omega)); have q1b := fun o => f1 (w.heap.size + 1) o (by first | omega | (simp; done) | (simp; omega)); clear c1 f1)
    refine bodyPost_ret (v := .agg #[.bool false, .int .u64 0, .int .u64 0, .int .i64 0]) (by simp [results, Try.results173, go_sem, *]) rfl ⟨rfl, ?_⟩
    (repeat (first | assumption | exact Below.refl _ _ | refine Below.setCell ?_ (by first | omega | (simp; done) | (simp; omega)) _ | refine Below.alloc ?_ (by first | omega | (simp; done) | (simp; omega)) _ | refine Below.drew ?_ | (refine Below.trans ?_ (Below.mono (by assumption) (by first | omega | (simp; done) | (simp; omega))))))
  | true =>
    rw [ha] at hR
    cases hv : a.v6 with
    | true =>
      rw [grOf_6 a ⟨h1, h2⟩ ha hv] at hr
      rw [hv] at hR
      subst hr
      have HR := Lib.hid hR; clear hR ha
      have hw : IntKind.u64.wrap ((a.hi : Int) - (a.hi : Int) % 4294967296) = ((a.hi - a.hi % 4294967296 : Nat) : Int) := by rw [IntWalk.u64_in _ (by omega)]; omega
      go_enter Try.func173, Try.ntmps173
      go_wp2_with (go_at_call 140; (with_reducible refine (HR.out _).mono ?_); rintro e w1 ⟨rfl, b1⟩; obtain ⟨c1, f1⟩ := bcell b1; have z1 := b1.size; (try simp at z1); have d1a := fun o => c1 (w.heap.size) o (by first | omega | (simp; done) | (simp; omega)); have q1a := fun o => f1 (w.heap.size) o (by first | omega | (simp; done) | (simp; omega)); have d1b := fun o => c1 (w.heap.size + 1) o (by first | omega | (simp; done) | (simp; omega)); have q1b := fun o => f1 (w.heap.size + 1) o (by first | omega | (simp; done) | (simp; omega)); clear c1 f1)
      refine bodyPost_ret (v := .agg #[.bool true, .int .u64 ((a.hi - a.hi % 4294967296 : Nat) : Int), .int .u64 0, .int .i64 32]) (by simp [results, Try.results173, go_sem, *]) rfl ⟨rfl, ?_⟩
      (repeat (first | assumption | exact Below.refl _ _ | refine Below.setCell ?_ (by first | omega | (simp; done) | (simp; omega)) _ | refine Below.alloc ?_ (by first | omega | (simp; done) | (simp; omega)) _ | refine Below.drew ?_ | (refine Below.trans ?_ (Below.mono (by assumption) (by first | omega | (simp; done) | (simp; omega))))))
    | false =>
      rw [grOf_4 a ha hv] at hr
      rw [hv] at hR
      subst hr
      have HR := Lib.hid hR; clear hR ha
      have hw : IntKind.u64.wrap ((a.lo : Int) - (a.lo : Int) % 65536) = ((a.lo - a.lo % 65536 : Nat) : Int) := by rw [IntWalk.u64_in _ (by omega)]; omega
      go_enter Try.func173, Try.ntmps173
      go_wp2_with (go_at_call 140; (with_reducible refine (HR.out _).mono ?_); rintro e w1 ⟨rfl, b1⟩; obtain ⟨c1, f1⟩ := bcell b1; have z1 := b1.size; (try simp at z1); have d1a := fun o => c1 (w.heap.size) o (by first | omega | (simp; done) | (simp; omega)); have q1a := fun o => f1 (w.heap.size) o (by first | omega | (simp; done) | (simp; omega)); have d1b := fun o => c1 (w.heap.size + 1) o (by first | omega | (simp; done) | (simp; omega)); have q1b := fun o => f1 (w.heap.size + 1) o (by first | omega | (simp; done) | (simp; omega)); clear c1 f1)
      refine bodyPost_ret (v := .agg #[.bool false, .int .u64 0, .int .u64 ((a.lo - a.lo % 65536 : Nat) : Int), .int .i64 16]) (by simp [results, Try.results173, go_sem, *]) rfl ⟨rfl, ?_⟩
      (repeat (first | assumption | exact Below.refl _ _ | refine Below.setCell ?_ (by first | omega | (simp; done) | (simp; omega)) _ | refine Below.alloc ?_ (by first | omega | (simp; done) | (simp; omega)) _ | refine Below.drew ?_ | (refine Below.trans ?_ (Below.mono (by assumption) (by first | omega | (simp; done) | (simp; omega))))))
end Go.Proofs.Ytppmjbnhghaffaa
