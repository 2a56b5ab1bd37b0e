/- Texts put together: PeerT. No condition. -/
import Derived.Test.YtppmjbnhghaffaaRnpigjvhslh
namespace Go.Proofs.Ytppmjbnhghaffaa
open Go.RowKit
set_option linter.unusedSimpArgs false
set_option linter.unusedVariables false

set_option maxRecDepth 100000 in
set_option maxHeartbeats 8000000 in
theorem peRight_any (p : Pe) (hf : p.en.ad.fits) (w : World) : Calls Try.prog 108 #[.agg #[.bool p.en.ad.v6, .int .u64 p.en.ad.hi, .int .u64 p.en.ad.lo, .int .i64 p.en.port, .bool p.came, .int .i64 p.since, .int .i64 p.pts, .int .i64 p.at_, .int .i64 p.ping, .int .i64 p.work]] w fun r w' => r = .returned (.bool (peRight p)) ∧ Below w.heap.size w w' := by
  have hR := fun w => enRight_any p.en hf w
  have h1 := Lib.hid (fun w => within_any p.since 1099511627776 w)
  have h2 := Lib.hid (fun w => within_any p.at_ 1099511627776 w)
  have h3 := Lib.hid (fun w => within_any p.work 1099511627776 w)
  have h4 := Lib.hid (fun w => within_any p.pts 1099511627776 w)
  have h5 := Lib.hid (fun w => within_any p.ping 1048576 w)
  unfold peRight
  generalize enRight p.en = b0 at *
  generalize withinB p.since 1099511627776 = b1 at *
  generalize withinB p.at_ 1099511627776 = b2 at *
  generalize withinB p.work 1099511627776 = b3 at *
  generalize withinB p.pts 1099511627776 = b4 at *
  generalize withinB p.ping 1048576 = b5 at *
  have HR := Lib.hid hR; clear hR
  cases b0
  case true =>
    cases b1
    case true =>
      cases b2
      case true =>
        cases b3
        case true =>
          cases b4
          all_goals
            go_enter Try.func108, Try.ntmps108
            go_wp2_with (first | (go_at_call 142; (with_reducible refine (HR.out _).mono ?_); rintro e w1 ⟨rfl, b1⟩; obtain ⟨c1, f1⟩ := bcell b1; have z1 := b1.size; (try simp at z1); have d1a := fun o => c1 (w.heap.size) o (by first | omega | (simp; done) | (simp; omega)); clear c1 f1) | (go_at_call 143; (with_reducible refine (h1.out _).mono ?_); rintro e w2 ⟨rfl, rfl⟩) | (go_at_call 143; (with_reducible refine (h2.out _).mono ?_); rintro e w2 ⟨rfl, rfl⟩) | (go_at_call 143; (with_reducible refine (h3.out _).mono ?_); rintro e w2 ⟨rfl, rfl⟩) | (go_at_call 143; (with_reducible refine (h4.out _).mono ?_); rintro e w2 ⟨rfl, rfl⟩) | (go_at_call 143; (with_reducible refine (h5.out _).mono ?_); rintro e w2 ⟨rfl, rfl⟩))
            go_ret
            refine ⟨rfl, ?_⟩
            (repeat (first | assumption | exact Below.refl _ _ | refine Below.setCell ?_ (by first | omega | (simp; done) | (simp; omega)) _ | refine Below.alloc ?_ (by first | omega | (simp; done) | (simp; omega)) _ | refine Below.drew ?_ | (refine Below.trans ?_ (Below.mono (by assumption) (by first | omega | (simp; done) | (simp; omega))))))
        all_goals
          go_enter Try.func108, Try.ntmps108
          go_wp2_with (first | (go_at_call 142; (with_reducible refine (HR.out _).mono ?_); rintro e w1 ⟨rfl, b1⟩; obtain ⟨c1, f1⟩ := bcell b1; have z1 := b1.size; (try simp at z1); have d1a := fun o => c1 (w.heap.size) o (by first | omega | (simp; done) | (simp; omega)); clear c1 f1) | (go_at_call 143; (with_reducible refine (h1.out _).mono ?_); rintro e w2 ⟨rfl, rfl⟩) | (go_at_call 143; (with_reducible refine (h2.out _).mono ?_); rintro e w2 ⟨rfl, rfl⟩) | (go_at_call 143; (with_reducible refine (h3.out _).mono ?_); rintro e w2 ⟨rfl, rfl⟩))
          go_ret
          refine ⟨rfl, ?_⟩
          (repeat (first | assumption | exact Below.refl _ _ | refine Below.setCell ?_ (by first | omega | (simp; done) | (simp; omega)) _ | refine Below.alloc ?_ (by first | omega | (simp; done) | (simp; omega)) _ | refine Below.drew ?_ | (refine Below.trans ?_ (Below.mono (by assumption) (by first | omega | (simp; done) | (simp; omega))))))
      all_goals
        go_enter Try.func108, Try.ntmps108
        go_wp2_with (first | (go_at_call 142; (with_reducible refine (HR.out _).mono ?_); rintro e w1 ⟨rfl, b1⟩; obtain ⟨c1, f1⟩ := bcell b1; have z1 := b1.size; (try simp at z1); have d1a := fun o => c1 (w.heap.size) o (by first | omega | (simp; done) | (simp; omega)); clear c1 f1) | (go_at_call 143; (with_reducible refine (h1.out _).mono ?_); rintro e w2 ⟨rfl, rfl⟩) | (go_at_call 143; (with_reducible refine (h2.out _).mono ?_); rintro e w2 ⟨rfl, rfl⟩))
        go_ret
        refine ⟨rfl, ?_⟩
        (repeat (first | assumption | exact Below.refl _ _ | refine Below.setCell ?_ (by first | omega | (simp; done) | (simp; omega)) _ | refine Below.alloc ?_ (by first | omega | (simp; done) | (simp; omega)) _ | refine Below.drew ?_ | (refine Below.trans ?_ (Below.mono (by assumption) (by first | omega | (simp; done) | (simp; omega))))))
    all_goals
      go_enter Try.func108, Try.ntmps108
      go_wp2_with (first | (go_at_call 142; (with_reducible refine (HR.out _).mono ?_); rintro e w1 ⟨rfl, b1⟩; obtain ⟨c1, f1⟩ := bcell b1; have z1 := b1.size; (try simp at z1); have d1a := fun o => c1 (w.heap.size) o (by first | omega | (simp; done) | (simp; omega)); clear c1 f1) | (go_at_call 143; (with_reducible refine (h1.out _).mono ?_); rintro e w2 ⟨rfl, rfl⟩))
      go_ret
      refine ⟨rfl, ?_⟩
      (repeat (first | assumption | exact Below.refl _ _ | refine Below.setCell ?_ (by first | omega | (simp; done) | (simp; omega)) _ | refine Below.alloc ?_ (by first | omega | (simp; done) | (simp; omega)) _ | refine Below.drew ?_ | (refine Below.trans ?_ (Below.mono (by assumption) (by first | omega | (simp; done) | (simp; omega))))))
  all_goals
    go_enter Try.func108, Try.ntmps108
    go_wp2_with (first | (go_at_call 142; (with_reducible refine (HR.out _).mono ?_); rintro e w1 ⟨rfl, b1⟩; obtain ⟨c1, f1⟩ := bcell b1; have z1 := b1.size; (try simp at z1); have d1a := fun o => c1 (w.heap.size) o (by first | omega | (simp; done) | (simp; omega)); clear c1 f1))
    go_ret
    refine ⟨rfl, ?_⟩
    (repeat (first | assumption | exact Below.refl _ _ | refine Below.setCell ?_ (by first | omega | (simp; done) | (simp; omega)) _ | refine Below.alloc ?_ (by first | omega | (simp; done) | (simp; omega)) _ | refine Below.drew ?_ | (refine Below.trans ?_ (Below.mono (by assumption) (by first | omega | (simp; done) | (simp; omega))))))
set_option maxRecDepth 100000 in
set_option maxHeartbeats 8000000 in
theorem refPeRight_any (p : Pe) (hf : p.en.ad.fits) (w : World) : Calls Try.prog 59 #[.agg #[.bool p.en.ad.v6, .int .u64 p.en.ad.hi, .int .u64 p.en.ad.lo, .int .i64 p.en.port, .bool p.came, .int .i64 p.since, .int .i64 p.pts, .int .i64 p.at_, .int .i64 p.ping, .int .i64 p.work]] w fun r w' => r = .returned (.bool (peRight p)) ∧ Below w.heap.size w w' := by
  have hR := fun w => refEnRight_any p.en hf w
  have k : ∀ n m : Int, (withinB n m = false ∧ decide (n < 0) = true ∧ decide (0 ≤ n) = false) ∨ (withinB n m = false ∧ decide (n < 0) = false ∧ decide (0 ≤ n) = true ∧ decide (m < n) = true ∧ decide (n ≤ m) = false) ∨ (withinB n m = true ∧ decide (n < 0) = false ∧ decide (0 ≤ n) = true ∧ decide (m < n) = false ∧ decide (n ≤ m) = true) := fun n m => by
    unfold withinB
    by_cases h1 : n < 0
    · exact Or.inl ⟨by rw [decide_eq_false (by omega)]; rfl, decide_eq_true h1, decide_eq_false (by omega)⟩
    · by_cases h2 : m < n
      · exact Or.inr (Or.inl ⟨by rw [decide_eq_false (p := n ≤ m) (by omega)]; simp, decide_eq_false h1, decide_eq_true (by omega), decide_eq_true h2, decide_eq_false (by omega)⟩)
      · exact Or.inr (Or.inr ⟨by rw [decide_eq_true (p := n ≤ m) (by omega), decide_eq_true (p := 0 ≤ n) (by omega)]; rfl, decide_eq_false h1, decide_eq_true (by omega), decide_eq_false h2, decide_eq_true (by omega)⟩)
  have k1 := k p.since 1099511627776; have k2 := k p.at_ 1099511627776; have k3 := k p.work 1099511627776; have k4 := k p.pts 1099511627776; have k5 := k p.ping 1048576
  unfold peRight
  generalize enRight p.en = b0 at *
  have HR := Lib.hid hR; clear hR k
  cases b0
  case false =>
    clear k1 k2 k3 k4 k5
    go_enter Try.func59, Try.ntmps59
    go_wp2_with (first | (go_at_call 105; (with_reducible refine (HR.out _).mono ?_); rintro e w1 ⟨rfl, b1⟩; obtain ⟨c1, f1⟩ := bcell b1; have z1 := b1.size; (try simp at z1); have d1a := fun o => c1 (w.heap.size) o (by first | omega | (simp; done) | (simp; omega)); clear c1 f1))
    go_ret
    refine ⟨rfl, ?_⟩
    (repeat (first | assumption | exact Below.refl _ _ | refine Below.setCell ?_ (by first | omega | (simp; done) | (simp; omega)) _ | refine Below.alloc ?_ (by first | omega | (simp; done) | (simp; omega)) _ | refine Below.drew ?_ | (refine Below.trans ?_ (Below.mono (by assumption) (by first | omega | (simp; done) | (simp; omega))))))
  case true =>
    rcases k1 with ⟨e1, d1, d2⟩ | ⟨e1, d1, d2, d3, d4⟩ | ⟨e1, d1, d2, d3, d4⟩ <;> rw [e1] <;> clear e1
    case inr.inr =>
      rcases k2 with ⟨e1, f1, f2⟩ | ⟨e1, f1, f2, f3, f4⟩ | ⟨e1, f1, f2, f3, f4⟩ <;> rw [e1] <;> clear e1
      case inr.inr =>
        rcases k3 with ⟨e1, g1, g2⟩ | ⟨e1, g1, g2, g3, g4⟩ | ⟨e1, g1, g2, g3, g4⟩ <;> rw [e1] <;> clear e1
        case inr.inr =>
          rcases k4 with ⟨e1, h1, h2⟩ | ⟨e1, h1, h2, h3, h4⟩ | ⟨e1, h1, h2, h3, h4⟩ <;> rw [e1] <;> clear e1
          case inr.inr =>
            rcases k5 with ⟨e1, i1, i2⟩ | ⟨e1, i1, i2, i3, i4⟩ | ⟨e1, i1, i2, i3, i4⟩ <;> rw [e1] <;> clear e1
            all_goals
              go_enter Try.func59, Try.ntmps59
              go_wp2_with (first | (go_at_call 105; (with_reducible refine (HR.out _).mono ?_); rintro e w1 ⟨rfl, b1⟩; obtain ⟨c1, f1⟩ := bcell b1; have z1 := b1.size; (try simp at z1); have d1a := fun o => c1 (w.heap.size) o (by first | omega | (simp; done) | (simp; omega)); clear c1 f1))
              go_ret
              refine ⟨rfl, ?_⟩
              (repeat (first | assumption | exact Below.refl _ _ | refine Below.setCell ?_ (by first | omega | (simp; done) | (simp; omega)) _ | refine Below.alloc ?_ (by first | omega | (simp; done) | (simp; omega)) _ | refine Below.drew ?_ | (refine Below.trans ?_ (Below.mono (by assumption) (by first | omega | (simp; done) | (simp; omega))))))
          all_goals
            clear k5
            go_enter Try.func59, Try.ntmps59
            go_wp2_with (first | (go_at_call 105; (with_reducible refine (HR.out _).mono ?_); rintro e w1 ⟨rfl, b1⟩; obtain ⟨c1, f1⟩ := bcell b1; have z1 := b1.size; (try simp at z1); have d1a := fun o => c1 (w.heap.size) o (by first | omega | (simp; done) | (simp; omega)); clear c1 f1))
            go_ret
            refine ⟨rfl, ?_⟩
            (repeat (first | assumption | exact Below.refl _ _ | refine Below.setCell ?_ (by first | omega | (simp; done) | (simp; omega)) _ | refine Below.alloc ?_ (by first | omega | (simp; done) | (simp; omega)) _ | refine Below.drew ?_ | (refine Below.trans ?_ (Below.mono (by assumption) (by first | omega | (simp; done) | (simp; omega))))))
        all_goals
          clear k4 k5
          go_enter Try.func59, Try.ntmps59
          go_wp2_with (first | (go_at_call 105; (with_reducible refine (HR.out _).mono ?_); rintro e w1 ⟨rfl, b1⟩; obtain ⟨c1, f1⟩ := bcell b1; have z1 := b1.size; (try simp at z1); have d1a := fun o => c1 (w.heap.size) o (by first | omega | (simp; done) | (simp; omega)); clear c1 f1))
          go_ret
          refine ⟨rfl, ?_⟩
          (repeat (first | assumption | exact Below.refl _ _ | refine Below.setCell ?_ (by first | omega | (simp; done) | (simp; omega)) _ | refine Below.alloc ?_ (by first | omega | (simp; done) | (simp; omega)) _ | refine Below.drew ?_ | (refine Below.trans ?_ (Below.mono (by assumption) (by first | omega | (simp; done) | (simp; omega))))))
      all_goals
        clear k3 k4 k5
        go_enter Try.func59, Try.ntmps59
        go_wp2_with (first | (go_at_call 105; (with_reducible refine (HR.out _).mono ?_); rintro e w1 ⟨rfl, b1⟩; obtain ⟨c1, f1⟩ := bcell b1; have z1 := b1.size; (try simp at z1); have d1a := fun o => c1 (w.heap.size) o (by first | omega | (simp; done) | (simp; omega)); clear c1 f1))
        go_ret
        refine ⟨rfl, ?_⟩
        (repeat (first | assumption | exact Below.refl _ _ | refine Below.setCell ?_ (by first | omega | (simp; done) | (simp; omega)) _ | refine Below.alloc ?_ (by first | omega | (simp; done) | (simp; omega)) _ | refine Below.drew ?_ | (refine Below.trans ?_ (Below.mono (by assumption) (by first | omega | (simp; done) | (simp; omega))))))
    all_goals
      clear k2 k3 k4 k5
      go_enter Try.func59, Try.ntmps59
      go_wp2_with (first | (go_at_call 105; (with_reducible refine (HR.out _).mono ?_); rintro e w1 ⟨rfl, b1⟩; obtain ⟨c1, f1⟩ := bcell b1; have z1 := b1.size; (try simp at z1); have d1a := fun o => c1 (w.heap.size) o (by first | omega | (simp; done) | (simp; omega)); clear c1 f1))
      go_ret
      refine ⟨rfl, ?_⟩
      (repeat (first | assumption | exact Below.refl _ _ | refine Below.setCell ?_ (by first | omega | (simp; done) | (simp; omega)) _ | refine Below.alloc ?_ (by first | omega | (simp; done) | (simp; omega)) _ | refine Below.drew ?_ | (refine Below.trans ?_ (Below.mono (by assumption) (by first | omega | (simp; done) | (simp; omega))))))
end Go.Proofs.Ytppmjbnhghaffaa
