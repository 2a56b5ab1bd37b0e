/- Texts put together: NetD. No condition. -/
import Derived.Test.YtnohkfbapibmdaaGreatRdotuufeqcz
namespace Go.Proofs.YtnohkfbapibmdaaGreat
open Go.RowKit
set_option linter.unusedSimpArgs false
set_option linter.unusedVariables false

set_option maxRecDepth 100000 in
set_option maxHeartbeats 4000000 in
theorem refAdMask_any (a : Ad) (hf : a.fits) (n : Int) (w : World) : Calls Tryz.prog 83 #[.agg #[.bool a.v6, .int .u64 a.hi, .int .u64 a.lo], .int .i64 n] w fun e w' => e = .returned (.agg #[.bool (adMask a n).v6, .int .u64 (adMask a n).hi, .int .u64 (adMask a n).lo]) ∧ Below w.heap.size w w' := by
  have hR := fun w => refAdRight_any a hf w
  have hB := fun w => refAdBits_any a w
  obtain ⟨r, hm⟩ : ∃ r, adMask a n = r := ⟨_, rfl⟩
  have hk : (clampB a n : Int) = min (max n 0) (adBits a) := by unfold clampB; have : 0 ≤ adBits a := by { unfold adBits; split <;> omega }; omega
  rw [hm]
  unfold adMask at hm
  cases hr : adRight a with
  | false =>
    rw [hr] at hR
    rw [hr, if_neg (by simp)] at hm
    subst hm
    have HR := Lib.hid hR; clear hR hB hk
    go_enter Tryz.func83, Tryz.ntmps83
    go_wp2_with (go_at_call 28; (with_reducible refine (HR.out _).mono ?_); rintro e w1 ⟨rfl, b1⟩; obtain ⟨c1, f1⟩ := bcell b1; have z1 := b1.size; (try simp at z1); have d1a := fun o => c1 (w.heap.size) o (by first | omega | (simp; done) | (simp; omega)); have q1a := fun o => f1 (w.heap.size) o (by first | omega | (simp; done) | (simp; omega)); have d1b := fun o => c1 (w.heap.size + 1) o (by first | omega | (simp; done) | (simp; omega)); have q1b := fun o => f1 (w.heap.size + 1) o (by first | omega | (simp; done) | (simp; omega)); clear c1 f1)
    refine bodyPost_ret (v := .agg #[.bool false, .int .u64 0, .int .u64 0]) (by simp [results, Tryz.results83, go_sem, *]) rfl ⟨rfl, ?_⟩
    (repeat (first | assumption | exact Below.refl _ _ | refine Below.setCell ?_ (by first | omega | (simp; done) | (simp; omega)) _ | refine Below.alloc ?_ (by first | omega | (simp; done) | (simp; omega)) _ | refine Below.drew ?_ | (refine Below.trans ?_ (Below.mono (by assumption) (by first | omega | (simp; done) | (simp; omega))))))
  | true =>
    rw [hr] at hR
    rw [hr, if_pos rfl] at hm
    generalize clampB a n = K at *
    obtain ⟨h1, h2⟩ := hf
    cases hv : a.v6 with
    | true =>
      rw [hv, if_pos rfl] at hm
      rw [adBits_of hv] at hk hB
      rw [hv] at hR hB
      subst hm
      have HR := Lib.hid hR; have HB := Lib.hid hB; clear hR hB
      have hC := Lib.hid (fun (M : Int) (h : M = K) (w : World) => (by rw [h]; exact refCut_any a.hi a.lo K h1 h2 (by omega) w : Calls Tryz.prog 48 #[.int .u64 a.hi, .int .u64 a.lo, .int .i64 M] w fun e w' => e = .returned (.tuple #[.int .u64 (cutW 64 a.hi K : Nat), .int .u64 (cutW 64 a.lo (K - 64) : Nat)]) ∧ w = w'))
      rcases Int.lt_or_le n 0 with hn | hn
      · have HC := Lib.hid (hC.out 0 (by omega)); clear hC
        go_enter Tryz.func83, Tryz.ntmps83
        go_wp2_with (first | (go_at_call 28; (with_reducible refine (HR.out _).mono ?_); rintro e w1 ⟨rfl, b1⟩; obtain ⟨c1, f1⟩ := bcell b1; have z1 := b1.size; (try simp at z1); have d1a := fun o => c1 (w.heap.size) o (by first | omega | (simp; done) | (simp; omega)); have q1a := fun o => f1 (w.heap.size) o (by first | omega | (simp; done) | (simp; omega)); have d1b := fun o => c1 (w.heap.size + 1) o (by first | omega | (simp; done) | (simp; omega)); have q1b := fun o => f1 (w.heap.size + 1) o (by first | omega | (simp; done) | (simp; omega)); clear c1 f1) | (go_at_call 55; (with_reducible refine (HB.out _).mono ?_); rintro e w2 ⟨rfl, b2⟩; obtain ⟨c2, f2⟩ := bcell b2; have z2 := b2.size; (try simp at z2); have d2a := fun o => c2 (w.heap.size) o (by first | omega | (simp; done) | (simp; omega)); have q2a := fun o => f2 (w.heap.size) o (by first | omega | (simp; done) | (simp; omega)); have d2b := fun o => c2 (w.heap.size + 1) o (by first | omega | (simp; done) | (simp; omega)); have q2b := fun o => f2 (w.heap.size + 1) o (by first | omega | (simp; done) | (simp; omega)); clear c2 f2) | (go_at_call 48; (with_reducible refine (HC.out _).mono ?_); rintro e w3 ⟨rfl, rfl⟩))
        refine bodyPost_ret (v := .agg #[.bool true, .int .u64 (cutW 64 a.hi K : Nat), .int .u64 (cutW 64 a.lo (K - 64) : Nat)]) (by simp [results, Tryz.results83, go_sem, *]) rfl ⟨rfl, ?_⟩
        (repeat (first | assumption | exact Below.refl _ _ | refine Below.setCell ?_ (by first | omega | (simp; done) | (simp; omega)) _ | refine Below.alloc ?_ (by first | omega | (simp; done) | (simp; omega)) _ | refine Below.drew ?_ | (refine Below.trans ?_ (Below.mono (by assumption) (by first | omega | (simp; done) | (simp; omega))))))
      rcases Int.lt_or_le 128 n with hn2 | hn2
      · have HC := Lib.hid (hC.out 128 (by omega)); clear hC
        go_enter Tryz.func83, Tryz.ntmps83
        go_wp2_with (first | (go_at_call 28; (with_reducible refine (HR.out _).mono ?_); rintro e w1 ⟨rfl, b1⟩; obtain ⟨c1, f1⟩ := bcell b1; have z1 := b1.size; (try simp at z1); have d1a := fun o => c1 (w.heap.size) o (by first | omega | (simp; done) | (simp; omega)); have q1a := fun o => f1 (w.heap.size) o (by first | omega | (simp; done) | (simp; omega)); have d1b := fun o => c1 (w.heap.size + 1) o (by first | omega | (simp; done) | (simp; omega)); have q1b := fun o => f1 (w.heap.size + 1) o (by first | omega | (simp; done) | (simp; omega)); clear c1 f1) | (go_at_call 55; (with_reducible refine (HB.out _).mono ?_); rintro e w2 ⟨rfl, b2⟩; obtain ⟨c2, f2⟩ := bcell b2; have z2 := b2.size; (try simp at z2); have d2a := fun o => c2 (w.heap.size) o (by first | omega | (simp; done) | (simp; omega)); have q2a := fun o => f2 (w.heap.size) o (by first | omega | (simp; done) | (simp; omega)); have d2b := fun o => c2 (w.heap.size + 1) o (by first | omega | (simp; done) | (simp; omega)); have q2b := fun o => f2 (w.heap.size + 1) o (by first | omega | (simp; done) | (simp; omega)); clear c2 f2) | (go_at_call 48; (with_reducible refine (HC.out _).mono ?_); rintro e w3 ⟨rfl, rfl⟩))
        refine bodyPost_ret (v := .agg #[.bool true, .int .u64 (cutW 64 a.hi K : Nat), .int .u64 (cutW 64 a.lo (K - 64) : Nat)]) (by simp [results, Tryz.results83, go_sem, *]) rfl ⟨rfl, ?_⟩
        (repeat (first | assumption | exact Below.refl _ _ | refine Below.setCell ?_ (by first | omega | (simp; done) | (simp; omega)) _ | refine Below.alloc ?_ (by first | omega | (simp; done) | (simp; omega)) _ | refine Below.drew ?_ | (refine Below.trans ?_ (Below.mono (by assumption) (by first | omega | (simp; done) | (simp; omega))))))
      · have HC := Lib.hid (hC.out n (by omega)); clear hC
        go_enter Tryz.func83, Tryz.ntmps83
        go_wp2_with (first | (go_at_call 28; (with_reducible refine (HR.out _).mono ?_); rintro e w1 ⟨rfl, b1⟩; obtain ⟨c1, f1⟩ := bcell b1; have z1 := b1.size; (try simp at z1); have d1a := fun o => c1 (w.heap.size) o (by first | omega | (simp; done) | (simp; omega)); have q1a := fun o => f1 (w.heap.size) o (by first | omega | (simp; done) | (simp; omega)); have d1b := fun o => c1 (w.heap.size + 1) o (by first | omega | (simp; done) | (simp; omega)); have q1b := fun o => f1 (w.heap.size + 1) o (by first | omega | (simp; done) | (simp; omega)); clear c1 f1) | (go_at_call 55; (with_reducible refine (HB.out _).mono ?_); rintro e w2 ⟨rfl, b2⟩; obtain ⟨c2, f2⟩ := bcell b2; have z2 := b2.size; (try simp at z2); have d2a := fun o => c2 (w.heap.size) o (by first | omega | (simp; done) | (simp; omega)); have q2a := fun o => f2 (w.heap.size) o (by first | omega | (simp; done) | (simp; omega)); have d2b := fun o => c2 (w.heap.size + 1) o (by first | omega | (simp; done) | (simp; omega)); have q2b := fun o => f2 (w.heap.size + 1) o (by first | omega | (simp; done) | (simp; omega)); clear c2 f2) | (go_at_call 48; (with_reducible refine (HC.out _).mono ?_); rintro e w3 ⟨rfl, rfl⟩))
        refine bodyPost_ret (v := .agg #[.bool true, .int .u64 (cutW 64 a.hi K : Nat), .int .u64 (cutW 64 a.lo (K - 64) : Nat)]) (by simp [results, Tryz.results83, go_sem, *]) rfl ⟨rfl, ?_⟩
        (repeat (first | assumption | exact Below.refl _ _ | refine Below.setCell ?_ (by first | omega | (simp; done) | (simp; omega)) _ | refine Below.alloc ?_ (by first | omega | (simp; done) | (simp; omega)) _ | refine Below.drew ?_ | (refine Below.trans ?_ (Below.mono (by assumption) (by first | omega | (simp; done) | (simp; omega))))))
    | false =>
      rw [hv, if_neg (by simp)] at hm
      rw [adBits_of4 hv] at hk hB
      rw [hv] at hR hB
      unfold adRight at hr
      rw [hv, if_neg (by simp)] at hr
      obtain ⟨g1, g2⟩ := of_decide_eq_true hr
      clear g1 hr
      subst hm
      have HR := Lib.hid hR; have HB := Lib.hid hB; clear hR hB
      have hC := Lib.hid (fun (M : Int) (h : M = ((96 + K : Nat) : Int)) (w : World) => (by rw [h, show cutW 32 a.lo K = cutW 64 a.lo (96 + K - 64) from by unfold cutW; rw [show 64 - (96 + K - 64) = 32 - K from by omega]]; exact refCut_any 0 a.lo (96 + K) (by omega) h2 (by omega) w : Calls Tryz.prog 48 #[.int .u64 0, .int .u64 a.lo, .int .i64 M] w fun e w' => e = .returned (.tuple #[.int .u64 (cutW 64 0 (96 + K) : Nat), .int .u64 (cutW 32 a.lo K : Nat)]) ∧ w = w'))
      rcases Int.lt_or_le n 0 with hn | hn
      · have HC := Lib.hid (hC.out 96 (by omega)); clear hC
        go_enter Tryz.func83, Tryz.ntmps83
        go_wp2_with (first | (go_at_call 28; (with_reducible refine (HR.out _).mono ?_); rintro e w1 ⟨rfl, b1⟩; obtain ⟨c1, f1⟩ := bcell b1; have z1 := b1.size; (try simp at z1); have d1a := fun o => c1 (w.heap.size) o (by first | omega | (simp; done) | (simp; omega)); have q1a := fun o => f1 (w.heap.size) o (by first | omega | (simp; done) | (simp; omega)); have d1b := fun o => c1 (w.heap.size + 1) o (by first | omega | (simp; done) | (simp; omega)); have q1b := fun o => f1 (w.heap.size + 1) o (by first | omega | (simp; done) | (simp; omega)); clear c1 f1) | (go_at_call 55; (with_reducible refine (HB.out _).mono ?_); rintro e w2 ⟨rfl, b2⟩; obtain ⟨c2, f2⟩ := bcell b2; have z2 := b2.size; (try simp at z2); have d2a := fun o => c2 (w.heap.size) o (by first | omega | (simp; done) | (simp; omega)); have q2a := fun o => f2 (w.heap.size) o (by first | omega | (simp; done) | (simp; omega)); have d2b := fun o => c2 (w.heap.size + 1) o (by first | omega | (simp; done) | (simp; omega)); have q2b := fun o => f2 (w.heap.size + 1) o (by first | omega | (simp; done) | (simp; omega)); clear c2 f2) | (go_at_call 48; (with_reducible refine (HC.out _).mono ?_); rintro e w3 ⟨rfl, rfl⟩))
        refine bodyPost_ret (v := .agg #[.bool false, .int .u64 0, .int .u64 (cutW 32 a.lo K : Nat)]) (by simp [results, Tryz.results83, go_sem, *]) rfl ⟨rfl, ?_⟩
        (repeat (first | assumption | exact Below.refl _ _ | refine Below.setCell ?_ (by first | omega | (simp; done) | (simp; omega)) _ | refine Below.alloc ?_ (by first | omega | (simp; done) | (simp; omega)) _ | refine Below.drew ?_ | (refine Below.trans ?_ (Below.mono (by assumption) (by first | omega | (simp; done) | (simp; omega))))))
      rcases Int.lt_or_le 32 n with hn2 | hn2
      · have HC := Lib.hid (hC.out 128 (by omega)); clear hC
        go_enter Tryz.func83, Tryz.ntmps83
        go_wp2_with (first | (go_at_call 28; (with_reducible refine (HR.out _).mono ?_); rintro e w1 ⟨rfl, b1⟩; obtain ⟨c1, f1⟩ := bcell b1; have z1 := b1.size; (try simp at z1); have d1a := fun o => c1 (w.heap.size) o (by first | omega | (simp; done) | (simp; omega)); have q1a := fun o => f1 (w.heap.size) o (by first | omega | (simp; done) | (simp; omega)); have d1b := fun o => c1 (w.heap.size + 1) o (by first | omega | (simp; done) | (simp; omega)); have q1b := fun o => f1 (w.heap.size + 1) o (by first | omega | (simp; done) | (simp; omega)); clear c1 f1) | (go_at_call 55; (with_reducible refine (HB.out _).mono ?_); rintro e w2 ⟨rfl, b2⟩; obtain ⟨c2, f2⟩ := bcell b2; have z2 := b2.size; (try simp at z2); have d2a := fun o => c2 (w.heap.size) o (by first | omega | (simp; done) | (simp; omega)); have q2a := fun o => f2 (w.heap.size) o (by first | omega | (simp; done) | (simp; omega)); have d2b := fun o => c2 (w.heap.size + 1) o (by first | omega | (simp; done) | (simp; omega)); have q2b := fun o => f2 (w.heap.size + 1) o (by first | omega | (simp; done) | (simp; omega)); clear c2 f2) | (go_at_call 48; (with_reducible refine (HC.out _).mono ?_); rintro e w3 ⟨rfl, rfl⟩))
        refine bodyPost_ret (v := .agg #[.bool false, .int .u64 0, .int .u64 (cutW 32 a.lo K : Nat)]) (by simp [results, Tryz.results83, go_sem, *]) rfl ⟨rfl, ?_⟩
        (repeat (first | assumption | exact Below.refl _ _ | refine Below.setCell ?_ (by first | omega | (simp; done) | (simp; omega)) _ | refine Below.alloc ?_ (by first | omega | (simp; done) | (simp; omega)) _ | refine Below.drew ?_ | (refine Below.trans ?_ (Below.mono (by assumption) (by first | omega | (simp; done) | (simp; omega))))))
      · have HC := Lib.hid (hC.out (96 + n) (by omega)); clear hC
        go_enter Tryz.func83, Tryz.ntmps83
        go_wp2_with (first | (go_at_call 28; (with_reducible refine (HR.out _).mono ?_); rintro e w1 ⟨rfl, b1⟩; obtain ⟨c1, f1⟩ := bcell b1; have z1 := b1.size; (try simp at z1); have d1a := fun o => c1 (w.heap.size) o (by first | omega | (simp; done) | (simp; omega)); have q1a := fun o => f1 (w.heap.size) o (by first | omega | (simp; done) | (simp; omega)); have d1b := fun o => c1 (w.heap.size + 1) o (by first | omega | (simp; done) | (simp; omega)); have q1b := fun o => f1 (w.heap.size + 1) o (by first | omega | (simp; done) | (simp; omega)); clear c1 f1) | (go_at_call 55; (with_reducible refine (HB.out _).mono ?_); rintro e w2 ⟨rfl, b2⟩; obtain ⟨c2, f2⟩ := bcell b2; have z2 := b2.size; (try simp at z2); have d2a := fun o => c2 (w.heap.size) o (by first | omega | (simp; done) | (simp; omega)); have q2a := fun o => f2 (w.heap.size) o (by first | omega | (simp; done) | (simp; omega)); have d2b := fun o => c2 (w.heap.size + 1) o (by first | omega | (simp; done) | (simp; omega)); have q2b := fun o => f2 (w.heap.size + 1) o (by first | omega | (simp; done) | (simp; omega)); clear c2 f2) | (go_at_call 48; (with_reducible refine (HC.out _).mono ?_); rintro e w3 ⟨rfl, rfl⟩))
        refine bodyPost_ret (v := .agg #[.bool false, .int .u64 0, .int .u64 (cutW 32 a.lo K : Nat)]) (by simp [results, Tryz.results83, go_sem, *]) rfl ⟨rfl, ?_⟩
        (repeat (first | assumption | exact Below.refl _ _ | refine Below.setCell ?_ (by first | omega | (simp; done) | (simp; omega)) _ | refine Below.alloc ?_ (by first | omega | (simp; done) | (simp; omega)) _ | refine Below.drew ?_ | (refine Below.trans ?_ (Below.mono (by assumption) (by first | omega | (simp; done) | (simp; omega))))))
end Go.Proofs.YtnohkfbapibmdaaGreat
