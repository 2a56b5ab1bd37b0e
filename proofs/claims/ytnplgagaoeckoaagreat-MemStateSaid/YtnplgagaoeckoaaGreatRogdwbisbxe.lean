/- Texts put together: PeerT. No condition. -/
import Derived.Test.YtnplgagaoeckoaaGreatRanpeybqetz
import Derived.Test.YtnplgagaoeckoaaGreatRjfjqandfij
import Derived.Test.YtnplgagaoeckoaaGreatRfwnkgoffnn
import Derived.Test.YtnplgagaoeckoaaGreatRhdezyeoumd
import Derived.Test.YtnplgagaoeckoaaGreatRkuomsxsqlb
import Derived.Test.YtnplgagaoeckoaaGreatRiqzrrrcefq
import Derived.Test.YtnplgagaoeckoaaGreatRpoqwmuhffv
import Derived.LoopTactic
import Derived.Test.YtnplgagaoeckoaaGreatRows
import Derived.RegionTactic
import Derived.BigRegion
import Derived.Deep.RegionWith
import Derived.IntWalk
import Derived.Lib.ItoaWalk
import Derived.Handy
import Derived.Deep.RegionHeld3
import Derived.BigGuardPart
namespace Go.Proofs.YtnplgagaoeckoaaGreat
open Go.RowKit
set_option linter.unusedSimpArgs false
set_option linter.unusedVariables false

set_option maxRecDepth 100000 in
set_option maxHeartbeats 8000000 in
theorem refPeRight_any (p : Pe) (hf : p.en.ad.fits) (w : World) : Calls Tryz.prog 86 #[.agg #[.bool p.en.ad.v6, .int .u64 p.en.ad.hi, .int .u64 p.en.ad.lo, .int .i64 p.en.port, .bool p.came, .int .i64 p.since, .int .i64 p.pts, .int .i64 p.at_, .int .i64 p.ping, .int .i64 p.work]] w fun r w' => r = .returned (.bool (peRight p)) ∧ Below w.heap.size w w' := by
  have hR := fun w => refEnRight_any p.en hf w
  have k : ∀ n m : Int, (withinB n m = false ∧ decide (n < 0) = true ∧ decide (0 ≤ n) = false) ∨ (withinB n m = false ∧ decide (n < 0) = false ∧ decide (0 ≤ n) = true ∧ decide (m < n) = true ∧ decide (n ≤ m) = false) ∨ (withinB n m = true ∧ decide (n < 0) = false ∧ decide (0 ≤ n) = true ∧ decide (m < n) = false ∧ decide (n ≤ m) = true) := fun n m => by
    unfold withinB
    by_cases h1 : n < 0
    · exact Or.inl ⟨by rw [decide_eq_false (by omega)]; rfl, decide_eq_true h1, decide_eq_false (by omega)⟩
    · by_cases h2 : m < n
      · exact Or.inr (Or.inl ⟨by rw [decide_eq_false (p := n ≤ m) (by omega)]; simp, decide_eq_false h1, decide_eq_true (by omega), decide_eq_true h2, decide_eq_false (by omega)⟩)
      · exact Or.inr (Or.inr ⟨by rw [decide_eq_true (p := n ≤ m) (by omega), decide_eq_true (p := 0 ≤ n) (by omega)]; rfl, decide_eq_false h1, decide_eq_true (by omega), decide_eq_false h2, decide_eq_true (by omega)⟩)
  have k1 := k p.since 1099511627776; have k2 := k p.at_ 1099511627776; have k3 := k p.work 1099511627776; have k4 := k p.pts 1099511627776; have k5 := k p.ping 1048576
  unfold peRight
  generalize enRight p.en = b0 at *
  have HR := Lib.hid hR; clear hR k
  cases b0
  case false =>
    clear k1 k2 k3 k4 k5
    go_enter Tryz.func86, Tryz.ntmps86
    go_wp2_with (first | (go_at_call 105; (with_reducible refine (HR.out _).mono ?_); rintro e w1 ⟨rfl, b1⟩; obtain ⟨c1, f1⟩ := bcell b1; have z1 := b1.size; (try simp at z1); have d1a := fun o => c1 (w.heap.size) o (by first | omega | (simp; done) | (simp; omega)); clear c1 f1))
    go_ret
    refine ⟨rfl, ?_⟩
    (repeat (first | assumption | exact Below.refl _ _ | refine Below.setCell ?_ (by first | omega | (simp; done) | (simp; omega)) _ | refine Below.alloc ?_ (by first | omega | (simp; done) | (simp; omega)) _ | refine Below.drew ?_ | (refine Below.trans ?_ (Below.mono (by assumption) (by first | omega | (simp; done) | (simp; omega))))))
  case true =>
    rcases k1 with ⟨e1, d1, d2⟩ | ⟨e1, d1, d2, d3, d4⟩ | ⟨e1, d1, d2, d3, d4⟩ <;> rw [e1] <;> clear e1
    case inr.inr =>
      rcases k2 with ⟨e1, f1, f2⟩ | ⟨e1, f1, f2, f3, f4⟩ | ⟨e1, f1, f2, f3, f4⟩ <;> rw [e1] <;> clear e1
      case inr.inr =>
        rcases k3 with ⟨e1, g1, g2⟩ | ⟨e1, g1, g2, g3, g4⟩ | ⟨e1, g1, g2, g3, g4⟩ <;> rw [e1] <;> clear e1
        case inr.inr =>
          rcases k4 with ⟨e1, h1, h2⟩ | ⟨e1, h1, h2, h3, h4⟩ | ⟨e1, h1, h2, h3, h4⟩ <;> rw [e1] <;> clear e1
          case inr.inr =>
            rcases k5 with ⟨e1, i1, i2⟩ | ⟨e1, i1, i2, i3, i4⟩ | ⟨e1, i1, i2, i3, i4⟩ <;> rw [e1] <;> clear e1
            all_goals
              go_enter Tryz.func86, Tryz.ntmps86
              go_wp2_with (first | (go_at_call 105; (with_reducible refine (HR.out _).mono ?_); rintro e w1 ⟨rfl, b1⟩; obtain ⟨c1, f1⟩ := bcell b1; have z1 := b1.size; (try simp at z1); have d1a := fun o => c1 (w.heap.size) o (by first | omega | (simp; done) | (simp; omega)); clear c1 f1))
              go_ret
              refine ⟨rfl, ?_⟩
              (repeat (first | assumption | exact Below.refl _ _ | refine Below.setCell ?_ (by first | omega | (simp; done) | (simp; omega)) _ | refine Below.alloc ?_ (by first | omega | (simp; done) | (simp; omega)) _ | refine Below.drew ?_ | (refine Below.trans ?_ (Below.mono (by assumption) (by first | omega | (simp; done) | (simp; omega))))))
          all_goals
            clear k5
            go_enter Tryz.func86, Tryz.ntmps86
            go_wp2_with (first | (go_at_call 105; (with_reducible refine (HR.out _).mono ?_); rintro e w1 ⟨rfl, b1⟩; obtain ⟨c1, f1⟩ := bcell b1; have z1 := b1.size; (try simp at z1); have d1a := fun o => c1 (w.heap.size) o (by first | omega | (simp; done) | (simp; omega)); clear c1 f1))
            go_ret
            refine ⟨rfl, ?_⟩
            (repeat (first | assumption | exact Below.refl _ _ | refine Below.setCell ?_ (by first | omega | (simp; done) | (simp; omega)) _ | refine Below.alloc ?_ (by first | omega | (simp; done) | (simp; omega)) _ | refine Below.drew ?_ | (refine Below.trans ?_ (Below.mono (by assumption) (by first | omega | (simp; done) | (simp; omega))))))
        all_goals
          clear k4 k5
          go_enter Tryz.func86, Tryz.ntmps86
          go_wp2_with (first | (go_at_call 105; (with_reducible refine (HR.out _).mono ?_); rintro e w1 ⟨rfl, b1⟩; obtain ⟨c1, f1⟩ := bcell b1; have z1 := b1.size; (try simp at z1); have d1a := fun o => c1 (w.heap.size) o (by first | omega | (simp; done) | (simp; omega)); clear c1 f1))
          go_ret
          refine ⟨rfl, ?_⟩
          (repeat (first | assumption | exact Below.refl _ _ | refine Below.setCell ?_ (by first | omega | (simp; done) | (simp; omega)) _ | refine Below.alloc ?_ (by first | omega | (simp; done) | (simp; omega)) _ | refine Below.drew ?_ | (refine Below.trans ?_ (Below.mono (by assumption) (by first | omega | (simp; done) | (simp; omega))))))
      all_goals
        clear k3 k4 k5
        go_enter Tryz.func86, Tryz.ntmps86
        go_wp2_with (first | (go_at_call 105; (with_reducible refine (HR.out _).mono ?_); rintro e w1 ⟨rfl, b1⟩; obtain ⟨c1, f1⟩ := bcell b1; have z1 := b1.size; (try simp at z1); have d1a := fun o => c1 (w.heap.size) o (by first | omega | (simp; done) | (simp; omega)); clear c1 f1))
        go_ret
        refine ⟨rfl, ?_⟩
        (repeat (first | assumption | exact Below.refl _ _ | refine Below.setCell ?_ (by first | omega | (simp; done) | (simp; omega)) _ | refine Below.alloc ?_ (by first | omega | (simp; done) | (simp; omega)) _ | refine Below.drew ?_ | (refine Below.trans ?_ (Below.mono (by assumption) (by first | omega | (simp; done) | (simp; omega))))))
    all_goals
      clear k2 k3 k4 k5
      go_enter Tryz.func86, Tryz.ntmps86
      go_wp2_with (first | (go_at_call 105; (with_reducible refine (HR.out _).mono ?_); rintro e w1 ⟨rfl, b1⟩; obtain ⟨c1, f1⟩ := bcell b1; have z1 := b1.size; (try simp at z1); have d1a := fun o => c1 (w.heap.size) o (by first | omega | (simp; done) | (simp; omega)); clear c1 f1))
      go_ret
      refine ⟨rfl, ?_⟩
      (repeat (first | assumption | exact Below.refl _ _ | refine Below.setCell ?_ (by first | omega | (simp; done) | (simp; omega)) _ | refine Below.alloc ?_ (by first | omega | (simp; done) | (simp; omega)) _ | refine Below.drew ?_ | (refine Below.trans ?_ (Below.mono (by assumption) (by first | omega | (simp; done) | (simp; omega))))))
end Go.Proofs.YtnplgagaoeckoaaGreat
