/- slices.SortStableFunc of no element: nothing is done. No condition. -/
import Derived.Test.YtppmjbnhghaffaaRows
import Derived.Test.YtppmjbnhghaffaaWalk
import Derived.WalkKit
import Derived.WalkSpells
import Derived.WalkLawsBesides
namespace Go.Proofs.Ytppmjbnhghaffaa
open Go.RowKit
theorem insSort_none (a : Option Addr) (c : Nat) (fv : Value) (w : World) : Calls Try.prog 200 #[.slice a 0 c, .int .i64 0, .int .i64 0, fv] w fun e w' => e = .returned (.tuple #[]) ∧ w = w' := by
  go_enter Try.func200, Try.ntmps200
  go_wp2_with fail
  refine wp_loop_rounds 1 ?_
  rw [rounds_succ]
  go_wp2_with fail
  go_end0
  exact ⟨rfl, rfl⟩
theorem stable_none (a : Option Addr) (c : Nat) (fv : Value) (w : World) : Calls Try.prog 199 #[.slice a 0 c, .int .i64 0, fv] w fun e w' => e = .returned (.tuple #[]) ∧ w = w' := by
  go_enter Try.func199, Try.ntmps199
  go_wp2_with fail
  refine wp_loop_rounds 1 ?_
  rw [rounds_succ]
  go_wp2_with (go_at_call 200; refine (insSort_none _ _ _ _).mono ?_; rintro e w2 ⟨rfl, rfl⟩)
  refine wp_loop_rounds 1 ?_
  rw [rounds_succ]
  go_wp2_with fail
  go_end0
  exact ⟨rfl, rfl⟩
theorem sortStable_none (a : Option Addr) (c : Nat) (fv : Value) (w : World) : Calls Try.prog 197 #[.slice a 0 c, fv] w fun e w' => e = .returned (.tuple #[]) ∧ w = w' := by
  go_enter Try.func197, Try.ntmps197
  go_wp2_with (go_at_call 199; refine (stable_none _ _ _ _).mono ?_; rintro e w2 ⟨rfl, rfl⟩)
  go_end0
  exact ⟨rfl, rfl⟩
end Go.Proofs.Ytppmjbnhghaffaa
