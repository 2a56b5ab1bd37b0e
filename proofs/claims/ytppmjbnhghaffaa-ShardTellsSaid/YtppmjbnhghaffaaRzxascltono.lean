/- Texts put together: TabN. No condition. -/
import Derived.Test.YtppmjbnhghaffaaRcngjchkxll
import Derived.WalkKit
import Derived.WalkSpells
import Derived.WalkLawsBesides
namespace Go.Proofs.Ytppmjbnhghaffaa
open Go.RowKit Go.Lib
theorem insSort_noneP (a : Option Addr) (c : Nat) (fv : Value) (w : World) : Calls Try.prog 165 #[.slice a 0 c, .int .i64 0, .int .i64 0, fv] w fun e w' => e = .returned (.tuple #[]) ∧ w = w' := by
  go_enter Try.func165, Try.ntmps165
  go_wp2_with fail
  refine wp_loop_rounds 1 ?_
  rw [rounds_succ]
  go_wp2_with fail
  go_end0
  exact ⟨rfl, rfl⟩
theorem stable_noneP (a : Option Addr) (c : Nat) (fv : Value) (w : World) : Calls Try.prog 141 #[.slice a 0 c, .int .i64 0, fv] w fun e w' => e = .returned (.tuple #[]) ∧ w = w' := by
  go_enter Try.func141, Try.ntmps141
  go_wp2_with fail
  refine wp_loop_rounds 1 ?_
  rw [rounds_succ]
  go_wp2_with (go_at_call 165; refine (insSort_noneP _ _ _ _).mono ?_; rintro e w2 ⟨rfl, rfl⟩)
  refine wp_loop_rounds 1 ?_
  rw [rounds_succ]
  go_wp2_with fail
  go_end0
  exact ⟨rfl, rfl⟩
theorem sortStable_noneP (a : Option Addr) (c : Nat) (fv : Value) (w : World) : Calls Try.prog 106 #[.slice a 0 c, fv] w fun e w' => e = .returned (.tuple #[]) ∧ w = w' := by
  go_enter Try.func106, Try.ntmps106
  go_wp2_with (go_at_call 141; refine (stable_noneP _ _ _ _).mono ?_; rintro e w2 ⟨rfl, rfl⟩)
  go_end0
  exact ⟨rfl, rfl⟩
set_option maxRecDepth 100000 in
set_option maxHeartbeats 4000000 in
theorem sorted_none (v : Value) (w : World) (h : ReadsL peV 10 w v []) :
    Calls Try.prog 62 #[v] w fun e w' => ∃ r, e = .returned r ∧ ReadsL peV 10 w' r [] ∧ Below w.heap.size w w' := by
  have HCl := Lib.hid (clonePe v [] w h (by simp))
  clear h
  go_enter Try.func62, Try.ntmps62
  go_wp2_with (first
    | (go_at_call 100; (with_reducible refine HCl.out.mono ?_); rintro e w1 ⟨r1, rfl, o1, b1, k1⟩; obtain ⟨a1, c1, rfl⟩ := owns_slice o1)
    | (go_at_call 106; (refine (sortStable_noneP _ _ _ _).mono ?_); rintro e w2 ⟨rfl, rfl⟩))
  go_ret
  exact ⟨_, rfl, owns_readsL (l := []) o1, b1⟩
end Go.Proofs.Ytppmjbnhghaffaa
