/- Texts put together: PeerA. No condition. -/
import Derived.Test.YtppmjbnhghaffaaRodaxvxzykb
import Derived.Test.YtppmjbnhghaffaaRnhmkjtgjxl
import Derived.Test.YtppmjbnhghaffaaRjfnjsvqfsd
import Derived.Test.YtppmjbnhghaffaaRvqupnkulsf
import Derived.Test.YtppmjbnhghaffaaRsvsbazzueh
import Derived.LoopTactic
import Derived.Test.YtppmjbnhghaffaaRows
import Derived.RegionTactic
import Derived.BigRegion
import Derived.Deep.RegionWith
import Derived.IntWalk
import Derived.Lib.ItoaWalk
import Derived.Handy
import Derived.Deep.RegionHeld3
import Derived.BigGuardPart
import Derived.StillTail
namespace Go.Proofs.Ytppmjbnhghaffaa
open Go.RowKit
set_option linter.unusedSimpArgs false
set_option linter.unusedVariables false

set_option maxHeartbeats 1000000 in
theorem within_any (n m : Int) (w : World) : Calls Try.prog 143 #[.int .i64 n, .int .i64 m] w fun e w' => e = .returned (.bool (withinB n m)) ∧ w = w' := by
  unfold withinB
  rcases Int.lt_or_le n 0 with h | h
  · rw [decide_eq_false (by omega)]
    have hd : decide (0 ≤ n) = false := decide_eq_false (by omega)
    go_enter Try.func143, Try.ntmps143
    go_wp2
    go_ret
    exact ⟨rfl, rfl⟩
  · rw [decide_eq_true h]
    rcases Int.lt_or_le m n with h2 | h2
    · have hd : decide (n ≤ m) = false := decide_eq_false (by omega)
      rw [hd]
      go_enter Try.func143, Try.ntmps143
      go_wp2
      go_ret
      exact ⟨rfl, rfl⟩
    · have hd : decide (n ≤ m) = true := decide_eq_true h2
      rw [hd]
      go_enter Try.func143, Try.ntmps143
      go_wp2
      go_ret
      exact ⟨rfl, rfl⟩
end Go.Proofs.Ytppmjbnhghaffaa
