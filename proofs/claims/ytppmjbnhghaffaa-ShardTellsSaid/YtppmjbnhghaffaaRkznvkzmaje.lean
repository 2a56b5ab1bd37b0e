/- Texts put together: TabE. No condition. -/
import Derived.Test.YtppmjbnhghaffaaRcngjchkxll
import Derived.Test.YtppmjbnhghaffaaRzgjsloivew
import Derived.Test.YtppmjbnhghaffaaRucrranjrxo
import Derived.Test.YtppmjbnhghaffaaRhtuacnmkql
import Derived.Test.YtppmjbnhghaffaaRiwvlkgqjfj
import Derived.Test.YtppmjbnhghaffaaRhjbbgjhkvr
import Derived.Test.YtppmjbnhghaffaaRtulbokwbuy
import Derived.LoopTactic
import Derived.Test.YtppmjbnhghaffaaRows
import Derived.RegionTactic
import Derived.BigRegion
import Derived.Deep.RegionWith
import Derived.IntWalk
import Derived.Lib.ItoaWalk
import Derived.Handy
import Derived.Deep.RegionHeld3
import Derived.BigGuardPart
import Derived.StillTail
namespace Go.Proofs.Ytppmjbnhghaffaa
open Go.RowKit Go.Lib
set_option linter.unusedSimpArgs false
set_option linter.unusedVariables false

/-- one place of a right table -/
def stepR (l : List Pe) (k : Nat) : Bool := match l[k]? with
  | none => true
  | some p => peRight p && (match k with
    | 0 => true
    | j + 1 => match l[j]? with
      | some q => decide (enCmp q.en p.en < 0)
      | none => true)
def rgtT (l : List Pe) : Bool := (List.range l.length).all (stepR l)
theorem rgtT_yes {l : List Pe} (h : ∀ k, k < l.length → stepR l k = true) : rgtT l = true := by
  unfold rgtT
  rw [List.all_eq_true]
  exact fun k hk => h k (List.mem_range.1 hk)
end Go.Proofs.Ytppmjbnhghaffaa
