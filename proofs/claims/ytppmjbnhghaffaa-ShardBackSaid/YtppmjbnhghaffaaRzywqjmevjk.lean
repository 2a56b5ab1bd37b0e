/- Texts put together: TabE. No condition. -/
import Derived.Test.YtppmjbnhghaffaaRdmlrqceeft
import Derived.Test.YtppmjbnhghaffaaRrwqrrksqsy
namespace Go.Proofs.Ytppmjbnhghaffaa
open Go.RowKit Go.Lib
set_option linter.unusedSimpArgs false
set_option linter.unusedVariables false

/-- one place of a right table -/
def stepR (l : List Pe) (k : Nat) : Bool := match l[k]? with
  | none => true
  | some p => peRight p && (match k with
    | 0 => true
    | j + 1 => match l[j]? with
      | some q => decide (enCmp q.en p.en < 0)
      | none => true)
def rgtT (l : List Pe) : Bool := (List.range l.length).all (stepR l)
theorem rgtT_yes {l : List Pe} (h : ∀ k, k < l.length → stepR l k = true) : rgtT l = true := by
  unfold rgtT
  rw [List.all_eq_true]
  exact fun k hk => h k (List.mem_range.1 hk)
end Go.Proofs.Ytppmjbnhghaffaa
