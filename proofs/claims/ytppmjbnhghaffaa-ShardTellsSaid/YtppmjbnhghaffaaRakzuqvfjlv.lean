/- Texts put together: ShC. No condition. -/
import Derived.Test.YtppmjbnhghaffaaRcngjchkxll
import Derived.Test.YtppmjbnhghaffaaRqlfqevcuhi
import Derived.Test.YtppmjbnhghaffaaRmcavooviyn
import Derived.Test.YtppmjbnhghaffaaRqanxblqlia
namespace Go.Proofs.Ytppmjbnhghaffaa
open Go.RowKit Go.Lib

theorem filt_snoc (t : Pe → Bool) (l : List Pe) (k : Nat) (x : Pe) (hx : l[k]? = some x) : (l.take (k + 1)).filter t = if t x = true then (l.take k).filter t ++ [x] else (l.take k).filter t := by
  rw [List.take_add_one, hx, Option.toList_some, List.filter_append]
  by_cases h : t x = true <;> simp [h]
end Go.Proofs.Ytppmjbnhghaffaa
