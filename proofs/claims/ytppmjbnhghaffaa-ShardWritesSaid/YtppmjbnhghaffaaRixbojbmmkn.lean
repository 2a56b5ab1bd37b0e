/- Texts put together: TabJ. No condition. -/
import Derived.Test.YtppmjbnhghaffaaRahwbngseba
namespace Go.Proofs.Ytppmjbnhghaffaa
open Go.RowKit Go.Lib

theorem putT_len (l : List Pe) (p : Pe) : (putT l p).length = l.length + 1 := by
  unfold putT insL
  simp only [List.length_append, List.length_take, List.length_cons, List.length_drop]
  omega
/-- peers put one by one -/
def pstL (l : List Pe) : List Pe := l.foldl putT []
theorem pst_len : ∀ (l a : List Pe), (l.foldl putT a).length = a.length + l.length
  | [], a => rfl
  | p :: r, a => by rw [List.foldl_cons, pst_len r, putT_len, List.length_cons]; omega
theorem pstL_len (l : List Pe) : (pstL l).length = l.length := by unfold pstL; rw [pst_len]; simp
end Go.Proofs.Ytppmjbnhghaffaa
