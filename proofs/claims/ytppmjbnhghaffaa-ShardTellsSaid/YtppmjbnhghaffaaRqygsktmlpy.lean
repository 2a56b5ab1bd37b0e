/- Texts put together: TabT. No condition. -/
import Derived.Test.YtppmjbnhghaffaaRjvhvryogad
import Derived.Test.YtppmjbnhghaffaaRzxascltono
namespace Go.Proofs.Ytppmjbnhghaffaa
open Go.RowKit Go.Lib

theorem tsorted_any (v : Value) (l : List Pe) (w : World) (h : ReadsL peV 10 w v l) (hl : l.length ≤ 1000000) :
    Calls Try.prog 62 #[v] w fun e w' => ∃ r, e = .returned r ∧ ReadsL peV 10 w' r (pstL l) ∧ Below w.heap.size w w' := by
  by_cases hn : l = []
  · subst hn
    exact sorted_none v w h
  · refine (sorted_any v l w h hl (srtL_len l) hn).mono ?_
    rintro e w' ⟨r, rfl, o, b⟩
    rw [srtL_is] at o
    have hlen : (pstL l).length = l.length := pstL_len l
    rw [← hlen] at o
    exact ⟨r, rfl, owns_readsL o, b⟩
end Go.Proofs.Ytppmjbnhghaffaa
