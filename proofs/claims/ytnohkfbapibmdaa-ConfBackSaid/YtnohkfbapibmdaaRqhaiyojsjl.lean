/- Texts put together: PlBan. No condition. -/
import Derived.Test.YtnohkfbapibmdaaRxpqsnuaoqd
namespace Go.Proofs.Ytnohkfbapibmdaa
open Go.RowKit

structure Ba where
  nt : Nt
  till : Int
deriving DecidableEq
instance : Inhabited Ba := ⟨⟨⟨⟨false, 0, 0⟩, 0⟩, 0⟩⟩
theorem Ba.ext' {a b : Ba} (h1 : a.nt = b.nt) (h2 : a.till = b.till) : a = b := by cases a; cases b; simp_all
end Go.Proofs.Ytnohkfbapibmdaa
