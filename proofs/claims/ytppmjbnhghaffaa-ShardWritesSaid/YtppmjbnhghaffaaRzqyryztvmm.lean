/- Texts put together: TabC. No condition. -/
import Derived.Test.YtppmjbnhghaffaaRpcrsjrfrge
namespace Go.Proofs.Ytppmjbnhghaffaa
open Go.RowKit Go.Lib

theorem peIn_box {w : World} {B : Nat} {p : Pe} {T : TypeId} (h : BlockIs w B (peV p) T) : PeIn w B 0 p :=
  ⟨h.cell rfl, h.cell rfl, h.cell rfl, h.cell rfl, h.cell rfl, h.cell rfl, h.cell rfl, h.cell rfl, h.cell rfl, h.cell rfl⟩
end Go.Proofs.Ytppmjbnhghaffaa
