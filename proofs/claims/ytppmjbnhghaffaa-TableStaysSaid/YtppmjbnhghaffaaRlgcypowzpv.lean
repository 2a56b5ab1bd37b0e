/- Texts put together: AppAt. No condition. -/
import Derived.Test.YtppmjbnhghaffaaRjxylkaeqpy
import Derived.Maps.AppendAt
namespace Go.Proofs.Ytppmjbnhghaffaa
open Go.RowKit

/-- two slices lie in two blocks -/
def ApartV (u v : Value) : Prop := ∀ g, u.ownBlock = some g → v.ownBlock = some g → False
theorem ApartV.symm {u v : Value} (h : ApartV u v) : ApartV v u := fun g a b => h g b a
section
variable {P : Program} {t e : TypeId} {size bytes : Nat}
end
end Go.Proofs.Ytppmjbnhghaffaa
