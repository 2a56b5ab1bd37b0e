/- Texts put together: PlNoC. No condition. -/
import Derived.Test.YtdmobgdgeiiicaaGreatRtrpsbhshgr
namespace Go.Proofs.YtdmobgdgeiiicaaGreat
open Go.RowKit

/-- a byte that is neither digit, letter nor mark -/
def badC (c : UInt8) : Prop := (c.toNat < 32 ∨ 126 < c.toNat) ∧ ¬ (48 ≤ c.toNat ∧ c.toNat ≤ 57)
theorem badC.hex {c : UInt8} (h : badC c) : hexVal c < 0 := by
  unfold hexVal
  obtain ⟨h1, h2⟩ := h
  rw [if_neg (by omega), if_neg (by omega), if_neg (by omega)]; decide
end Go.Proofs.YtdmobgdgeiiicaaGreat
