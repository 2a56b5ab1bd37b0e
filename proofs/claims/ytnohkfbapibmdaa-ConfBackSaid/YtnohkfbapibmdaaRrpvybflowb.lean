/- Texts put together: Append. No condition. -/
import Derived.Test.YtnohkfbapibmdaaRdxidsqhsit
import Derived.WalkKit
import Derived.Lib.AppendZerosOnto
import Derived.Laws.MakeOwn
namespace Go.Proofs.Ytnohkfbapibmdaa
open Go.RowKit

section
variable {P : Program} {t e : TypeId} {size bytes : Nat}
/-- what is read stays where another row alone has turned -/
theorem Reads.grown {w w' : World} {row : Option Nat} {v : Value} {n size : Nat} {xs : List Value} (h : Reads w v n size xs) (hg : w.grownBy w' row) (hne : ∀ b o c, v = .slice (some ⟨b, o, none⟩) n c → 0 < n → some b ≠ row) : Reads w' v n size xs := by
  obtain ⟨h1, h2, h3⟩ := h
  refine ⟨h1, h2, ?_⟩
  rcases h3 with h3 | ⟨hp, b, o, c, hv, hc, hlt, hx⟩
  · exact Or.inl h3
  · refine Or.inr ⟨hp, b, o, c, hv, hc, Nat.lt_of_lt_of_le hlt hg.size, fun j x hj => ?_⟩
    rw [World.cell?_of_block (a := ⟨b, o + j, none⟩) (hg.block b hlt (hne b o c hv hp))]; exact hx j x hj
end
end Go.Proofs.Ytnohkfbapibmdaa
