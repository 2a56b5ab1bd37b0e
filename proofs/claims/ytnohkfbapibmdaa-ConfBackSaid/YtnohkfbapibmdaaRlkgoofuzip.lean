/- Texts put together: PlIp4. No condition. -/
import Derived.Test.YtnohkfbapibmdaaRflnvsruuct
import Derived.Test.YtnohkfbapibmdaaRuuuvzgazcn
namespace Go.Proofs.Ytnohkfbapibmdaa
open Go.RowKit

/-- the parts, from the last one on -/
def v4pk : Nat → Nat → List (List UInt8)
  | 0, _ => []
  | k + 1, m => v4pk k (m / 256) ++ [digs (m % 256)]
def V4At (N m k : Nat) (arr : List Value) : Prop := ∃ acc : List (List UInt8), arr.drop k = acc.map sv ∧ v4pk 4 N = v4pk k m ++ acc
theorem V4At.step {N m k : Nat} {arr : List Value} (h : V4At N m (k + 1) arr) (hl : k + 1 ≤ arr.length) : V4At N (m / 256) k (arr.set k (sv (digs (m % 256)))) := by
  obtain ⟨acc, h1, h2⟩ := h
  refine ⟨digs (m % 256) :: acc, ?_, by rw [h2]; simp [v4pk]⟩
  have hl' : k < (arr.set k (sv (digs (m % 256)))).length := by rw [List.length_set]; omega
  rw [List.drop_eq_getElem_cons hl', List.getElem_set_self, List.drop_set_of_lt (by omega), h1]; rfl
end Go.Proofs.Ytnohkfbapibmdaa
