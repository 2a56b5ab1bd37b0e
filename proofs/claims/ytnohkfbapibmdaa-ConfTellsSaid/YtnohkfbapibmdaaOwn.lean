/- Rows of texts that a call has laid; a row of words. -/
import Derived.Test.YtnohkfbapibmdaaWords
import Derived.Test.YtnohkfbapibmdaaAppend
import Derived.Test.YtnohkfbapibmdaaCells
namespace Go.Proofs.Ytnohkfbapibmdaa
open Go.RowKit

/-- a block that a call has laid is a row of its own -/
theorem owns_block {w : World} {base g : Nat} {arr : List Value} {T : TypeId} (h : BlockIs w g arr T) (hb : base ≤ g) (hn : arr.length ≤ 1000) : w.ownsRow base T 1 (.slice (some ⟨g, 0, none⟩) arr.length arr.length) arr.length arr :=
  ⟨by omega, Or.inr ⟨g, arr.length, arr.toArray, rfl, hb, h, Nat.le_refl _, by unfold maxLen; omega, by simp, by simp⟩⟩
theorem owns_one {w : World} {base g : Nat} {x : List UInt8} {T : TypeId} (h : BlockIs w g [.string (bs x)] T) (hb : base ≤ g) : w.ownsRow base T 1 (.slice (some ⟨g, 0, none⟩) 1 1) 1 ([x].map sv) := owns_block (arr := [.string (bs x)]) h hb (by simp)
theorem row_of {v : Value} {n : Nat} {xs : List Value} {l : List (List UInt8)} {W : World} (h : Reads W v n 1 xs) (hn : n = l.length) (hx : xs = l.map sv) (hN : l.length ≤ 140737488355328) (hl : (joinL 32 l).length ≤ 140737488355328) :
    Calls Try.prog 74 #[v] W fun e w' => e = .returned (.string (bs (joinL 32 l))) ∧ Below W.heap.size W w' := by subst hn; subst hx; exact row_any v l W hN h hl
end Go.Proofs.Ytnohkfbapibmdaa
