/- Texts put together: TabF. No condition. -/
import Derived.Test.YtppmjbnhghaffaaRzqyryztvmm
import Derived.Test.YtppmjbnhghaffaaRvdesaezpuu
namespace Go.Proofs.Ytppmjbnhghaffaa
open Go.RowKit Go.Lib

theorem owns_sliceP {w : World} {base n : Nat} {e : TypeId} {size : Nat} {v : Value} {xs : List Value} (h : w.ownsRow base e size v n xs) (hn : 0 < n) : ∃ g c, v = .slice (some ⟨g, 0, none⟩) n c := by
  rcases h.2 with ⟨_, h0⟩ | ⟨g, cap, _, rfl, _⟩
  · omega
  · exact ⟨_, _, rfl⟩
end Go.Proofs.Ytppmjbnhghaffaa
