/- Texts put together: CallH. No condition. -/
import Derived.Test.YtnohkfbapibmdaaGreatRryilymrawl
import Derived.Test.YtnohkfbapibmdaaGreatRrmmstrcymj
namespace Go.Proofs.YtnohkfbapibmdaaGreat
open Go.RowKit

theorem read_any (c : Cl) (p : Nat) (hp : p ≤ 5) (s : List UInt8) (O : Nat) (w : World) (hs : s.length ≤ 4000000000) (hc : Cpu w) (hB : BlockIs w O (clV c) 30) : Calls Tryz.prog 16 #[.pointer (some ⟨O, 0, none⟩), .int .i64 p, .string (bs s)] w (ReadPost w O (clRead c p s)) := by
  have : p = 0 ∨ p = 1 ∨ p = 2 ∨ p = 3 ∨ p = 4 ∨ p = 5 := by omega
  rcases this with rfl | rfl | rfl | rfl | rfl | rfl
  · exact read_0 c s O w hs hc hB
  · exact read_1 c s O w hs hc hB
  · exact read_2 c s O w hs hc hB
  · exact read_3 c s O w hs hc hB
  · exact read_4 c s O w hs hc hB
  · exact read_5 c s O w hs hc hB

end Go.Proofs.YtnohkfbapibmdaaGreat
