/- Texts put together: Ip6T, Ip6Ref. No condition. -/
import Derived.Test.YtppmjbnhghaffaaRows
import Derived.Test.YtppmjbnhghaffaaQd74d27bexnvq
import Derived.Deep.WholeRow
import Derived.WalkKit
import Derived.WalkSpells
import Derived.WalkLawsBesides
import Derived.BigGuardPart
import Derived.BigQuiet
import Derived.Deep.QuietTactic
import Derived.Deep.Light
import Derived.OwnWalk
/- The contracts of ipv6: the text of an address. -/
namespace Go.Proofs.Ytppmjbnhghaffaa
open Go.RowKit


end Go.Proofs.Ytppmjbnhghaffaa
/- The contracts of ipv6: the reference. -/
namespace Go.Proofs.Ytppmjbnhghaffaa
open Go.RowKit


theorem grp_hi (hi lo i : Nat) (h : hi < 18446744073709551616) (hi4 : i < 4) : (grps hi lo).getD i 0 = hi / 65536 ^ (3 - i) % 65536 := by
  rcases (by omega : i = 0 ∨ i = 1 ∨ i = 2 ∨ i = 3) with rfl | rfl | rfl | rfl
  · show hi / 281474976710656 = hi / 65536 ^ 3 % 65536; rw [show 65536 ^ 3 = 281474976710656 from rfl]; omega
  · show hi / 4294967296 % 65536 = hi / 65536 ^ 2 % 65536; rfl
  · show hi / 65536 % 65536 = hi / 65536 ^ 1 % 65536; rfl
  · show hi % 65536 = hi / 65536 ^ 0 % 65536; rw [show 65536 ^ 0 = 1 from rfl, Nat.div_one]
theorem grp_lo (hi lo i : Nat) (h : lo < 18446744073709551616) (hi4 : i < 4) : (grps hi lo).getD (i + 4) 0 = lo / 65536 ^ (3 - i) % 65536 := by
  rcases (by omega : i = 0 ∨ i = 1 ∨ i = 2 ∨ i = 3) with rfl | rfl | rfl | rfl
  · show lo / 281474976710656 = lo / 65536 ^ 3 % 65536; rw [show 65536 ^ 3 = 281474976710656 from rfl]; omega
  · show lo / 4294967296 % 65536 = lo / 65536 ^ 2 % 65536; rfl
  · show lo / 65536 % 65536 = lo / 65536 ^ 1 % 65536; rfl
  · show lo % 65536 = lo / 65536 ^ 0 % 65536; rw [show 65536 ^ 0 = 1 from rfl, Nat.div_one]
theorem gapI_none {l : List UInt8} (h : ∀ k : Nat, ¬ (l[k]? = some 58 ∧ l[k + 1]? = some 58)) : gapI l = -1 := by unfold gapI; rw [gapO_none h]
end Go.Proofs.Ytppmjbnhghaffaa
