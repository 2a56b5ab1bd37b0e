/- The contracts of ipv6's reference: Full, Text. -/
import Derived.Test.YtecegljipjofmaaIp6Full
namespace Go.Proofs.Ytecegljipjofmaa
open Go.RowKit

theorem hexT (n : Nat) (h : n < 65536) : hexText (n : Int) = hexs n := by
  unfold hexText; rw [if_neg (by omega), Int.toNat_natCast]
theorem refHexN (n : Nat) (h : n < 65536) (w : World) : Calls Try.prog 148 #[.int .i64 n] w fun e w' => e = .returned (.string (bs (hexs n))) ∧ Below w.heap.size w w' := by
  have := refHex_any 3 (n : Int) w (by rw [Int.toNat_natCast]; exact h)
  rw [hexT n h] at this; exact this
theorem hexJ_one (n : Nat) : hexJ [n] = hexs n := joinL_one 58 (hexs n)
theorem hexJ_snoc (L : List Nat) (n : Nat) (h : L ≠ []) : hexJ (L ++ [n]) = hexJ L ++ 58 :: hexs n := by
  unfold hexJ; rw [List.map_append, List.map_cons, List.map_nil, joinL_snoc _ _ _ (by simpa using h)]
end Go.Proofs.Ytecegljipjofmaa
