/- The laws of ipv6 hold: for every argument each returns true. -/
import Derived.Test.YtnohkfbapibmdaaQ0aaaf2vevmpk
namespace Go.Proofs.Ytnohkfbapibmdaa
open Go.RowKit

theorem p6a : v6parse [58, 58, 49] = (0, 1, true) := by decide +kernel
theorem p6b : v6parse [58, 58, 102, 102, 102, 102, 58, 49, 46, 50, 46, 51, 46, 52] = (0, 281470698652420, true) := by decide +kernel
theorem p6c : v6parse [49, 58, 58, 50, 58, 58, 51] = (0, 0, false) := by decide +kernel
theorem t6a : v6text 2306139568115548160 1 = [50, 48, 48, 49, 58, 100, 98, 56, 58, 58, 49] := by decide +kernel
theorem v6ParseL (l : List UInt8) (w : World) (hl : l.length ≤ 1000) (hc : Cpu w) : Calls Try.prog 151 #[.string (bs l)] w fun e w' => e = .returned (.tuple #[.int .u64 (v6parse l).1, .int .u64 (v6parse l).2.1, .bool (v6parse l).2.2]) ∧ Below w.heap.size w w' := by
  have := v6Parse_any (bs l) w (by rw [bs_size]; omega) hc
  rw [bs_data] at this; exact this
theorem cpu_of {W : World} (h : W.ShapedOpen Try.prog) : Cpu W := Try.laysM143.s1_3 W h
end Go.Proofs.Ytnohkfbapibmdaa
