/- The law of ipv6 that tells: for every argument it returns true. -/
import Derived.Test.YtbpjhikbgnbkaaaLawIp6
import Derived.Test.YtbpjhikbgnbkaaaIp6P
namespace Go.Proofs.Ytbpjhikbgnbkaaa
open Go.RowKit

theorem str_beq (s : ByteArray) : (s.toList == s.toList) = true := by simp
set_option maxRecDepth 100000 in
set_option maxHeartbeats 400000 in
theorem ipv6Tells_any (hi lo : Nat) (h1 : hi < 18446744073709551616) (h2 : lo < 18446744073709551616) (s : ByteArray) (w : World) (hc : Cpu w) : Calls Try.prog 8 #[.int .u64 hi, .int .u64 lo, .string s] w fun e w' => e = .returned (.bool true) ∧ Below w.heap.size w w' := by
  have HC := Lib.hid hc; clear hc
  by_cases hl : 1000 < (s.size : Int)
  · go_enter Try.func8, Try.ntmps8
    go_wp2_with (first | (go_at_call 29; refine (awake05_any _ HC.out).mono ?_; rintro e w5 ⟨rfl, b5⟩))
    go_ret
    exact ⟨rfl, b5⟩
  have hP := Lib.hid (fun w hc => v6Parse_any s w (by omega) hc)
  have hR := Lib.hid (fun w => ref6Parse_any s w (by omega))
  have HT := Lib.hid (fun w => v6Text_any hi lo h1 h2 w)
  have HF := Lib.hid (fun w => ref6Text_any hi lo h1 h2 w)
  have e4 := str_beq (bs (v6text hi lo))
  generalize v6text hi lo = t at *
  generalize v6parse s.data.toList = r at *
  obtain ⟨r1, r2, r3⟩ := r
  have e5 : ((r1 : Int) == (r1 : Int)) = true := by simp
  have e6 : ((r2 : Int) == (r2 : Int)) = true := by simp
  cases r3
  all_goals
    go_enter Try.func8, Try.ntmps8
    go_wp2_with (first | (go_at_call 30; refine (hP.out _ HC.out).mono ?_; rintro e w1 ⟨rfl, b1⟩; have C1 := HC.out.below b1) | (go_at_call 31; refine (hR.out _).mono ?_; rintro e w3 ⟨rfl, b3⟩; have C3 := C1.below b3) | (go_at_call 32; refine (HT.out _).mono ?_; rintro e w4 ⟨rfl, b4⟩; have C4 := C3.below b4) | (go_at_call 33; refine (HF.out _).mono ?_; rintro e w6 ⟨rfl, b6⟩; have C6 := C4.below b6) | (go_at_call 29; refine (awake05_any _ C6).mono ?_; rintro e w5 ⟨rfl, b5⟩))
    go_ret
    exact ⟨rfl, below2 (below2 (below2 (below2 b1 b3) b4) b6) b5⟩
end Go.Proofs.Ytbpjhikbgnbkaaa
