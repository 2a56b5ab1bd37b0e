/- The laws of ipv6 hold: for every argument each returns true. -/
import Derived.Test.YtbpjhikbgnbkaaaIp6G
namespace Go.Proofs.Ytbpjhikbgnbkaaa
open Go.RowKit

theorem p6a : v6parse [58, 58, 49] = (0, 1, true) := by decide +kernel
theorem p6b : v6parse [58, 58, 102, 102, 102, 102, 58, 49, 46, 50, 46, 51, 46, 52] = (0, 281470698652420, true) := by decide +kernel
theorem p6c : v6parse [49, 58, 58, 50, 58, 58, 51] = (0, 0, false) := by decide +kernel
theorem t6a : v6text 2306139568115548160 1 = [50, 48, 48, 49, 58, 100, 98, 56, 58, 58, 49] := by decide +kernel
theorem v6ParseL (l : List UInt8) (w : World) (hl : l.length ≤ 1000) (hc : Cpu w) : Calls Try.prog 30 #[.string (bs l)] w fun e w' => e = .returned (.tuple #[.int .u64 (v6parse l).1, .int .u64 (v6parse l).2.1, .bool (v6parse l).2.2]) ∧ Below w.heap.size w w' := by
  have := v6Parse_any (bs l) w (by rw [bs_size]; omega) hc
  rw [bs_data] at this; exact this
set_option maxRecDepth 100000 in
set_option maxHeartbeats 400000 in
theorem awake05_any (w : World) (hc : Cpu w) : Calls Try.prog 29 #[] w fun e w' => e = .returned (.bool true) ∧ Below w.heap.size w w' := by
  have h1 := fun w hc => v6ParseL [58, 58, 49] w (by decide) hc
  have h2 := fun w hc => v6ParseL [58, 58, 102, 102, 102, 102, 58, 49, 46, 50, 46, 51, 46, 52] w (by decide) hc
  have h3 := fun w hc => v6ParseL [49, 58, 58, 50, 58, 58, 51] w (by decide) hc
  have h4 := fun w => v6Text_any 2306139568115548160 1 (by decide) (by decide) w
  rw [p6a] at h1; rw [p6b] at h2; rw [p6c] at h3; rw [t6a] at h4
  have H1 := Lib.hid h1; have H2 := Lib.hid h2; have H3 := Lib.hid h3; have H4 := Lib.hid h4; have HC := Lib.hid hc
  clear h1 h2 h3 h4 hc
  have e4 : ((bs [50, 48, 48, 49, 58, 100, 98, 56, 58, 58, 49]).toList == [50, 48, 48, 49, 58, 100, 98, 56, 58, 58, 49]) = true := by decide +kernel
  go_enter Try.func29, Try.ntmps29
  go_wp2_with fail
  refine (H1.out _ HC.out).mono ?_
  rintro e w1 ⟨rfl, b1⟩
  simp only []
  go_at_K
  have C1 := Lib.hid (HC.out.below b1)
  go_wp2_with fail
  refine (H2.out _ C1.out).mono ?_
  rintro e w2 ⟨rfl, b2⟩
  simp only []
  go_at_K
  have C2 := Lib.hid (C1.out.below b2)
  go_wp2_with fail
  refine (H3.out _ C2.out).mono ?_
  rintro e w3 ⟨rfl, b3⟩
  simp only []
  go_at_K
  go_wp2_with fail
  refine (H4.out _).mono ?_
  rintro e w4 ⟨rfl, b4⟩
  simp only []
  go_at_K
  go_wp2_with fail
  go_ret
  exact ⟨rfl, below2 (below2 (below2 b1 b2) b3) b4⟩
set_option maxRecDepth 100000 in
set_option maxHeartbeats 400000 in
theorem ipv6Back_any (hi lo : Nat) (h1 : hi < 18446744073709551616) (h2 : lo < 18446744073709551616) (w : World) (hc : Cpu w) : Calls Try.prog 9 #[.int .u64 hi, .int .u64 lo] w fun e w' => e = .returned (.bool true) ∧ Below w.heap.size w w' := by
  have p1 := fun w hc => v6ParseL (v6text hi lo) w (by have := v6text_len hi lo h1 h2; omega) hc
  have p2 := fun w hc => v6ParseL (hexJ (grps hi lo)) w (by have := hexJ_len (grps hi lo) (grps_lt hi lo h1 h2); have e : (grps hi lo).length = 8 := rfl; omega) hc
  rw [v6parse_text hi lo h1 h2] at p1
  rw [v6parse_full hi lo h1 h2] at p2
  have P1 := Lib.hid p1; have P2 := Lib.hid p2; have HC := Lib.hid hc
  have HT := Lib.hid (fun w => v6Text_any hi lo h1 h2 w)
  have HF := Lib.hid (fun w => refFull_any hi lo h1 h2 w)
  clear p1 p2 hc
  go_enter Try.func9, Try.ntmps9
  go_wp2_with (first | (go_at_call 32; refine (HT.out _).mono ?_; rintro e w1 ⟨rfl, b1⟩; have C1 := HC.out.below b1) | (go_at_call 30; (with_reducible refine (P1.out _ C1).mono ?_); rintro e w2 ⟨rfl, b2⟩; have C2 := C1.below b2) | (go_at_call 34; refine (HF.out _).mono ?_; rintro e w3 ⟨rfl, b3⟩; have C3 := C2.below b3) | (go_at_call 30; (with_reducible refine (P2.out _ C3).mono ?_); rintro e w4 ⟨rfl, b4⟩; have C4 := C3.below b4) | (go_at_call 29; refine (awake05_any _ C4).mono ?_; rintro e w5 ⟨rfl, b5⟩))
  go_ret
  exact ⟨rfl, below2 (below2 (below2 (below2 b1 b2) b3) b4) b5⟩
set_option maxRecDepth 100000 in
set_option maxHeartbeats 400000 in
theorem ipv6Short_any (hi lo : Nat) (h1 : hi < 18446744073709551616) (h2 : lo < 18446744073709551616) (s : ByteArray) (w : World) (hc : Cpu w) : Calls Try.prog 10 #[.int .u64 hi, .int .u64 lo, .string s] w fun e w' => e = .returned (.bool true) ∧ Below w.heap.size w w' := by
  have hsh := v6text_short hi lo
  rw [← bs_size, ← bs_size] at hsh
  have hsh2 : ¬ ((bs (hexJ (grps hi lo))).size : Int) < ((bs (v6text hi lo)).size : Int) := by omega
  have HT := Lib.hid (fun w => v6Text_any hi lo h1 h2 w)
  have HF := Lib.hid (fun w => refFull_any hi lo h1 h2 w)
  have HC := Lib.hid hc; clear hc hsh
  by_cases hl : 1000 < (s.size : Int)
  · go_enter Try.func10, Try.ntmps10
    go_wp2_with (first | (go_at_call 32; refine (HT.out _).mono ?_; rintro e w1 ⟨rfl, b1⟩; have C1 := HC.out.below b1) | (go_at_call 34; refine (HF.out _).mono ?_; rintro e w3 ⟨rfl, b3⟩; have C3 := C1.below b3) | (go_at_call 29; refine (awake05_any _ C3).mono ?_; rintro e w5 ⟨rfl, b5⟩))
    go_ret
    exact ⟨rfl, below2 (below2 b1 b3) b5⟩
  have hP := Lib.hid (fun w hc => v6Parse_any s w (by omega) hc)
  have hlt := v6parse_lt s.data.toList
  have hfl := @v6parse_false s.data.toList
  cases hv : (v6parse s.data.toList).2.2
  · rw [hfl hv] at hP
    clear hv hfl hlt
    go_enter Try.func10, Try.ntmps10
    go_wp2_with (first | (go_at_call 32; refine (HT.out _).mono ?_; rintro e w1 ⟨rfl, b1⟩; have C1 := HC.out.below b1) | (go_at_call 34; refine (HF.out _).mono ?_; rintro e w3 ⟨rfl, b3⟩; have C3 := C1.below b3) | (go_at_call 30; refine (hP.out _ C3).mono ?_; rintro e w4 ⟨rfl, b4⟩; have C4 := C3.below b4) | (go_at_call 29; refine (awake05_any _ C4).mono ?_; rintro e w5 ⟨rfl, b5⟩))
    go_ret
    exact ⟨rfl, below2 (below2 (below2 b1 b3) b4) b5⟩
  · rw [hv] at hP
    generalize (v6parse s.data.toList).1 = a at hP hlt
    generalize (v6parse s.data.toList).2.1 = b at hP hlt
    obtain ⟨l1, l2⟩ := hlt
    have p1 := fun w hc => v6ParseL (v6text a b) w (by have := v6text_len a b l1 l2; omega) hc
    rw [v6parse_text a b l1 l2] at p1
    have P1 := Lib.hid p1
    have HT2 := Lib.hid (fun w => v6Text_any a b l1 l2 w)
    clear hv hfl p1
    go_enter Try.func10, Try.ntmps10
    go_wp2_with (first | (go_at_call 32; (with_reducible refine (HT.out _).mono ?_); rintro e w1 ⟨rfl, b1⟩; have C1 := HC.out.below b1) | (go_at_call 34; refine (HF.out _).mono ?_; rintro e w3 ⟨rfl, b3⟩; have C3 := C1.below b3) | (go_at_call 30; (with_reducible refine (hP.out _ C3).mono ?_); rintro e w4 ⟨rfl, b4⟩; have C4 := C3.below b4) | (go_at_call 32; (with_reducible refine (HT2.out _).mono ?_); rintro e w6 ⟨rfl, b6⟩; have C6 := C4.below b6) | (go_at_call 30; (with_reducible refine (P1.out _ C6).mono ?_); rintro e w7 ⟨rfl, b7⟩; have C7 := C6.below b7) | (go_at_call 29; refine (awake05_any _ C7).mono ?_; rintro e w5 ⟨rfl, b5⟩))
    go_ret
    exact ⟨rfl, below2 (below2 (below2 (below2 (below2 b1 b3) b4) b6) b7) b5⟩
theorem cpu_of {W : World} (h : W.ShapedOpen Try.prog) : Cpu W := Try.laysM143.s1_3 W h
end Go.Proofs.Ytbpjhikbgnbkaaa
