/- The statements on addresses of four bytes: what each law function returns. -/
import Derived.Test.YtbpjhikbgnbkaaaRows
import Derived.Test.YtbpjhikbgnbkaaaIp4
import Derived.WalkKit
import Derived.WalkSpells
import Derived.WalkLawsBesides
import Derived.BigGuardPart
namespace Go.Proofs.Ytbpjhikbgnbkaaa
open Go.RowKit

set_option maxRecDepth 100000 in
theorem awake04 (w : World) : Calls Try.prog 18 #[] w fun e w' => e = .returned (.bool true) ∧ Below w.heap.size w w' := by
  have h1 := fun w => v4Parse_any ⟨#[49, 50, 55, 46, 48, 46, 48, 46, 49]⟩ w (by decide)
  have e1 : v4parse (⟨#[49, 50, 55, 46, 48, 46, 48, 46, 49]⟩ : ByteArray).data.toList = (2130706433, true) := by decide +kernel
  rw [e1] at h1
  have h2 := fun w => v4Parse_any ⟨#[49, 46, 50, 46, 51, 46, 48, 52]⟩ w (by decide)
  have e2 : v4parse (⟨#[49, 46, 50, 46, 51, 46, 48, 52]⟩ : ByteArray).data.toList = (0, false) := by decide +kernel
  rw [e2] at h2
  have h3 := fun w => v4Text_any 16909060 (by decide) w
  have e3 : bs (v4text 16909060) = ⟨#[49, 46, 50, 46, 51, 46, 52]⟩ := by decide +kernel
  rw [e3] at h3
  have H1 := Lib.hid h1; have H2 := Lib.hid h2; have H3 := Lib.hid h3; clear h1 h2 h3 e1 e2 e3
  go_enter Try.func18, Try.ntmps18
  go_wp2_with (first
    | (go_at_call 14; (with_reducible refine (H1.out _).mono ?_); rintro e w1 ⟨rfl, b1⟩)
    | (go_at_call 14; (with_reducible refine (H2.out _).mono ?_); rintro e w2 ⟨rfl, b2⟩)
    | (go_at_call 16; refine (H3.out _).mono ?_; rintro e w3 ⟨rfl, b3⟩))
  go_ret
  exact ⟨rfl, below4 b1 b2 b3 (Below.refl _ _)⟩
set_option maxRecDepth 100000 in
set_option maxHeartbeats 1000000 in
theorem ipv4Tells_any (n : Nat) (hn : n < 4294967296) (s : ByteArray) (w : World) (hs : s.size ≤ 8000000000000) :
    Calls Try.prog 3 #[.int .u32 n, .string s] w fun e w' => e = .returned (.bool true) ∧ Below w.heap.size w w' := by
  have h1 := fun w => v4Parse_any s w hs
  have h2 := fun w => ref4Parse_any s w hs
  generalize v4parse s.data.toList = r at h1 h2
  have H1 := Lib.hid h1; have H2 := Lib.hid h2; clear h1 h2
  go_enter Try.func3, Try.ntmps3
  go_wp2_with (first
    | (go_at_call 14; refine (H1.out _).mono ?_; rintro e w1 ⟨rfl, b1⟩)
    | (go_at_call 15; refine (H2.out _).mono ?_; rintro e w2 ⟨rfl, b2⟩; have b12 := below2 b1 b2)
    | (go_at_call 16; refine (v4Text_any n hn _).mono ?_; rintro e w3 ⟨rfl, b3⟩; have b13 := below2 b12 b3)
    | (go_at_call 17; refine (ref4Text_any n hn _).mono ?_; rintro e w4 ⟨rfl, b4⟩; have b14 := below2 b13 b4)
    | (go_at_call 18; refine (awake04 _).mono ?_; rintro e w5 ⟨rfl, b5⟩))
  go_ret
  exact ⟨rfl, below2 b14 b5⟩
set_option maxRecDepth 100000 in
set_option maxHeartbeats 1000000 in
theorem ipv4Back_any (n : Nat) (hn : n < 4294967296) (s : ByteArray) (w : World) (hs : s.size ≤ 8000000000000) :
    Calls Try.prog 4 #[.int .u32 n, .string s] w fun e w' => e = .returned (.bool true) ∧ Below w.heap.size w w' := by
  have h0 := fun w => v4Parse_any (bs (v4text n)) w (by rw [bs_size]; have := v4text_len n hn; omega)
  simp only [bs_data, v4parse_text n hn] at h0
  have h1 := fun w => v4Parse_any s w hs
  have H0 := Lib.hid h0; clear h0
  cases hv : (v4parse s.data.toList).2 with
  | false =>
    simp only [v4parse_false hv] at h1
    have H1 := Lib.hid h1; clear h1 hv
    go_enter Try.func4, Try.ntmps4
    go_wp2_with (first
      | (go_at_call 16; refine (v4Text_any n hn _).mono ?_; rintro e w1 ⟨rfl, b1⟩)
      | (go_at_call 14; (with_reducible refine (H0.out _).mono ?_); rintro e w2 ⟨rfl, b2⟩; have b12 := below2 b1 b2)
      | (go_at_call 14; (with_reducible refine (H1.out _).mono ?_); rintro e w3 ⟨rfl, b3⟩; have b13 := below2 b12 b3)
      | (go_at_call 18; refine (awake04 _).mono ?_; rintro e w5 ⟨rfl, b5⟩))
    go_ret
    exact ⟨rfl, below2 b13 b5⟩
  | true =>
    obtain ⟨hx, hl⟩ := v4parse_true (l := s.data.toList) (n := (v4parse s.data.toList).1) (by rw [← hv])
    generalize hx2 : (v4parse s.data.toList).1 = x at *
    have e : v4parse s.data.toList = (x, true) := by rw [← hx2, ← hv]
    simp only [e] at h1
    have hb : bs (v4text x) = s := by rw [← hl, bs_of]
    have h3 := fun w => v4Text_any x hx w
    simp only [hb] at h3
    have H1 := Lib.hid h1; have H3 := Lib.hid h3; clear h1 h3 hv hl hx2 e hb
    go_enter Try.func4, Try.ntmps4
    go_wp2_with (first
      | (go_at_call 16; (with_reducible refine (H3.out _).mono ?_); rintro e w4 ⟨rfl, b4⟩; have b14 := below2 b13 b4)
      | (go_at_call 16; (with_reducible refine (v4Text_any n hn _).mono ?_); rintro e w1 ⟨rfl, b1⟩)
      | (go_at_call 14; (with_reducible refine (H0.out _).mono ?_); rintro e w2 ⟨rfl, b2⟩; have b12 := below2 b1 b2)
      | (go_at_call 14; (with_reducible refine (H1.out _).mono ?_); rintro e w3 ⟨rfl, b3⟩; have b13 := below2 b12 b3)
      | (go_at_call 18; refine (awake04 _).mono ?_; rintro e w5 ⟨rfl, b5⟩))
    go_ret
    exact ⟨rfl, below2 b14 b5⟩
end Go.Proofs.Ytbpjhikbgnbkaaa
