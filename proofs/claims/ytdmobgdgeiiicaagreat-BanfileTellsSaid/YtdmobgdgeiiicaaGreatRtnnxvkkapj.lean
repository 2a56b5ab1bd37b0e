/- Texts put together: LawBf. No condition. -/
import Derived.Test.YtdmobgdgeiiicaaGreatRebngdrnpww
import Derived.Test.YtdmobgdgeiiicaaGreatRevhbvelxxg
import Derived.Test.YtdmobgdgeiiicaaGreatRtrpsbhshgr
import Derived.Test.YtdmobgdgeiiicaaGreatRnllselfgan
namespace Go.Proofs.YtdmobgdgeiiicaaGreat
open Go.RowKit

theorem a14a : bfParse [49, 48, 46, 48, 46, 48, 46, 48, 47, 56, 32, 117, 110, 116, 105, 108, 32, 53, 10, 57, 46, 48, 46, 48, 46, 48, 47, 56, 32, 117, 110, 116, 105, 108, 32, 55, 10] 2 = ([⟨⟨⟨false, 0, 150994944⟩, 8⟩, 7⟩, ⟨⟨⟨false, 0, 167772160⟩, 8⟩, 5⟩], 0, 0) := by decide +kernel
theorem a14b : bfParse [49, 48, 46, 48, 46, 48, 46, 48, 47, 56, 32, 117, 110, 116, 105, 108, 32, 53, 10, 120, 10] 9 = ([], 2, 2) := by decide +kernel
theorem a14c : bfText [⟨⟨⟨false, 0, 150994944⟩, 8⟩, 7⟩] = [57, 46, 48, 46, 48, 46, 48, 47, 56, 32, 117, 110, 116, 105, 108, 32, 55, 10] := by decide +kernel
theorem ba_first {w : World} {v : Value} {x : Ba} {l : List Ba} (h : ReadsL baV 5 w v (x :: l)) : ∃ b o c, v = .slice (some ⟨b, o, none⟩) ((x :: l).length) c ∧ l.length + 1 ≤ c ∧ b < w.heap.size ∧ BaIn w b o x ∧ ReadsL baV 5 w (.slice (some ⟨b, o, none⟩) 1 c) [x] := by
  have h' := h
  obtain ⟨_, p, c, rfl, h3⟩ := bas_open h
  obtain ⟨b, o, rfl, h4, h5, h6⟩ := h3 (by simp)
  have k := h6 0 x rfl
  simp only [Nat.zero_mul, Nat.add_zero] at k
  refine ⟨b, o, c, rfl, by simpa using h4, h5, k, ?_⟩
  rcases Reads.takeN h' 1 (by simp) c with r | r
  · exact r
  · simp at h4; omega
set_option maxRecDepth 100000 in
set_option maxHeartbeats 8000000 in
theorem awake14_any (w : World) (hc : Cpu w) : Calls Tryz.prog 4 #[] w fun e w' => e = .returned (.bool true) ∧ Below w.heap.size w w' := by
  have HC := Lib.hid hc; clear hc
  have h1 : ∀ (w : World) (hc : Cpu w), Calls Tryz.prog 5 #[.string ⟨#[49, 48, 46, 48, 46, 48, 46, 48, 47, 56, 32, 117, 110, 116, 105, 108, 32, 53, 10, 57, 46, 48, 46, 48, 46, 48, 47, 56, 32, 117, 110, 116, 105, 108, 32, 55, 10]⟩, .int .i64 2] w (GivesBf w (bfParse [49, 48, 46, 48, 46, 48, 46, 48, 47, 56, 32, 117, 110, 116, 105, 108, 32, 53, 10, 57, 46, 48, 46, 48, 46, 48, 47, 56, 32, 117, 110, 116, 105, 108, 32, 55, 10] 2)) := fun w hc => by
    have := bfParse_any (bs [49, 48, 46, 48, 46, 48, 46, 48, 47, 56, 32, 117, 110, 116, 105, 108, 32, 53, 10, 57, 46, 48, 46, 48, 46, 48, 47, 56, 32, 117, 110, 116, 105, 108, 32, 55, 10]) 2 w (by rw [bs_size]; decide) hc
    rw [bs_data] at this; exact this
  have h2 : ∀ (w : World) (hc : Cpu w), Calls Tryz.prog 5 #[.string ⟨#[49, 48, 46, 48, 46, 48, 46, 48, 47, 56, 32, 117, 110, 116, 105, 108, 32, 53, 10, 120, 10]⟩, .int .i64 9] w (GivesBf w (bfParse [49, 48, 46, 48, 46, 48, 46, 48, 47, 56, 32, 117, 110, 116, 105, 108, 32, 53, 10, 120, 10] 9)) := fun w hc => by
    have := bfParse_any (bs [49, 48, 46, 48, 46, 48, 46, 48, 47, 56, 32, 117, 110, 116, 105, 108, 32, 53, 10, 120, 10]) 9 w (by rw [bs_size]; decide) hc
    rw [bs_data] at this; exact this
  have h3 := fun v w h => bfText_any v [⟨⟨⟨false, 0, 150994944⟩, 8⟩, 7⟩] w h (by intro x hx; rw [List.mem_singleton.1 hx]; exact ⟨by decide, by decide⟩) (by decide)
  rw [a14a] at h1
  rw [a14b] at h2
  rw [a14c] at h3
  unfold GivesBf at h1 h2
  have H1 := Lib.hid h1; have H2 := Lib.hid h2; have H3 := Lib.hid h3
  clear h1 h2 h3
  have e4 : ((bs [57, 46, 48, 46, 48, 46, 48, 47, 56, 32, 117, 110, 116, 105, 108, 32, 55, 10]).toList == [57, 46, 48, 46, 48, 46, 48, 47, 56, 32, 117, 110, 116, 105, 108, 32, 55, 10]) = true := by decide +kernel
  go_enter Tryz.func4, Tryz.ntmps4
  go_upto_region 2 with (go_at_call 5; (with_reducible refine (H1.out _ HC.out).mono ?_); rintro e w1 ⟨r1, rfl, rd1, b1⟩)
  obtain ⟨bk, o, c, rfl, hcc, hlt, hin, hone⟩ := ba_first rd1
  simp only [List.length_cons, List.length_nil] at hcc ⊢
  go_upto_region 3 with (go_at_call 5; (with_reducible refine (H2.out _ (HC.out.below b1)).mono ?_); rintro e w2 ⟨r2, rfl, rd2, b2⟩)
  obtain ⟨k0, k1, k2, k3, k4⟩ := hin.below b2 hlt
  have HONE := Lib.hid (ReadsL.below hone b2)
  clear hin hone rd1 rd2
  have b3 := below2 b1 b2
  go_wp2_with (go_at_call 7; (with_reducible refine (H3.out _ _ HONE.out).mono ?_); rintro e w4 ⟨rfl, b4⟩)
  go_ret
  exact ⟨rfl, below2 b3 b4⟩
end Go.Proofs.YtdmobgdgeiiicaaGreat
