/- Texts put together: AddrD. No condition. -/
import Derived.Test.YtdmobgdgeiiicaaRmkxklnzyzp
namespace Go.Proofs.Ytdmobgdgeiiicaa
open Go.RowKit

set_option maxRecDepth 100000 in
theorem adText_any (a : Ad) (hf : a.fits) (w : World) : Calls Try.prog 49 #[.agg #[.bool a.v6, .int .u64 a.hi, .int .u64 a.lo]] w fun e w' => e = .returned (.string (bs (adText a))) ∧ Below w.heap.size w w' := by
  have hr := adRight_any a hf
  have h6 := v6Text_any a.hi a.lo hf.1 hf.2
  obtain ⟨t, ht⟩ : ∃ t, t = adText a := ⟨_, rfl⟩
  rw [← ht]
  unfold adText at ht
  cases hx : adRight a with
  | false =>
    rw [hx] at ht hr; rw [if_neg (by simp)] at ht
    have HR := Lib.hid hr; clear hr h6
    subst ht
    go_enter Try.func49, Try.ntmps49
    go_wp2_with (go_at_call 50; refine (HR.out _).mono ?_; rintro e w1 ⟨rfl, b1⟩)
    go_ret
    exact ⟨rfl, ((Below.refl _ _).alloc (Nat.le_refl _) _).trans (b1.mono (by simp))⟩
  | true =>
    rw [hx] at ht hr; rw [if_pos rfl] at ht
    cases hv : a.v6 with
    | true =>
      rw [hv] at ht hr; rw [if_pos rfl] at ht
      rw [← ht] at h6
      have HR := Lib.hid hr; have H6 := Lib.hid h6; clear hr h6
      go_enter Try.func49, Try.ntmps49
      go_wp2_with (first | (go_at_call 50; refine (HR.out _).mono ?_; rintro e w1 ⟨rfl, b1⟩; obtain ⟨c1, f1⟩ := bcell b1; have z1 := b1.size; simp at z1) | (go_at_call 79; refine (H6.out _).mono ?_; rintro e w2 ⟨rfl, b2⟩))
      go_ret
      exact ⟨ret_str (by rw [ht]), (((Below.refl _ _).alloc (Nat.le_refl _) _).trans (b1.mono (by simp))).trans (b2.mono (by omega))⟩
    | false =>
      have hl : a.lo < 4294967296 := by
        unfold adRight at hx; rw [if_neg (by rw [hv]; simp)] at hx; exact (of_decide_eq_true hx).2
      have h4 := v4Text_any a.lo hl
      have hw : IntKind.u32.wrap (a.lo : Int) = a.lo := IntWalk.u32_in _ (by omega)
      rw [hv] at ht hr; rw [if_neg (by simp)] at ht
      rw [← ht] at h4
      have HR := Lib.hid hr; have H4 := Lib.hid h4; clear hr h6 h4
      go_enter Try.func49, Try.ntmps49
      go_wp2_with (first | (go_at_call 50; refine (HR.out _).mono ?_; rintro e w1 ⟨rfl, b1⟩; obtain ⟨c1, f1⟩ := bcell b1; have z1 := b1.size; simp at z1) | (go_at_call 80; refine (H4.out _).mono ?_; rintro e w2 ⟨rfl, b2⟩))
      go_ret
      exact ⟨ret_str (by rw [ht]), (((Below.refl _ _).alloc (Nat.le_refl _) _).trans (b1.mono (by simp))).trans (b2.mono (by omega))⟩
end Go.Proofs.Ytdmobgdgeiiicaa
