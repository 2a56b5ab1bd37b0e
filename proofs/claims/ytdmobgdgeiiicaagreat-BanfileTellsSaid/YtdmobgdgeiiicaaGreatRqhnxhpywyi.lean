/- Texts put together: AddrD. No condition. -/
import Derived.Test.YtdmobgdgeiiicaaGreatRxsjkljwbae
namespace Go.Proofs.YtdmobgdgeiiicaaGreat
open Go.RowKit

set_option maxRecDepth 100000 in
set_option maxHeartbeats 1000000 in
theorem refAdParse_any (s : ByteArray) (w : World) (hs : s.size ≤ 8000000000000) : Calls Tryz.prog 53 #[.string s] w (GivesAd w (adParse s.data.toList)) := by
  have hv4 := fun w => ref4Parse_any s w hs
  have hv6 := fun w => ref6Parse_any s w hs
  have hl4 := @adParse_lt4 s.data.toList
  have hl6 := v6parse_lt s.data.toList
  obtain ⟨r, hr⟩ : ∃ r, r = adParse s.data.toList := ⟨_, rfl⟩
  rw [← hr]
  unfold adParse at hr
  generalize v4parse s.data.toList = p4 at *
  generalize v6parse s.data.toList = p6 at *
  obtain ⟨n, ok4⟩ := p4
  obtain ⟨hi, lo, ok6⟩ := p6
  simp only at hr hv4 hv6 hl4 hl6
  obtain ⟨l1, l2⟩ := hl6
  cases ok4 with
  | true =>
    have hn := hl4 rfl
    have hw : IntKind.u64.wrap (n : Int) = n := IntWalk.u64_in _ (by omega)
    rw [if_pos rfl] at hr
    have HV := Lib.hid hv4; clear hv4 hv6 hl4
    subst hr
    go_enter Tryz.func53, Tryz.ntmps53
    go_wp2_with (first | (go_at_call 82; refine (HV.out _).mono ?_; rintro e w1 ⟨rfl, b1⟩; obtain ⟨c1, f1⟩ := bcell b1; have z1 := b1.size; simp at z1; have d := fun o => (c1 w.heap.size o (by simp)); have fd := fun o => (f1 w.heap.size o (by simp)); clear c1 f1))
    refine bodyPost_ret (v := .tuple #[.agg #[.bool false, .int .u64 0, .int .u64 n], .bool true]) (by simp [results, Tryz.results53, go_sem, d]) rfl ⟨rfl, ?_⟩
    exact Below.setCell (Below.setCell (Below.setCell (((Below.refl _ _).alloc (Nat.le_refl _) _).trans (b1.mono (by simp))) (Nat.le_refl _) _) (Nat.le_refl _) _) (Nat.le_refl _) _
  | false =>
    rw [if_neg (by simp)] at hr
    have HV := Lib.hid hv4; have HV6 := Lib.hid hv6; clear hv4 hv6 hl4
    cases ok6 with
    | true =>
      rw [if_pos rfl] at hr
      subst hr
      go_enter Tryz.func53, Tryz.ntmps53
      go_wp2_with (first | (go_at_call 82; refine (HV.out _).mono ?_; rintro e w1 ⟨rfl, b1⟩; obtain ⟨c1, f1⟩ := bcell b1; have z1 := b1.size; simp at z1) | (go_at_call 55; refine (HV6.out _).mono ?_; rintro e w2 ⟨rfl, b2⟩; obtain ⟨c2, f2⟩ := bcell b2; have z2 := b2.size) | (go_at_call 83; refine (refAdV6_any hi lo l1 l2 _).mono ?_; rintro e w3 ⟨rfl, b3⟩; obtain ⟨c3, f3⟩ := bcell b3; have d := fun o => (c3 w.heap.size o (by omega)).trans ((c2 w.heap.size o (by omega)).trans (c1 w.heap.size o (by simp))); have fd := fun o => (f3 w.heap.size o (by omega)).trans ((f2 w.heap.size o (by omega)).trans (f1 w.heap.size o (by simp))); clear c1 f1 c2 f2 c3 f3))
      refine bodyPost_ret (v := .tuple #[.agg #[.bool (adOf hi lo).v6, .int .u64 (adOf hi lo).hi, .int .u64 (adOf hi lo).lo], .bool true]) (by simp [results, Tryz.results53, go_sem, d]) rfl ⟨rfl, ?_⟩
      exact Below.setCell (Below.setCell (Below.setCell (((((Below.refl _ _).alloc (Nat.le_refl _) _).trans (b1.mono (by simp))).trans (b2.mono (by omega))).trans (b3.mono (by omega))) (Nat.le_refl _) _) (Nat.le_refl _) _) (Nat.le_refl _) _
    | false =>
      rw [if_neg (by simp)] at hr
      subst hr
      go_enter Tryz.func53, Tryz.ntmps53
      go_wp2_with (first | (go_at_call 82; refine (HV.out _).mono ?_; rintro e w1 ⟨rfl, b1⟩; obtain ⟨c1, f1⟩ := bcell b1; have z1 := b1.size; simp at z1) | (go_at_call 55; refine (HV6.out _).mono ?_; rintro e w2 ⟨rfl, b2⟩; obtain ⟨c2, f2⟩ := bcell b2; have z2 := b2.size; have d := fun o => (c2 w.heap.size o (by omega)).trans (c1 w.heap.size o (by simp)); have fd := fun o => (f2 w.heap.size o (by omega)).trans (f1 w.heap.size o (by simp)); clear c1 f1 c2 f2))
      refine bodyPost_ret (v := .tuple #[.agg #[.bool false, .int .u64 0, .int .u64 0], .bool false]) (by simp [results, Tryz.results53, go_sem, d]) rfl ⟨rfl, ?_⟩
      exact Below.setCell (Below.setCell (Below.setCell ((((Below.refl _ _).alloc (Nat.le_refl _) _).trans (b1.mono (by simp))).trans (b2.mono (by omega))) (Nat.le_refl _) _) (Nat.le_refl _) _) (Nat.le_refl _) _
set_option maxRecDepth 100000 in
theorem adText_any (a : Ad) (hf : a.fits) (w : World) : Calls Tryz.prog 63 #[.agg #[.bool a.v6, .int .u64 a.hi, .int .u64 a.lo]] w fun e w' => e = .returned (.string (bs (adText a))) ∧ Below w.heap.size w w' := by
  have hr := adRight_any a hf
  have h6 := v6Text_any a.hi a.lo hf.1 hf.2
  obtain ⟨t, ht⟩ : ∃ t, t = adText a := ⟨_, rfl⟩
  rw [← ht]
  unfold adText at ht
  cases hx : adRight a with
  | false =>
    rw [hx] at ht hr; rw [if_neg (by simp)] at ht
    have HR := Lib.hid hr; clear hr h6
    subst ht
    go_enter Tryz.func63, Tryz.ntmps63
    go_wp2_with (go_at_call 89; refine (HR.out _).mono ?_; rintro e w1 ⟨rfl, b1⟩)
    go_ret
    exact ⟨rfl, ((Below.refl _ _).alloc (Nat.le_refl _) _).trans (b1.mono (by simp))⟩
  | true =>
    rw [hx] at ht hr; rw [if_pos rfl] at ht
    cases hv : a.v6 with
    | true =>
      rw [hv] at ht hr; rw [if_pos rfl] at ht
      rw [← ht] at h6
      have HR := Lib.hid hr; have H6 := Lib.hid h6; clear hr h6
      go_enter Tryz.func63, Tryz.ntmps63
      go_wp2_with (first | (go_at_call 89; refine (HR.out _).mono ?_; rintro e w1 ⟨rfl, b1⟩; obtain ⟨c1, f1⟩ := bcell b1; have z1 := b1.size; simp at z1) | (go_at_call 93; refine (H6.out _).mono ?_; rintro e w2 ⟨rfl, b2⟩))
      go_ret
      exact ⟨ret_str (by rw [ht]), (((Below.refl _ _).alloc (Nat.le_refl _) _).trans (b1.mono (by simp))).trans (b2.mono (by omega))⟩
    | false =>
      have hl : a.lo < 4294967296 := by
        unfold adRight at hx; rw [if_neg (by rw [hv]; simp)] at hx; exact (of_decide_eq_true hx).2
      have h4 := v4Text_any a.lo hl
      have hw : IntKind.u32.wrap (a.lo : Int) = a.lo := IntWalk.u32_in _ (by omega)
      rw [hv] at ht hr; rw [if_neg (by simp)] at ht
      rw [← ht] at h4
      have HR := Lib.hid hr; have H4 := Lib.hid h4; clear hr h6 h4
      go_enter Tryz.func63, Tryz.ntmps63
      go_wp2_with (first | (go_at_call 89; refine (HR.out _).mono ?_; rintro e w1 ⟨rfl, b1⟩; obtain ⟨c1, f1⟩ := bcell b1; have z1 := b1.size; simp at z1) | (go_at_call 94; refine (H4.out _).mono ?_; rintro e w2 ⟨rfl, b2⟩))
      go_ret
      exact ⟨ret_str (by rw [ht]), (((Below.refl _ _).alloc (Nat.le_refl _) _).trans (b1.mono (by simp))).trans (b2.mono (by omega))⟩
set_option maxRecDepth 100000 in
theorem refAdText_any (a : Ad) (hf : a.fits) (w : World) : Calls Tryz.prog 67 #[.agg #[.bool a.v6, .int .u64 a.hi, .int .u64 a.lo]] w fun e w' => e = .returned (.string (bs (adText a))) ∧ Below w.heap.size w w' := by
  have hr := refAdRight_any a hf
  have h6 := ref6Text_any a.hi a.lo hf.1 hf.2
  obtain ⟨t, ht⟩ : ∃ t, t = adText a := ⟨_, rfl⟩
  rw [← ht]
  unfold adText at ht
  cases hx : adRight a with
  | false =>
    rw [hx] at ht hr; rw [if_neg (by simp)] at ht
    have HR := Lib.hid hr; clear hr h6
    subst ht
    go_enter Tryz.func67, Tryz.ntmps67
    go_wp2_with (go_at_call 64; refine (HR.out _).mono ?_; rintro e w1 ⟨rfl, b1⟩)
    go_ret
    exact ⟨rfl, ((Below.refl _ _).alloc (Nat.le_refl _) _).trans (b1.mono (by simp))⟩
  | true =>
    rw [hx] at ht hr; rw [if_pos rfl] at ht
    cases hv : a.v6 with
    | true =>
      rw [hv] at ht hr; rw [if_pos rfl] at ht
      rw [← ht] at h6
      have HR := Lib.hid hr; have H6 := Lib.hid h6; clear hr h6
      go_enter Tryz.func67, Tryz.ntmps67
      go_wp2_with (first | (go_at_call 64; refine (HR.out _).mono ?_; rintro e w1 ⟨rfl, b1⟩; obtain ⟨c1, f1⟩ := bcell b1; have z1 := b1.size; simp at z1) | (go_at_call 95; refine (H6.out _).mono ?_; rintro e w2 ⟨rfl, b2⟩))
      go_ret
      exact ⟨ret_str (by rw [ht]), (((Below.refl _ _).alloc (Nat.le_refl _) _).trans (b1.mono (by simp))).trans (b2.mono (by omega))⟩
    | false =>
      have hl : a.lo < 4294967296 := by
        unfold adRight at hx; rw [if_neg (by rw [hv]; simp)] at hx; exact (of_decide_eq_true hx).2
      have h4 := ref4Text_any a.lo hl
      have hw : IntKind.u32.wrap (a.lo : Int) = a.lo := IntWalk.u32_in _ (by omega)
      rw [hv] at ht hr; rw [if_neg (by simp)] at ht
      rw [← ht] at h4
      have HR := Lib.hid hr; have H4 := Lib.hid h4; clear hr h6 h4
      go_enter Tryz.func67, Tryz.ntmps67
      go_wp2_with (first | (go_at_call 64; refine (HR.out _).mono ?_; rintro e w1 ⟨rfl, b1⟩; obtain ⟨c1, f1⟩ := bcell b1; have z1 := b1.size; simp at z1) | (go_at_call 96; refine (H4.out _).mono ?_; rintro e w2 ⟨rfl, b2⟩))
      go_ret
      exact ⟨ret_str (by rw [ht]), (((Below.refl _ _).alloc (Nat.le_refl _) _).trans (b1.mono (by simp))).trans (b2.mono (by omega))⟩
end Go.Proofs.YtdmobgdgeiiicaaGreat
