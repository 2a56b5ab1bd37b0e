/- Texts put together: AddrC. No condition. -/
import Derived.Test.YtdmobgdgeiiicaaGreatRtlefdbkwhc
import Derived.Test.YtdmobgdgeiiicaaGreatRbvqmhgozhw
namespace Go.Proofs.YtdmobgdgeiiicaaGreat
open Go.RowKit

/-- what Parse gives -/
def GivesAd (W : World) (r : Ad × Bool) (en : Ending) (w' : World) : Prop :=
  en = .returned (.tuple #[.agg #[.bool r.1.v6, .int .u64 r.1.hi, .int .u64 r.1.lo], .bool r.2]) ∧ Below W.heap.size W w'
set_option maxRecDepth 100000 in
set_option maxHeartbeats 1000000 in
theorem adParse_any (s : ByteArray) (w : World) (hs : s.size ≤ 4000000000) (hc : Cpu w) : Calls Tryz.prog 72 #[.string s] w (GivesAd w (adParse s.data.toList)) := by
  have hv4 := fun w => v4Parse_any s w (by omega)
  have hv6 := fun w hc => v6Parse_any s w hs hc
  have hl4 := @adParse_lt4 s.data.toList
  have hl6 := v6parse_lt s.data.toList
  obtain ⟨r, hr⟩ : ∃ r, r = adParse s.data.toList := ⟨_, rfl⟩
  rw [← hr]
  unfold adParse at hr
  generalize v4parse s.data.toList = p4 at *
  generalize v6parse s.data.toList = p6 at *
  obtain ⟨n, ok4⟩ := p4
  obtain ⟨hi, lo, ok6⟩ := p6
  simp only at hr hv4 hv6 hl4 hl6
  obtain ⟨l1, l2⟩ := hl6
  cases ok4 with
  | true =>
    have hn := hl4 rfl
    rw [if_pos rfl] at hr
    have HV := Lib.hid hv4; clear hv4 hv6 hl4
    subst hr
    go_enter Tryz.func72, Tryz.ntmps72
    go_wp2_with (first | (go_at_call 102; refine (HV.out _).mono ?_; rintro e w1 ⟨rfl, b1⟩; obtain ⟨c1, f1⟩ := bcell b1; have C1 := Cpu.below (Cpu.below hc ((Below.refl _ _).alloc (Nat.le_refl _) _)) b1; have z1 := b1.size; simp at z1) | (go_at_call 103; refine (v4_any _ (by omega) (by omega) _).mono ?_; rintro e w2 ⟨rfl, b2⟩; obtain ⟨c2, f2⟩ := bcell b2; have d := fun o => (c2 w.heap.size o (by omega)).trans (c1 w.heap.size o (by simp)); have fd := fun o => (f2 w.heap.size o (by omega)).trans (f1 w.heap.size o (by simp)); clear c1 f1 c2 f2))
    refine bodyPost_ret (v := .tuple #[.agg #[.bool false, .int .u64 0, .int .u64 n], .bool true]) (by simp [results, Tryz.results72, go_sem, d]) rfl ⟨rfl, ?_⟩
    exact Below.setCell (Below.setCell (Below.setCell ((((Below.refl _ _).alloc (Nat.le_refl _) _).trans (b1.mono (by simp))).trans (b2.mono (by omega))) (Nat.le_refl _) _) (Nat.le_refl _) _) (Nat.le_refl _) _
  | false =>
    rw [if_neg (by simp)] at hr
    have HV := Lib.hid hv4; have HV6 := Lib.hid hv6; clear hv4 hv6 hl4
    cases ok6 with
    | true =>
      rw [if_pos rfl] at hr
      subst hr
      go_enter Tryz.func72, Tryz.ntmps72
      go_wp2_with (first | (go_at_call 102; refine (HV.out _).mono ?_; rintro e w1 ⟨rfl, b1⟩; obtain ⟨c1, f1⟩ := bcell b1; have C1 := Cpu.below (Cpu.below hc ((Below.refl _ _).alloc (Nat.le_refl _) _)) b1; have z1 := b1.size; simp at z1) | (go_at_call 74; refine (HV6.out _ C1).mono ?_; rintro e w2 ⟨rfl, b2⟩; obtain ⟨c2, f2⟩ := bcell b2; have z2 := b2.size) | (go_at_call 104; refine (adV6_any hi lo l1 l2 _).mono ?_; rintro e w3 ⟨rfl, b3⟩; obtain ⟨c3, f3⟩ := bcell b3; have d := fun o => (c3 w.heap.size o (by omega)).trans ((c2 w.heap.size o (by omega)).trans (c1 w.heap.size o (by simp))); have fd := fun o => (f3 w.heap.size o (by omega)).trans ((f2 w.heap.size o (by omega)).trans (f1 w.heap.size o (by simp))); clear c1 f1 c2 f2 c3 f3))
      refine bodyPost_ret (v := .tuple #[.agg #[.bool (adOf hi lo).v6, .int .u64 (adOf hi lo).hi, .int .u64 (adOf hi lo).lo], .bool true]) (by simp [results, Tryz.results72, go_sem, d]) rfl ⟨rfl, ?_⟩
      exact Below.setCell (Below.setCell (Below.setCell (((((Below.refl _ _).alloc (Nat.le_refl _) _).trans (b1.mono (by simp))).trans (b2.mono (by omega))).trans (b3.mono (by omega))) (Nat.le_refl _) _) (Nat.le_refl _) _) (Nat.le_refl _) _
    | false =>
      rw [if_neg (by simp)] at hr
      subst hr
      go_enter Tryz.func72, Tryz.ntmps72
      go_wp2_with (first | (go_at_call 102; refine (HV.out _).mono ?_; rintro e w1 ⟨rfl, b1⟩; obtain ⟨c1, f1⟩ := bcell b1; have C1 := Cpu.below (Cpu.below hc ((Below.refl _ _).alloc (Nat.le_refl _) _)) b1; have z1 := b1.size; simp at z1) | (go_at_call 74; refine (HV6.out _ C1).mono ?_; rintro e w2 ⟨rfl, b2⟩; obtain ⟨c2, f2⟩ := bcell b2; have z2 := b2.size; have d := fun o => (c2 w.heap.size o (by omega)).trans (c1 w.heap.size o (by simp)); have fd := fun o => (f2 w.heap.size o (by omega)).trans (f1 w.heap.size o (by simp)); clear c1 f1 c2 f2))
      refine bodyPost_ret (v := .tuple #[.agg #[.bool false, .int .u64 0, .int .u64 0], .bool false]) (by simp [results, Tryz.results72, go_sem, d]) rfl ⟨rfl, ?_⟩
      exact Below.setCell (Below.setCell (Below.setCell ((((Below.refl _ _).alloc (Nat.le_refl _) _).trans (b1.mono (by simp))).trans (b2.mono (by omega))) (Nat.le_refl _) _) (Nat.le_refl _) _) (Nat.le_refl _) _
end Go.Proofs.YtdmobgdgeiiicaaGreat
