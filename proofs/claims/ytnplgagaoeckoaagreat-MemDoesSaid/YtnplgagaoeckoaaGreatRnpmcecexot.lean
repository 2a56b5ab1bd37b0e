/- Texts put together: Del. No condition. -/
import Derived.Test.YtnplgagaoeckoaaGreatRsemyekvhto
import Derived.Test.YtnplgagaoeckoaaGreatRjocmslpnog
import Derived.Deep.RegionLaw
import Derived.Lib.SliceRun
set_option maxRecDepth 100000
set_option linter.unusedSimpArgs false
set_option linter.unusedVariables false
namespace Go.Proofs.YtnplgagaoeckoaaGreat
open Go.RowKit
theorem clonePe (v : Value) (l : List Pe) (w : World) (h : ReadsL peV 10 w v l) (hl : l.length ≤ 1000000) :
  Calls Tryz.prog 99 #[v] w fun e w' => ∃ r, e = .returned r ∧ w'.ownsRow w.heap.size 52 10 r l.length (l.flatMap peV) ∧ Below w.heap.size w w' ∧ (l ≠ [] → ∃ g c, r = .slice (some ⟨g, 0, none⟩) l.length c) := by
 obtain ⟨hm, a, c, rfl, h3⟩ := pes_open h
 have hnil := fun (W : World) (a : Option Addr) (n c : Nat) => Lib.run_eql_slice_nil (P := Tryz.prog) W 29 52 a n c 0 0 Tryz.underlying29
 cases a with
 | none =>
  have h0 : l.length = 0 := by
   rcases Nat.eq_zero_or_pos l.length with h | h
   ·exact h
   ·obtain ⟨b, o, e, _⟩ := h3 h; cases e
  have e : l = [] := List.eq_nil_of_length_eq_zero h0
  subst e
  go_enter Tryz.func99, Tryz.ntmps99
  go_wp2_with fail
  go_ret
  exact ⟨_, rfl, World.ownsRow_nil _ _ _ _, Below.refl _ _, fun h => absurd rfl h⟩
 | some ad =>
  have hr : Reads (w.alloc (.cells #[] 52)) (.slice (some ad) l.length c) l.length 10 (l.flatMap peV) := Reads.below h ((Below.refl _ _).alloc (Nat.le_refl _) _)
  go_enter Tryz.func99, Tryz.ntmps99
  go_wp2_with (at_builtin; refine list_app_reads peRow rfl (.tmp 5) (.tmp 6) rfl w.heap.size _ 0 [] rfl (World.ownsRow_made w #[] 0 (Nat.le_refl _) (Nat.zero_le _) rfl) _ l.length (l.flatMap peV) rfl hr (peV_ones _) (by omega) (by omega) (by simp) w.heap.size w ((Below.refl _ _).alloc (Nat.le_refl _) _) (Nat.le_refl _) ?_; intro v' w' hown hb')
  go_ret
  simp only [Nat.zero_add, List.nil_append] at hown
  refine ⟨_, rfl, hown, hb', fun hne => ?_⟩
  have hp : 0 < l.length := by
   rcases Nat.eq_zero_or_pos l.length with h | h
   ·exact absurd (List.eq_nil_of_length_eq_zero h) hne
   ·exact h
  rcases hown.2 with ⟨_, h0⟩ | ⟨g, cap, cur, rfl, _⟩
  ·omega
  ·exact ⟨_, _, rfl⟩
end Go.Proofs.YtnplgagaoeckoaaGreat
