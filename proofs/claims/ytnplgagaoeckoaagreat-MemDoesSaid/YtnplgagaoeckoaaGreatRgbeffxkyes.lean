/- Texts put together: MClone. No condition. -/
import Derived.Test.YtnplgagaoeckoaaGreatRuzzvrjikhw
import Derived.Test.YtnplgagaoeckoaaGreatRjocmslpnog
import Derived.Test.YtnplgagaoeckoaaGreatRluqwkbtqlq
import Derived.Test.YtnplgagaoeckoaaGreatRrloyafqzcj
import Derived.Test.YtnplgagaoeckoaaGreatRows
import Derived.WalkKit
import Derived.WalkSpells
import Derived.Deep.RegionLaw
import Derived.Lib.SliceRun
set_option maxRecDepth 100000
set_option linter.unusedSimpArgs false
set_option linter.unusedVariables false
namespace Go.Proofs.YtnplgagaoeckoaaGreat
open Go.RowKit
theorem rowEy : RowT Tryz.prog 28 87 7 56 := RowT.mk (.agg #[.bool false, .int .u64 0, .int .u64 0, .int .i64 0, .int .i64 0, .int .i64 0, .int .i64 0]) Tryz.underlying28 (by kernel_rfl) rfl (by omega)
theorem cloneEy (v : Value) (n : Nat) (xs : List Value) (w : World) (h : Reads w v n 7 xs) (h1 : ∀ u ∈ xs, u.oneCell' = true) (hl : n ≤ 1000000) :
  Calls Tryz.prog 33 #[v] w fun e w' => ∃ r, e = .returned r ∧ w'.ownsRow w.heap.size 87 7 r n xs ∧ Below w.heap.size w w' := by
 obtain ⟨hm, hn, a, c, rfl, h3⟩ := h.open
 have hnil := fun (W : World) (a : Option Addr) (n c : Nat) => Lib.run_eql_slice_nil (P := Tryz.prog) W 28 87 a n c 0 0 Tryz.underlying28
 cases a with
 | none =>
  have h0 : n = 0 := by
   rcases Nat.eq_zero_or_pos n with h | h
   ·exact h
   ·obtain ⟨b, o, e, _⟩ := h3 h; cases e
  subst h0
  have e : xs = [] := List.eq_nil_of_length_eq_zero (by omega)
  subst e
  go_enter Tryz.func33, Tryz.ntmps33
  go_wp2_with fail
  go_ret
  exact ⟨_, rfl, World.ownsRow_nil _ _ _ _, Below.refl _ _⟩
 | some ad =>
  have hr : Reads (w.alloc (.cells #[] 87)) (.slice (some ad) n c) n 7 xs := Reads.below h ((Below.refl _ _).alloc (Nat.le_refl _) _)
  go_enter Tryz.func33, Tryz.ntmps33
  go_wp2_with (at_builtin; refine list_app_reads rowEy rfl (.tmp 5) (.tmp 6) rfl w.heap.size _ 0 [] rfl (World.ownsRow_made w #[] 0 (Nat.le_refl _) (Nat.zero_le _) rfl) _ n xs rfl hr h1 (by omega) (by omega) (by simp) w.heap.size w ((Below.refl _ _).alloc (Nat.le_refl _) _) (Nat.le_refl _) ?_; intro v' w' hown hb')
  go_ret
  simp only [Nat.zero_add, List.nil_append] at hown
  exact ⟨_, rfl, hown, hb'⟩
theorem rowI : RowT Tryz.prog 65 3 1 8 := RowT.mk (.int .i64 0) Tryz.underlying65 (by kernel_rfl) rfl (by omega)
theorem cloneI (v : Value) (n : Nat) (xs : List Value) (w : World) (h : Reads w v n 1 xs) (h1 : ∀ u ∈ xs, u.oneCell' = true) (hl : n ≤ 1000000) :
  Calls Tryz.prog 45 #[v] w fun e w' => ∃ r, e = .returned r ∧ w'.ownsRow w.heap.size 3 1 r n xs ∧ Below w.heap.size w w' := by
 obtain ⟨hm, hn, a, c, rfl, h3⟩ := h.open
 have hnil := fun (W : World) (a : Option Addr) (n c : Nat) => Lib.run_eql_slice_nil (P := Tryz.prog) W 65 3 a n c 0 0 Tryz.underlying65
 cases a with
 | none =>
  have h0 : n = 0 := by
   rcases Nat.eq_zero_or_pos n with h | h
   ·exact h
   ·obtain ⟨b, o, e, _⟩ := h3 h; cases e
  subst h0
  have e : xs = [] := List.eq_nil_of_length_eq_zero (by omega)
  subst e
  go_enter Tryz.func45, Tryz.ntmps45
  go_wp2_with fail
  go_ret
  exact ⟨_, rfl, World.ownsRow_nil _ _ _ _, Below.refl _ _⟩
 | some ad =>
  have hr : Reads (w.alloc (.cells #[] 3)) (.slice (some ad) n c) n 1 xs := Reads.below h ((Below.refl _ _).alloc (Nat.le_refl _) _)
  go_enter Tryz.func45, Tryz.ntmps45
  go_wp2_with (at_builtin; refine list_app_reads rowI rfl (.tmp 5) (.tmp 6) rfl w.heap.size _ 0 [] rfl (World.ownsRow_made w #[] 0 (Nat.le_refl _) (Nat.zero_le _) rfl) _ n xs rfl hr h1 (by omega) (by omega) (by simp) w.heap.size w ((Below.refl _ _).alloc (Nat.le_refl _) _) (Nat.le_refl _) ?_; intro v' w' hown hb')
  go_ret
  simp only [Nat.zero_add, List.nil_append] at hown
  exact ⟨_, rfl, hown, hb'⟩
theorem rowLk : RowT Tryz.prog 38 90 2 32 := RowT.mk (.agg #[.int .i64 0, .slice none 0 0]) Tryz.underlying38 (by kernel_rfl) rfl (by omega)
theorem cloneLk (v : Value) (n : Nat) (xs : List Value) (w : World) (h : Reads w v n 2 xs) (h1 : ∀ u ∈ xs, u.oneCell' = true) (hl : n ≤ 1000000) :
  Calls Tryz.prog 70 #[v] w fun e w' => ∃ r, e = .returned r ∧ w'.ownsRow w.heap.size 90 2 r n xs ∧ Below w.heap.size w w' := by
 obtain ⟨hm, hn, a, c, rfl, h3⟩ := h.open
 have hnil := fun (W : World) (a : Option Addr) (n c : Nat) => Lib.run_eql_slice_nil (P := Tryz.prog) W 38 90 a n c 0 0 Tryz.underlying38
 cases a with
 | none =>
  have h0 : n = 0 := by
   rcases Nat.eq_zero_or_pos n with h | h
   ·exact h
   ·obtain ⟨b, o, e, _⟩ := h3 h; cases e
  subst h0
  have e : xs = [] := List.eq_nil_of_length_eq_zero (by omega)
  subst e
  go_enter Tryz.func70, Tryz.ntmps70
  go_wp2_with fail
  go_ret
  exact ⟨_, rfl, World.ownsRow_nil _ _ _ _, Below.refl _ _⟩
 | some ad =>
  have hr : Reads (w.alloc (.cells #[] 90)) (.slice (some ad) n c) n 2 xs := Reads.below h ((Below.refl _ _).alloc (Nat.le_refl _) _)
  go_enter Tryz.func70, Tryz.ntmps70
  go_wp2_with (at_builtin; refine list_app_reads rowLk rfl (.tmp 5) (.tmp 6) rfl w.heap.size _ 0 [] rfl (World.ownsRow_made w #[] 0 (Nat.le_refl _) (Nat.zero_le _) rfl) _ n xs rfl hr h1 (by omega) (by omega) (by simp) w.heap.size w ((Below.refl _ _).alloc (Nat.le_refl _) _) (Nat.le_refl _) ?_; intro v' w' hown hb')
  go_ret
  simp only [Nat.zero_add, List.nil_append] at hown
  exact ⟨_, rfl, hown, hb'⟩
theorem rowSh : RowT Tryz.prog 37 112 2 32 := RowT.mk (.agg #[.int .i64 0, .slice none 0 0]) Tryz.underlying37 (by kernel_rfl) rfl (by omega)
theorem cloneSh (v : Value) (n : Nat) (xs : List Value) (w : World) (h : Reads w v n 2 xs) (h1 : ∀ u ∈ xs, u.oneCell' = true) (hl : n ≤ 1000000) :
  Calls Tryz.prog 97 #[v] w fun e w' => ∃ r, e = .returned r ∧ w'.ownsRow w.heap.size 112 2 r n xs ∧ Below w.heap.size w w' := by
 obtain ⟨hm, hn, a, c, rfl, h3⟩ := h.open
 have hnil := fun (W : World) (a : Option Addr) (n c : Nat) => Lib.run_eql_slice_nil (P := Tryz.prog) W 37 112 a n c 0 0 Tryz.underlying37
 cases a with
 | none =>
  have h0 : n = 0 := by
   rcases Nat.eq_zero_or_pos n with h | h
   ·exact h
   ·obtain ⟨b, o, e, _⟩ := h3 h; cases e
  subst h0
  have e : xs = [] := List.eq_nil_of_length_eq_zero (by omega)
  subst e
  go_enter Tryz.func97, Tryz.ntmps97
  go_wp2_with fail
  go_ret
  exact ⟨_, rfl, World.ownsRow_nil _ _ _ _, Below.refl _ _⟩
 | some ad =>
  have hr : Reads (w.alloc (.cells #[] 112)) (.slice (some ad) n c) n 2 xs := Reads.below h ((Below.refl _ _).alloc (Nat.le_refl _) _)
  go_enter Tryz.func97, Tryz.ntmps97
  go_wp2_with (at_builtin; refine list_app_reads rowSh rfl (.tmp 5) (.tmp 6) rfl w.heap.size _ 0 [] rfl (World.ownsRow_made w #[] 0 (Nat.le_refl _) (Nat.zero_le _) rfl) _ n xs rfl hr h1 (by omega) (by omega) (by simp) w.heap.size w ((Below.refl _ _).alloc (Nat.le_refl _) _) (Nat.le_refl _) ?_; intro v' w' hown hb')
  go_ret
  simp only [Nat.zero_add, List.nil_append] at hown
  exact ⟨_, rfl, hown, hb'⟩
theorem rowBn : RowT Tryz.prog 27 84 5 40 := RowT.mk (.agg #[.bool false, .int .u64 0, .int .u64 0, .int .i64 0, .int .i64 0]) Tryz.underlying27 (by kernel_rfl) rfl (by omega)
theorem cloneBn (v : Value) (n : Nat) (xs : List Value) (w : World) (h : Reads w v n 5 xs) (h1 : ∀ u ∈ xs, u.oneCell' = true) (hl : n ≤ 1000000) :
  Calls Tryz.prog 32 #[v] w fun e w' => ∃ r, e = .returned r ∧ w'.ownsRow w.heap.size 84 5 r n xs ∧ Below w.heap.size w w' := by
 obtain ⟨hm, hn, a, c, rfl, h3⟩ := h.open
 have hnil := fun (W : World) (a : Option Addr) (n c : Nat) => Lib.run_eql_slice_nil (P := Tryz.prog) W 27 84 a n c 0 0 Tryz.underlying27
 cases a with
 | none =>
  have h0 : n = 0 := by
   rcases Nat.eq_zero_or_pos n with h | h
   ·exact h
   ·obtain ⟨b, o, e, _⟩ := h3 h; cases e
  subst h0
  have e : xs = [] := List.eq_nil_of_length_eq_zero (by omega)
  subst e
  go_enter Tryz.func32, Tryz.ntmps32
  go_wp2_with fail
  go_ret
  exact ⟨_, rfl, World.ownsRow_nil _ _ _ _, Below.refl _ _⟩
 | some ad =>
  have hr : Reads (w.alloc (.cells #[] 84)) (.slice (some ad) n c) n 5 xs := Reads.below h ((Below.refl _ _).alloc (Nat.le_refl _) _)
  go_enter Tryz.func32, Tryz.ntmps32
  go_wp2_with (at_builtin; refine list_app_reads rowBn rfl (.tmp 5) (.tmp 6) rfl w.heap.size _ 0 [] rfl (World.ownsRow_made w #[] 0 (Nat.le_refl _) (Nat.zero_le _) rfl) _ n xs rfl hr h1 (by omega) (by omega) (by simp) w.heap.size w ((Below.refl _ _).alloc (Nat.le_refl _) _) (Nat.le_refl _) ?_; intro v' w' hown hb')
  go_ret
  simp only [Nat.zero_add, List.nil_append] at hown
  exact ⟨_, rfl, hown, hb'⟩
end Go.Proofs.YtnplgagaoeckoaaGreat
