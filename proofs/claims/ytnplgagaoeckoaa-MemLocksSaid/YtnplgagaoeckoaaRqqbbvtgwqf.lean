/- Texts put together: MClone. No condition. -/
import Derived.Test.YtnplgagaoeckoaaRruzvpzuhtu
import Derived.Test.YtnplgagaoeckoaaRwanvemwziy
import Derived.Test.YtnplgagaoeckoaaRrlobibzpyi
import Derived.Test.YtnplgagaoeckoaaRows
import Derived.WalkKit
import Derived.WalkSpells
import Derived.Deep.RegionLaw
import Derived.Lib.SliceRun
namespace Go.Proofs.Ytnplgagaoeckoaa
open Go.RowKit

theorem rowEy : RowT Try.prog 32 77 7 56 := RowT.mk (.agg #[.bool false, .int .u64 0, .int .u64 0, .int .i64 0, .int .i64 0, .int .i64 0, .int .i64 0]) Try.underlying32 (by kernel_rfl) rfl (by omega)
set_option maxRecDepth 100000 in
theorem cloneEy (v : Value) (n : Nat) (xs : List Value) (w : World) (h : Reads w v n 7 xs) (h1 : ∀ u ∈ xs, u.oneCell' = true) (hl : n ≤ 1000000) :
    Calls Try.prog 17 #[v] w fun e w' => ∃ r, e = .returned r ∧ w'.ownsRow w.heap.size 77 7 r n xs ∧ Below w.heap.size w w' := by
  obtain ⟨hm, hn, a, c, rfl, h3⟩ := h.open
  have hnil := fun (W : World) (a : Option Addr) (n c : Nat) => Lib.run_eql_slice_nil (P := Try.prog) W 32 77 a n c 0 0 Try.underlying32
  cases a with
  | none =>
    have h0 : n = 0 := by
      rcases Nat.eq_zero_or_pos n with h | h
      · exact h
      · obtain ⟨b, o, e, _⟩ := h3 h; cases e
    subst h0
    have e : xs = [] := List.eq_nil_of_length_eq_zero (by omega)
    subst e
    go_enter Try.func17, Try.ntmps17
    go_wp2_with fail
    go_ret
    exact ⟨_, rfl, World.ownsRow_nil _ _ _ _, Below.refl _ _⟩
  | some ad =>
    have hr : Reads (w.alloc (.cells #[] 77)) (.slice (some ad) n c) n 7 xs := Reads.below h ((Below.refl _ _).alloc (Nat.le_refl _) _)
    go_enter Try.func17, Try.ntmps17
    go_wp2_with (at_builtin; refine list_app_reads rowEy rfl (.tmp 5) (.tmp 6) rfl w.heap.size _ 0 [] rfl (World.ownsRow_made w #[] 0 (Nat.le_refl _) (Nat.zero_le _) rfl) _ n xs rfl hr h1 (by omega) (by omega) (by simp) w.heap.size w ((Below.refl _ _).alloc (Nat.le_refl _) _) (Nat.le_refl _) ?_; intro v' w' hown hb')
    go_ret
    simp only [Nat.zero_add, List.nil_append] at hown
    exact ⟨_, rfl, hown, hb'⟩
theorem rowI : RowT Try.prog 57 3 1 8 := RowT.mk (.int .i64 0) Try.underlying57 (by kernel_rfl) rfl (by omega)
set_option maxRecDepth 100000 in
theorem cloneI (v : Value) (n : Nat) (xs : List Value) (w : World) (h : Reads w v n 1 xs) (h1 : ∀ u ∈ xs, u.oneCell' = true) (hl : n ≤ 1000000) :
    Calls Try.prog 24 #[v] w fun e w' => ∃ r, e = .returned r ∧ w'.ownsRow w.heap.size 3 1 r n xs ∧ Below w.heap.size w w' := by
  obtain ⟨hm, hn, a, c, rfl, h3⟩ := h.open
  have hnil := fun (W : World) (a : Option Addr) (n c : Nat) => Lib.run_eql_slice_nil (P := Try.prog) W 57 3 a n c 0 0 Try.underlying57
  cases a with
  | none =>
    have h0 : n = 0 := by
      rcases Nat.eq_zero_or_pos n with h | h
      · exact h
      · obtain ⟨b, o, e, _⟩ := h3 h; cases e
    subst h0
    have e : xs = [] := List.eq_nil_of_length_eq_zero (by omega)
    subst e
    go_enter Try.func24, Try.ntmps24
    go_wp2_with fail
    go_ret
    exact ⟨_, rfl, World.ownsRow_nil _ _ _ _, Below.refl _ _⟩
  | some ad =>
    have hr : Reads (w.alloc (.cells #[] 3)) (.slice (some ad) n c) n 1 xs := Reads.below h ((Below.refl _ _).alloc (Nat.le_refl _) _)
    go_enter Try.func24, Try.ntmps24
    go_wp2_with (at_builtin; refine list_app_reads rowI rfl (.tmp 5) (.tmp 6) rfl w.heap.size _ 0 [] rfl (World.ownsRow_made w #[] 0 (Nat.le_refl _) (Nat.zero_le _) rfl) _ n xs rfl hr h1 (by omega) (by omega) (by simp) w.heap.size w ((Below.refl _ _).alloc (Nat.le_refl _) _) (Nat.le_refl _) ?_; intro v' w' hown hb')
    go_ret
    simp only [Nat.zero_add, List.nil_append] at hown
    exact ⟨_, rfl, hown, hb'⟩
theorem rowLk : RowT Try.prog 34 63 2 32 := RowT.mk (.agg #[.int .i64 0, .slice none 0 0]) Try.underlying34 (by kernel_rfl) rfl (by omega)
set_option maxRecDepth 100000 in
theorem cloneLk (v : Value) (n : Nat) (xs : List Value) (w : World) (h : Reads w v n 2 xs) (h1 : ∀ u ∈ xs, u.oneCell' = true) (hl : n ≤ 1000000) :
    Calls Try.prog 33 #[v] w fun e w' => ∃ r, e = .returned r ∧ w'.ownsRow w.heap.size 63 2 r n xs ∧ Below w.heap.size w w' := by
  obtain ⟨hm, hn, a, c, rfl, h3⟩ := h.open
  have hnil := fun (W : World) (a : Option Addr) (n c : Nat) => Lib.run_eql_slice_nil (P := Try.prog) W 34 63 a n c 0 0 Try.underlying34
  cases a with
  | none =>
    have h0 : n = 0 := by
      rcases Nat.eq_zero_or_pos n with h | h
      · exact h
      · obtain ⟨b, o, e, _⟩ := h3 h; cases e
    subst h0
    have e : xs = [] := List.eq_nil_of_length_eq_zero (by omega)
    subst e
    go_enter Try.func33, Try.ntmps33
    go_wp2_with fail
    go_ret
    exact ⟨_, rfl, World.ownsRow_nil _ _ _ _, Below.refl _ _⟩
  | some ad =>
    have hr : Reads (w.alloc (.cells #[] 63)) (.slice (some ad) n c) n 2 xs := Reads.below h ((Below.refl _ _).alloc (Nat.le_refl _) _)
    go_enter Try.func33, Try.ntmps33
    go_wp2_with (at_builtin; refine list_app_reads rowLk rfl (.tmp 5) (.tmp 6) rfl w.heap.size _ 0 [] rfl (World.ownsRow_made w #[] 0 (Nat.le_refl _) (Nat.zero_le _) rfl) _ n xs rfl hr h1 (by omega) (by omega) (by simp) w.heap.size w ((Below.refl _ _).alloc (Nat.le_refl _) _) (Nat.le_refl _) ?_; intro v' w' hown hb')
    go_ret
    simp only [Nat.zero_add, List.nil_append] at hown
    exact ⟨_, rfl, hown, hb'⟩
theorem rowSh : RowT Try.prog 33 92 2 32 := RowT.mk (.agg #[.int .i64 0, .slice none 0 0]) Try.underlying33 (by kernel_rfl) rfl (by omega)
set_option maxRecDepth 100000 in
theorem cloneSh (v : Value) (n : Nat) (xs : List Value) (w : World) (h : Reads w v n 2 xs) (h1 : ∀ u ∈ xs, u.oneCell' = true) (hl : n ≤ 1000000) :
    Calls Try.prog 47 #[v] w fun e w' => ∃ r, e = .returned r ∧ w'.ownsRow w.heap.size 92 2 r n xs ∧ Below w.heap.size w w' := by
  obtain ⟨hm, hn, a, c, rfl, h3⟩ := h.open
  have hnil := fun (W : World) (a : Option Addr) (n c : Nat) => Lib.run_eql_slice_nil (P := Try.prog) W 33 92 a n c 0 0 Try.underlying33
  cases a with
  | none =>
    have h0 : n = 0 := by
      rcases Nat.eq_zero_or_pos n with h | h
      · exact h
      · obtain ⟨b, o, e, _⟩ := h3 h; cases e
    subst h0
    have e : xs = [] := List.eq_nil_of_length_eq_zero (by omega)
    subst e
    go_enter Try.func47, Try.ntmps47
    go_wp2_with fail
    go_ret
    exact ⟨_, rfl, World.ownsRow_nil _ _ _ _, Below.refl _ _⟩
  | some ad =>
    have hr : Reads (w.alloc (.cells #[] 92)) (.slice (some ad) n c) n 2 xs := Reads.below h ((Below.refl _ _).alloc (Nat.le_refl _) _)
    go_enter Try.func47, Try.ntmps47
    go_wp2_with (at_builtin; refine list_app_reads rowSh rfl (.tmp 5) (.tmp 6) rfl w.heap.size _ 0 [] rfl (World.ownsRow_made w #[] 0 (Nat.le_refl _) (Nat.zero_le _) rfl) _ n xs rfl hr h1 (by omega) (by omega) (by simp) w.heap.size w ((Below.refl _ _).alloc (Nat.le_refl _) _) (Nat.le_refl _) ?_; intro v' w' hown hb')
    go_ret
    simp only [Nat.zero_add, List.nil_append] at hown
    exact ⟨_, rfl, hown, hb'⟩
theorem rowBn : RowT Try.prog 31 74 5 40 := RowT.mk (.agg #[.bool false, .int .u64 0, .int .u64 0, .int .i64 0, .int .i64 0]) Try.underlying31 (by kernel_rfl) rfl (by omega)
set_option maxRecDepth 100000 in
theorem cloneBn (v : Value) (n : Nat) (xs : List Value) (w : World) (h : Reads w v n 5 xs) (h1 : ∀ u ∈ xs, u.oneCell' = true) (hl : n ≤ 1000000) :
    Calls Try.prog 16 #[v] w fun e w' => ∃ r, e = .returned r ∧ w'.ownsRow w.heap.size 74 5 r n xs ∧ Below w.heap.size w w' := by
  obtain ⟨hm, hn, a, c, rfl, h3⟩ := h.open
  have hnil := fun (W : World) (a : Option Addr) (n c : Nat) => Lib.run_eql_slice_nil (P := Try.prog) W 31 74 a n c 0 0 Try.underlying31
  cases a with
  | none =>
    have h0 : n = 0 := by
      rcases Nat.eq_zero_or_pos n with h | h
      · exact h
      · obtain ⟨b, o, e, _⟩ := h3 h; cases e
    subst h0
    have e : xs = [] := List.eq_nil_of_length_eq_zero (by omega)
    subst e
    go_enter Try.func16, Try.ntmps16
    go_wp2_with fail
    go_ret
    exact ⟨_, rfl, World.ownsRow_nil _ _ _ _, Below.refl _ _⟩
  | some ad =>
    have hr : Reads (w.alloc (.cells #[] 74)) (.slice (some ad) n c) n 5 xs := Reads.below h ((Below.refl _ _).alloc (Nat.le_refl _) _)
    go_enter Try.func16, Try.ntmps16
    go_wp2_with (at_builtin; refine list_app_reads rowBn rfl (.tmp 5) (.tmp 6) rfl w.heap.size _ 0 [] rfl (World.ownsRow_made w #[] 0 (Nat.le_refl _) (Nat.zero_le _) rfl) _ n xs rfl hr h1 (by omega) (by omega) (by simp) w.heap.size w ((Below.refl _ _).alloc (Nat.le_refl _) _) (Nat.le_refl _) ?_; intro v' w' hown hb')
    go_ret
    simp only [Nat.zero_add, List.nil_append] at hown
    exact ⟨_, rfl, hown, hb'⟩
end Go.Proofs.Ytnplgagaoeckoaa
