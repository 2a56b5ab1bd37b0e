/- The contracts of heap and of its reference: what is made anew. -/
import Derived.Test.YtppmjbnhghaffaaHeap
import Derived.Test.YtppmjbnhghaffaaAppend
import Derived.Deep.RegionLaw
namespace Go.Proofs.Ytppmjbnhghaffaa
open Go.RowKit

theorem itRow : RowT Try.prog 41 38 5 40 := RowT.mk (.agg #[.int .i64 0, .bool false, .int .u64 0, .int .u64 0, .int .i64 0]) Try.underlying41 (by kernel_rfl) rfl (by omega)
theorem refItRow : RowT Try.prog 44 39 5 40 := RowT.mk (.agg #[.int .i64 0, .bool false, .int .u64 0, .int .u64 0, .int .i64 0]) Try.underlying44 (by kernel_rfl) rfl (by omega)
theorem itV_one (l : List It) : ∀ u ∈ l.flatMap itV, u.oneCell' = true := by
  intro u hu
  obtain ⟨x, _, hx⟩ := List.mem_flatMap.1 hu
  simp only [itV, List.mem_cons, List.not_mem_nil, or_false] at hx
  rcases hx with rfl | rfl | rfl | rfl | rfl <;> rfl
/-- what a function that hands back a row of things of its own gives -/
def GivesL {α : Type} (f : α → List Value) (T : TypeId) (n : Nat) (W : World) (l : List α) (en : Ending) (w' : World) : Prop := ∃ v, en = .returned v ∧ w'.ownsRow W.heap.size T n v l.length (l.flatMap f) ∧ Below W.heap.size W w'
set_option maxRecDepth 100000 in
theorem cloneIt_any (v : Value) (l : List It) (w : World) (h : ReadsL itV 5 w v l) (hl : l.length ≤ 1000000) : Calls Try.prog 89 #[v] w (GivesL itV 38 5 w l) := by
  obtain ⟨hm, a, c, rfl, h3⟩ := it_open h
  have hnil := fun (W : World) (a : Option Addr) (n c : Nat) => Lib.run_eql_slice_nil (P := Try.prog) W 41 38 a n c 0 0 Try.underlying41
  cases a with
  | none =>
    have h0 : l.length = 0 := by
      rcases Nat.eq_zero_or_pos l.length with h | h
      · exact h
      · obtain ⟨b, o, e, _⟩ := h3 h; cases e
    have e : l = [] := List.eq_nil_of_length_eq_zero h0
    subst e
    go_enter Try.func89, Try.ntmps89
    go_wp2_with fail
    go_ret
    exact ⟨_, rfl, World.ownsRow_nil _ _ _ _, Below.refl _ _⟩
  | some ad =>
    have hr : Reads (w.alloc (.cells #[] 38)) (.slice (some ad) l.length c) l.length 5 (l.flatMap itV) := Reads.below h ((Below.refl _ _).alloc (Nat.le_refl _) _)
    go_enter Try.func89, Try.ntmps89
    go_wp2_with (at_builtin; refine list_app_reads itRow rfl (.tmp 5) (.tmp 6) rfl w.heap.size _ 0 [] rfl (World.ownsRow_made w #[] 0 (Nat.le_refl _) (Nat.zero_le _) rfl) _ l.length (l.flatMap itV) rfl hr (itV_one _) (by omega) (by omega) (by simp) w.heap.size w ((Below.refl _ _).alloc (Nat.le_refl _) _) (Nat.le_refl _) ?_; intro v' w' hown hb')
    go_ret
    simp only [Nat.zero_add, List.nil_append] at hown
    exact ⟨_, rfl, hown, hb'⟩
end Go.Proofs.Ytppmjbnhghaffaa
