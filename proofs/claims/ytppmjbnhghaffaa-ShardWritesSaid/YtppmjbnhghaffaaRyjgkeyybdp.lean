/- Texts put together: Del, OpenW. No condition. -/
import Derived.Test.YtppmjbnhghaffaaRyrzbrhmcfv
import Derived.Test.YtppmjbnhghaffaaRymkpzkkibi
import Derived.Deep.RegionLaw
import Derived.Lib.SliceRun
import Derived.Test.YtppmjbnhghaffaaRybrqueqbby
namespace Go.Proofs.Ytppmjbnhghaffaa
open Go.RowKit

set_option maxRecDepth 100000 in
theorem clonePe (v : Value) (l : List Pe) (w : World) (h : ReadsL peV 10 w v l) (hl : l.length ≤ 1000000) :
    Calls Try.prog 100 #[v] w fun e w' => ∃ r, e = .returned r ∧ w'.ownsRow w.heap.size 66 10 r l.length (l.flatMap peV) ∧ Below w.heap.size w w' ∧ (l ≠ [] → ∃ g c, r = .slice (some ⟨g, 0, none⟩) l.length c) := by
  obtain ⟨hm, a, c, rfl, h3⟩ := pes_open h
  have hnil := fun (W : World) (a : Option Addr) (n c : Nat) => Lib.run_eql_slice_nil (P := Try.prog) W 58 66 a n c 0 0 Try.underlying58
  cases a with
  | none =>
    have h0 : l.length = 0 := by
      rcases Nat.eq_zero_or_pos l.length with h | h
      · exact h
      · obtain ⟨b, o, e, _⟩ := h3 h; cases e
    have e : l = [] := List.eq_nil_of_length_eq_zero h0
    subst e
    go_enter Try.func100, Try.ntmps100
    go_wp2_with fail
    go_ret
    exact ⟨_, rfl, World.ownsRow_nil _ _ _ _, Below.refl _ _, fun h => absurd rfl h⟩
  | some ad =>
    have hr : Reads (w.alloc (.cells #[] 66)) (.slice (some ad) l.length c) l.length 10 (l.flatMap peV) := Reads.below h ((Below.refl _ _).alloc (Nat.le_refl _) _)
    go_enter Try.func100, Try.ntmps100
    go_wp2_with (at_builtin; refine list_app_reads peRow rfl (.tmp 5) (.tmp 6) rfl w.heap.size _ 0 [] rfl (World.ownsRow_made w #[] 0 (Nat.le_refl _) (Nat.zero_le _) rfl) _ l.length (l.flatMap peV) rfl hr (peV_ones _) (by omega) (by omega) (by simp) w.heap.size w ((Below.refl _ _).alloc (Nat.le_refl _) _) (Nat.le_refl _) ?_; intro v' w' hown hb')
    go_ret
    simp only [Nat.zero_add, List.nil_append] at hown
    refine ⟨_, rfl, hown, hb', fun hne => ?_⟩
    have hp : 0 < l.length := by
      rcases Nat.eq_zero_or_pos l.length with h | h
      · exact absurd (List.eq_nil_of_length_eq_zero h) hne
      · exact h
    rcases hown.2 with ⟨_, h0⟩ | ⟨g, cap, cur, rfl, _⟩
    · omega
    · exact ⟨_, _, rfl⟩

theorem pe_take (l : List Pe) (i : Nat) : (l.flatMap peV).take (i * 10) = (l.take i).flatMap peV := by
  rcases Nat.lt_or_ge l.length i with h | h
  · rw [List.take_of_length_le (by rw [pes_len]; omega), List.take_of_length_le (by omega)]
  · conv => lhs; rw [← List.take_append_drop i l, List.flatMap_append]
    have e : i * 10 = ((l.take i).flatMap peV).length := by rw [pes_len, List.length_take, Nat.min_eq_left h]
    rw [e]; exact List.take_left
theorem zeroPe (w : World) : (zeroValue 66).run Try.prog w = .ok (.agg #[.bool false, .int .u64 0, .int .u64 0, .int .i64 0, .bool false, .int .i64 0, .int .i64 0, .int .i64 0, .int .i64 0, .int .i64 0]) w := by
  have hi : (Try.prog.info? 66).map (fun i => (i.zero, i.size, i.bytes)) = some (some (.agg #[.bool false, .int .u64 0, .int .u64 0, .int .i64 0, .bool false, .int .i64 0, .int .i64 0, .int .i64 0, .int .i64 0, .int .i64 0]), 10, 80) := by kernel_rfl
  obtain ⟨i, hi, hz0, _⟩ := info_parts hi
  simp [zeroValue, typeInfo, hi, hz0]
end Go.Proofs.Ytppmjbnhghaffaa
namespace Go.Proofs.Ytppmjbnhghaffaa
open Go.ChangeShapes Go.WideShapes Go.ChangeAt Go.RowKit Go.Deep

/-- what reads at type t is laid out as f lays out a datum, whose slices are told by the world -/
def OpensW {α : Type} (P : Program) (t : TypeId) (f : α → List Value) (good : World → α → Prop) : Prop :=
  ∀ (H : Type) (enc : TypeId × Value → H) (w : World) (fuel : Nat) (cs : List Value) (x : DataW H × List MemPlace), DataW.trod enc P w 0 (fun _ => true) true fuel t cs = some x → ∃ d, good w d ∧ cs = f d
theorem Opens.w {α : Type} {P : Program} {t : TypeId} {f : α → List Value} {good : α → Prop} (O : Opens P t f good) : OpensW P t f (fun _ => good) :=
  fun H enc w fuel cs x h => O H enc w _ _ _ _ _ _ h
theorem OpensW.map {P : Program} {t : TypeId} {α β : Type} {f : α → List Value} {g : β → List Value} {good : World → α → Prop} {good' : World → β → Prop} (O : OpensW P t f good) (h : ∀ w d, good w d → ∃ d', good' w d' ∧ f d = g d') : OpensW P t g good' := by
  intro H enc w fuel cs x hx
  obtain ⟨d, h1, h2⟩ := O H enc w _ _ _ hx
  obtain ⟨d', h3, h4⟩ := h w d h1
  exact ⟨d', h3, by rw [h2, h4]⟩
section
variable {H : Type} {enc : TypeId × Value → H} {P : Program} {W : World}
end
end Go.Proofs.Ytppmjbnhghaffaa
