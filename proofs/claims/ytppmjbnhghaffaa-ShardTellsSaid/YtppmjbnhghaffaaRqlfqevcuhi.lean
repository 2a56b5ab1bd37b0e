/- Texts put together: Del, OpenW. No condition. -/
import Derived.Test.YtppmjbnhghaffaaRlradtnfsql
import Derived.Test.YtppmjbnhghaffaaRzzzehfclpq
import Derived.Deep.RegionLaw
import Derived.Lib.SliceRun
import Derived.Test.YtppmjbnhghaffaaRhjbbgjhkvr
namespace Go.Proofs.Ytppmjbnhghaffaa
open Go.RowKit

set_option maxRecDepth 100000 in
theorem clonePe (v : Value) (l : List Pe) (w : World) (h : ReadsL peV 10 w v l) (hl : l.length ≤ 1000000) :
    Calls Try.prog 100 #[v] w fun e w' => ∃ r, e = .returned r ∧ w'.ownsRow w.heap.size 66 10 r l.length (l.flatMap peV) ∧ Below w.heap.size w w' ∧ (l ≠ [] → ∃ g c, r = .slice (some ⟨g, 0, none⟩) l.length c) := by
  obtain ⟨hm, a, c, rfl, h3⟩ := pes_open h
  have hnil := fun (W : World) (a : Option Addr) (n c : Nat) => Lib.run_eql_slice_nil (P := Try.prog) W 58 66 a n c 0 0 Try.underlying58
  cases a with
  | none =>
    have h0 : l.length = 0 := by
      rcases Nat.eq_zero_or_pos l.length with h | h
      · exact h
      · obtain ⟨b, o, e, _⟩ := h3 h; cases e
    have e : l = [] := List.eq_nil_of_length_eq_zero h0
    subst e
    go_enter Try.func100, Try.ntmps100
    go_wp2_with fail
    go_ret
    exact ⟨_, rfl, World.ownsRow_nil _ _ _ _, Below.refl _ _, fun h => absurd rfl h⟩
  | some ad =>
    have hr : Reads (w.alloc (.cells #[] 66)) (.slice (some ad) l.length c) l.length 10 (l.flatMap peV) := Reads.below h ((Below.refl _ _).alloc (Nat.le_refl _) _)
    go_enter Try.func100, Try.ntmps100
    go_wp2_with (at_builtin; refine list_app_reads peRow rfl (.tmp 5) (.tmp 6) rfl w.heap.size _ 0 [] rfl (World.ownsRow_made w #[] 0 (Nat.le_refl _) (Nat.zero_le _) rfl) _ l.length (l.flatMap peV) rfl hr (peV_ones _) (by omega) (by omega) (by simp) w.heap.size w ((Below.refl _ _).alloc (Nat.le_refl _) _) (Nat.le_refl _) ?_; intro v' w' hown hb')
    go_ret
    simp only [Nat.zero_add, List.nil_append] at hown
    refine ⟨_, rfl, hown, hb', fun hne => ?_⟩
    have hp : 0 < l.length := by
      rcases Nat.eq_zero_or_pos l.length with h | h
      · exact absurd (List.eq_nil_of_length_eq_zero h) hne
      · exact h
    rcases hown.2 with ⟨_, h0⟩ | ⟨g, cap, cur, rfl, _⟩
    · omega
    · exact ⟨_, _, rfl⟩

end Go.Proofs.Ytppmjbnhghaffaa
namespace Go.Proofs.Ytppmjbnhghaffaa
open Go.ChangeShapes Go.WideShapes Go.ChangeAt Go.RowKit Go.Deep

/-- what reads at type t is laid out as f lays out a datum, whose slices are told by the world -/
def OpensW {α : Type} (P : Program) (t : TypeId) (f : α → List Value) (good : World → α → Prop) : Prop :=
  ∀ (H : Type) (enc : TypeId × Value → H) (w : World) (fuel : Nat) (cs : List Value) (x : DataW H × List MemPlace), DataW.trod enc P w 0 (fun _ => true) true fuel t cs = some x → ∃ d, good w d ∧ cs = f d
theorem Opens.w {α : Type} {P : Program} {t : TypeId} {f : α → List Value} {good : α → Prop} (O : Opens P t f good) : OpensW P t f (fun _ => good) :=
  fun H enc w fuel cs x h => O H enc w _ _ _ _ _ _ h
theorem OpensW.map {P : Program} {t : TypeId} {α β : Type} {f : α → List Value} {g : β → List Value} {good : World → α → Prop} {good' : World → β → Prop} (O : OpensW P t f good) (h : ∀ w d, good w d → ∃ d', good' w d' ∧ f d = g d') : OpensW P t g good' := by
  intro H enc w fuel cs x hx
  obtain ⟨d, h1, h2⟩ := O H enc w _ _ _ hx
  obtain ⟨d', h3, h4⟩ := h w d h1
  exact ⟨d', h3, by rw [h2, h4]⟩
theorem opensW_slice {P : Program} {t e : TypeId} {α : Type} {f : α → List Value} {good : World → α → Prop} {n : Nat} (O : OpensW P e f good) (hf : ∀ x, (f x).length = n) (hn : 0 < n) (ht : P.underlying t = some (.slice e)) (hc : P.cellsOf e = n) :
    OpensW P t (fun p : Value × List α => [p.1]) (fun w p => ReadsL f n w p.1 p.2 ∧ ∀ x ∈ p.2, good w x) := by
  intro H enc W fuel cs x hft
  rcases open_slice ht hft with ⟨hcs, _⟩ | ⟨a', len', cap', m, k, D, Pl, hcs, _, hl, hm, hmm, _, hi⟩
  · subst hcs
    exact ⟨(.slice none 0 0, []), ⟨ReadsL.nil f n W none 0, fun x hx => by simp at hx⟩, rfl⟩
  · subst hcs
    simp only [if_true] at hmm
    obtain ⟨l, h1, h2⟩ := all_list (Q := fun i x => good W x ∧ ∀ j u, (f x)[j]? = some u → W.cell? ((a'.add (i * n)).add j) = some u) len' (fun i hi' => by
      obtain ⟨cs', hcells, htr⟩ := hi i (by omega)
      obtain ⟨x, hg, hx⟩ := O H enc W _ _ _ htr
      obtain ⟨_, hcl, hat⟩ := World.cells?_some hcells
      rw [hc] at hcl hat
      refine ⟨x, hg, fun j u hj => ?_⟩
      have hjn : j < n := by have := (List.getElem?_eq_some_iff.1 hj).1; rw [hf] at this; exact this
      rw [hat j hjn, hx]; exact hj)
    refine ⟨(.slice (some a') len' cap', l), ⟨?_, fun x hx => by
      obtain ⟨i, hi'⟩ := List.mem_iff_getElem?.1 hx
      exact (h2 i x hi').1⟩, rfl⟩
    unfold ReadsL
    simp only
    rw [h1]
    refine ⟨by rw [flat_len f n hf, h1], by unfold maxLen at hm; omega, ?_⟩
    by_cases h0 : len' = 0
    · exact Or.inl ⟨h0, some a', cap', by rw [h0]⟩
    · have hlen : 0 < l.length := by omega
      obtain ⟨x0, hx0⟩ : ∃ x, l[0]? = some x := ⟨_, List.getElem?_eq_getElem hlen⟩
      obtain ⟨u0, hu0⟩ : ∃ u, (f x0)[0]? = some u := ⟨_, List.getElem?_eq_getElem (by rw [hf]; exact hn)⟩
      have hc0 := (h2 0 x0 hx0).2 0 u0 hu0
      have e0 : a'.add (0 * n) = a' := by rw [Nat.zero_mul]; unfold Addr.add; rw [if_pos rfl]
      rw [e0] at hc0
      have hsp := addr_spot hc0
      obtain ⟨b, o, sp⟩ := a'
      simp only at hsp; subst hsp
      refine Or.inr ⟨by omega, b, o, cap', rfl, hl, ?_, ?_⟩
      · have := block_lt_of_cell hc0
        rw [addr_add0] at this; exact this
      · intro j u hj
        have hjl := (List.getElem?_eq_some_iff.1 hj).1
        rw [flat_len f n hf] at hjl
        have hdm : j = (j / n) * n + j % n := by have := Nat.div_add_mod j n; rw [Nat.mul_comm] at this; omega
        have hq : j / n < l.length := (Nat.div_lt_iff_lt_mul hn).2 hjl
        have hr : j % n < n := Nat.mod_lt _ hn
        have hget := List.getElem?_eq_getElem hq
        rw [hdm, flat_get f n hf l (j / n) _ hget _ hr] at hj
        have := (h2 (j / n) _ hget).2 (j % n) u hj
        rw [addr_add0, addr_add0, Nat.add_assoc, ← hdm] at this
        exact this
/-- the fields of a struct, from some offset on -/
def OpensWF {α : Type} (P : Program) (fs : List Field) (off m : Nat) (f : α → List Value) (good : World → α → Prop) : Prop :=
  ∀ (H : Type) (enc : TypeId × Value → H) (w : World) (fuel : Nat) (cs : List Value),
    (∀ (i : Nat) (fd : Field), fs[i]? = some fd → ∃ y, DataW.trod enc P w 0 (fun _ => true) true fuel fd.type ((cs.drop fd.offset).take (P.cellsOf fd.type)) = some y) → ∃ d, good w d ∧ (cs.drop off).take m = f d
theorem opensWF_nil {P : Program} {off : Nat} : OpensWF P [] off 0 (fun _ : Unit => []) (fun _ _ => True) := by
  intro H enc w fuel cs _; exact ⟨(), trivial, by simp⟩
theorem opensWF_cons {P : Program} {fd : Field} {fs : List Field} {off n m : Nat} {α β : Type} {g : α → List Value} {f : β → List Value} {good1 : World → α → Prop} {good2 : World → β → Prop} (O : OpensW P fd.type g good1) (hn : P.cellsOf fd.type = n) (ho : fd.offset = off) (R : OpensWF P fs (off + n) m f good2) :
    OpensWF P (fd :: fs) off (n + m) (fun p : α × β => g p.1 ++ f p.2) (fun w p => good1 w p.1 ∧ good2 w p.2) := by
  intro H enc w fuel cs h
  obtain ⟨y, hy⟩ := h 0 fd rfl
  obtain ⟨a, h1, h2⟩ := O H enc w _ _ _ hy
  obtain ⟨b, h3, h4⟩ := R H enc w fuel cs (fun i fd' hi => h (i + 1) fd' (by simpa using hi))
  refine ⟨(a, b), ⟨h1, h3⟩, ?_⟩
  rw [ho, hn] at h2
  rw [List.take_add, h2, List.drop_drop, h4]
theorem opensW_of_fields {P : Program} {t : TypeId} {fs : Array Field} {m : Nat} {α : Type} {f : α → List Value} {good : World → α → Prop} (ht : P.underlying t = some (.struct fs)) (R : OpensWF P fs.toList 0 m f good) (hc : P.cellsOf t = m) : OpensW P t f good := by
  intro H enc w fuel cs x h
  obtain ⟨xs, n, _, _, hlen, hxl, hf⟩ := DataW.trod_struct ht h
  obtain ⟨d, h1, h2⟩ := R H enc w n cs (fun i fd hi => by
    have hi' : fs[i]? = some fd := by rw [← Array.getElem?_toList]; exact hi
    have := (Array.getElem?_eq_some_iff.1 hi').1
    exact ⟨_, (hf i fd hi').trans (List.getElem?_eq_getElem (l := xs) (i := i) (by rw [hxl]; exact this))⟩)
  refine ⟨d, h1, ?_⟩
  rw [List.drop_zero, List.take_of_length_le (by rw [hlen, hc]; exact Nat.le_refl _)] at h2
  exact h2
section
variable {H : Type} {enc : TypeId × Value → H} {P : Program} {W : World}
/-- a slice of things that may hold slices -/
theorem open_listW {r : Reach} {base : Nat} {t e : TypeId} {v : Value} {d : DataW H} {ps : List MemPlace} {α : Type} {f : α → List Value} {good : World → α → Prop} {n : Nat} (O : OpensW P e f good) (hf : ∀ x, (f x).length = n) (hn : 0 < n) (ht : P.underlying t = some (.slice e)) (hc : P.cellsOf e = n)
    (hval : Value.okWide P W r base t v) (h : DataW.Trod enc P W 0 (fun _ => true) true t v d ps) : ∃ l : List α, ReadsL f n W v l ∧ ∀ x ∈ l, good W x := by
  obtain ⟨a, len, cap, rfl⟩ := okWide_slice ht hval
  obtain ⟨fuel, hft⟩ := h
  obtain ⟨⟨v, l⟩, h1, h2⟩ := opensW_slice O hf hn ht hc H enc W _ _ _ hft
  simp [Value.cells] at h2
  rw [h2]; exact ⟨l, h1⟩
end
end Go.Proofs.Ytppmjbnhghaffaa
