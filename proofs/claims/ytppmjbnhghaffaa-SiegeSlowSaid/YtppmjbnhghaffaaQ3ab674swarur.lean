/- Texts put together: OpenS, OpenW. No condition. -/
import Derived.Test.YtppmjbnhghaffaaRows
import Derived.Test.YtppmjbnhghaffaaOpen
import Derived.Test.YtppmjbnhghaffaaQba21a9snclba
import Derived.Deep.Slices
import Derived.KernelRfl
/- How arguments that are structs, and slices of structs, are opened. No condition. -/
namespace Go.Proofs.Ytppmjbnhghaffaa
open Go.ChangeShapes Go.WideShapes Go.ChangeAt Go.RowKit Go.Deep

/-- what reads at type t is laid out as f lays out a datum -/
def Opens {α : Type} (P : Program) (t : TypeId) (f : α → List Value) (good : α → Prop) : Prop :=
  ∀ (H : Type) (enc : TypeId × Value → H) (w : World) (base : Nat) (spare : Nat → Bool) (held : Bool) (fuel : Nat) (cs : List Value) (x : DataW H × List MemPlace), DataW.trod enc P w base spare held fuel t cs = some x → ∃ d, good d ∧ cs = f d
theorem opens_i64 {P : Program} {t : TypeId} (ht : P.underlying t = some (.int .i64)) : Opens P t (fun n : Int => [.int .i64 n]) (fun n => -9223372036854775808 ≤ n ∧ n ≤ 9223372036854775807) := by
  intro H enc w base spare held fuel cs x h
  obtain ⟨n, h1, _, h3⟩ := DataW.trod_int ht h
  exact ⟨n, by simpa [Lit.wf, IntKind.min, IntKind.max, IntKind.signed, IntKind.bits] using h3, h1⟩
theorem opens_u64 {P : Program} {t : TypeId} (ht : P.underlying t = some (.int .u64)) : Opens P t (fun n : Nat => [.int .u64 n]) (fun n => n < 18446744073709551616) := by
  intro H enc w base spare held fuel cs x h
  obtain ⟨n, h1, _, h3⟩ := DataW.trod_int ht h
  have h3 : 0 ≤ n ∧ n ≤ 18446744073709551615 := by simpa [Lit.wf, IntKind.min, IntKind.max, IntKind.signed, IntKind.bits] using h3
  exact ⟨n.toNat, by omega, by rw [h1]; congr 2; omega⟩
theorem boolV_len (b : Bool) : ((fun b : Bool => [Value.bool b]) b).length = 1 := rfl
theorem opens_bool {P : Program} {t : TypeId} (ht : P.underlying t = some .bool) : Opens P t (fun b : Bool => [.bool b]) (fun _ => True) := by
  intro H enc w base spare held fuel cs x h
  obtain ⟨b, h1, _⟩ := DataW.trod_bool ht h
  exact ⟨b, trivial, h1⟩
theorem all_list {α : Type} {Q : Nat → α → Prop} : ∀ n : Nat, (∀ i, i < n → ∃ d, Q i d) → ∃ l : List α, l.length = n ∧ ∀ i d, l[i]? = some d → Q i d := by
  intro n
  induction n with
  | zero => intro _; exact ⟨[], rfl, fun i d h => by simp at h⟩
  | succ n ih =>
    intro h
    obtain ⟨l, h1, h2⟩ := ih (fun i hi => h i (by omega))
    obtain ⟨d, hd⟩ := h n (by omega)
    refine ⟨l ++ [d], by simp [h1], fun i e he => ?_⟩
    by_cases hi : i < l.length
    · rw [List.getElem?_append_left hi] at he; exact h2 i e he
    · have hl := (List.getElem?_eq_some_iff.1 he).1
      simp at hl
      obtain rfl : i = l.length := by omega
      rw [List.getElem?_append_right (Nat.le_refl _)] at he
      simp at he; subst he; rw [h1]; exact hd
theorem addr_add0 (b o j : Nat) : (⟨b, o, none⟩ : Addr).add j = ⟨b, o + j, none⟩ := by unfold Addr.add; split <;> simp_all
theorem addr_spot {w : World} {a : Addr} {v : Value} (h : w.cell? (a.add 0) = some v) : a.spot = none := by
  unfold World.cell? at h
  cases hsp : a.spot with
  | none => rfl
  | some q =>
    have : (a.add 0).spot.isSome = true := by unfold Addr.add; rw [if_pos rfl, hsp]; rfl
    split at h
    · rw [if_pos this] at h; cases h
    · cases h
section
variable {H : Type} {enc : TypeId × Value → H} {P : Program} {W : World}
/-- a struct by value -/
theorem open_struct {r : Reach} {base : Nat} {t : TypeId} {v : Value} {d : DataW H} {ps : List MemPlace} {α : Type} {f : α → List Value} {good : α → Prop} {fs : Array Field} (O : Opens P t f good) (ht : P.underlying t = some (.struct fs))
    (hval : Value.okWide P W r base t v) (h : DataW.Trod enc P W 0 (fun _ => true) true t v d ps) : ∃ x : α, v = .agg (f x).toArray ∧ good x := by
  obtain ⟨cs, rfl, _⟩ := okWide_struct ht hval
  obtain ⟨fuel, hf⟩ := h
  obtain ⟨x, h1, h2⟩ := O H enc W _ _ _ _ _ _ hf
  refine ⟨x, ?_, h1⟩
  simp only [Value.cells] at h2
  rw [← h2]
theorem okWide_array {n : Nat} {e : TypeId} {r : Reach} {base : Nat} {t : TypeId} {v : Value} (ht : P.underlying t = some (.array n e)) (h : Value.okWide P W r base t v) : ∃ cs, v = .agg cs ∧ cs.size = P.cellsOf t := by
  simp only [Value.okWide, ht] at h
  obtain ⟨cs, h1, h2, _⟩ := h
  exact ⟨cs, h1, h2⟩
/-- an array by value -/
theorem open_arr {r : Reach} {base n : Nat} {t e : TypeId} {v : Value} {d : DataW H} {ps : List MemPlace} {α : Type} {f : α → List Value} {good : α → Prop} (O : Opens P t f good) (ht : P.underlying t = some (.array n e))
    (hval : Value.okWide P W r base t v) (h : DataW.Trod enc P W 0 (fun _ => true) true t v d ps) : ∃ x : α, v = .agg (f x).toArray ∧ good x := by
  obtain ⟨cs, rfl, _⟩ := okWide_array ht hval
  obtain ⟨fuel, hf⟩ := h
  obtain ⟨x, h1, h2⟩ := O H enc W _ _ _ _ _ _ hf
  refine ⟨x, ?_, h1⟩
  simp only [Value.cells] at h2
  rw [← h2]
/-- a slice of things that are laid out alike -/
theorem open_list {r : Reach} {base : Nat} {t e : TypeId} {v : Value} {d : DataW H} {ps : List MemPlace} {α : Type} {f : α → List Value} {good : α → Prop} {n : Nat} (O : Opens P e f good) (hf : ∀ x, (f x).length = n) (hn : 0 < n) (ht : P.underlying t = some (.slice e)) (hc : P.cellsOf e = n)
    (hval : Value.okWide P W r base t v) (h : DataW.Trod enc P W 0 (fun _ => true) true t v d ps) : ∃ l : List α, ReadsL f n W v l ∧ ∀ x ∈ l, good x := by
  obtain ⟨a, len, cap, rfl⟩ := okWide_slice ht hval
  obtain ⟨fuel, hft⟩ := h
  rcases open_slice ht hft with ⟨hcs, _⟩ | ⟨a', len', cap', m, k, D, Pl, hcs, _, hl, hm, hmm, _, hi⟩
  · simp [Value.cells] at hcs
    obtain ⟨rfl, rfl, rfl⟩ := hcs
    exact ⟨[], ReadsL.nil f n W none 0, fun x hx => by simp at hx⟩
  · simp [Value.cells] at hcs
    obtain ⟨rfl, rfl, rfl⟩ := hcs
    simp only [if_true] at hmm
    obtain ⟨l, h1, h2⟩ := all_list (Q := fun i x => good x ∧ ∀ j u, (f x)[j]? = some u → W.cell? ((a'.add (i * n)).add j) = some u) len (fun i hi' => by
      obtain ⟨cs', hcells, htr⟩ := hi i (by omega)
      obtain ⟨x, hg, hx⟩ := O H enc W _ _ _ _ _ _ htr
      obtain ⟨_, hcl, hat⟩ := World.cells?_some hcells
      rw [hc] at hcl hat
      refine ⟨x, hg, fun j u hj => ?_⟩
      have hjn : j < n := by have := (List.getElem?_eq_some_iff.1 hj).1; rw [hf] at this; exact this
      rw [hat j hjn, hx]; exact hj)
    refine ⟨l, ?_, fun x hx => by
      obtain ⟨i, hi'⟩ := List.mem_iff_getElem?.1 hx
      exact (h2 i x hi').1⟩
    unfold ReadsL
    rw [h1]
    refine ⟨by rw [flat_len f n hf, h1], by unfold maxLen at hm; omega, ?_⟩
    by_cases h0 : len = 0
    · exact Or.inl ⟨h0, some a', cap, by rw [h0]⟩
    · have hlen : 0 < l.length := by omega
      obtain ⟨x0, hx0⟩ : ∃ x, l[0]? = some x := ⟨_, List.getElem?_eq_getElem hlen⟩
      obtain ⟨u0, hu0⟩ : ∃ u, (f x0)[0]? = some u := ⟨_, List.getElem?_eq_getElem (by rw [hf]; exact hn)⟩
      have hc0 := (h2 0 x0 hx0).2 0 u0 hu0
      have e0 : a'.add (0 * n) = a' := by rw [Nat.zero_mul]; unfold Addr.add; rw [if_pos rfl]
      rw [e0] at hc0
      have hsp := addr_spot hc0
      obtain ⟨b, o, sp⟩ := a'
      simp only at hsp; subst hsp
      refine Or.inr ⟨by omega, b, o, cap, rfl, hl, ?_, ?_⟩
      · have := block_lt_of_cell hc0
        rw [addr_add0] at this; exact this
      · intro j u hj
        have hjl := (List.getElem?_eq_some_iff.1 hj).1
        rw [flat_len f n hf] at hjl
        have hdm : j = (j / n) * n + j % n := by have := Nat.div_add_mod j n; rw [Nat.mul_comm] at this; omega
        have hq : j / n < l.length := (Nat.div_lt_iff_lt_mul hn).2 hjl
        have hr : j % n < n := Nat.mod_lt _ hn
        have hget := List.getElem?_eq_getElem hq
        rw [hdm, flat_get f n hf l (j / n) _ hget _ hr] at hj
        have := (h2 (j / n) _ hget).2 (j % n) u hj
        rw [addr_add0, addr_add0, Nat.add_assoc, ← hdm] at this
        exact this
end
/-- the fields of a struct, from some offset on: m cells in all -/
def OpensF {α : Type} (P : Program) (fs : List Field) (off m : Nat) (f : α → List Value) (good : α → Prop) : Prop :=
  ∀ (H : Type) (enc : TypeId × Value → H) (w : World) (base : Nat) (spare : Nat → Bool) (held : Bool) (fuel : Nat) (cs : List Value),
    (∀ (i : Nat) (fd : Field), fs[i]? = some fd → ∃ y, DataW.trod enc P w base spare held fuel fd.type ((cs.drop fd.offset).take (P.cellsOf fd.type)) = some y) → ∃ d, good d ∧ (cs.drop off).take m = f d
theorem opensF_nil {P : Program} {off : Nat} : OpensF P [] off 0 (fun _ : Unit => []) (fun _ => True) := by
  intro H enc w base spare held fuel cs _; exact ⟨(), trivial, by simp⟩
theorem opensF_cons {P : Program} {fd : Field} {fs : List Field} {off n m : Nat} {α β : Type} {g : α → List Value} {f : β → List Value} {good1 : α → Prop} {good2 : β → Prop} (O : Opens P fd.type g good1) (hn : P.cellsOf fd.type = n) (ho : fd.offset = off) (R : OpensF P fs (off + n) m f good2) :
    OpensF P (fd :: fs) off (n + m) (fun p : α × β => g p.1 ++ f p.2) (fun p => good1 p.1 ∧ good2 p.2) := by
  intro H enc w base spare held fuel cs h
  obtain ⟨y, hy⟩ := h 0 fd rfl
  obtain ⟨a, h1, h2⟩ := O H enc w _ _ _ _ _ _ hy
  obtain ⟨b, h3, h4⟩ := R H enc w base spare held fuel cs (fun i fd' hi => h (i + 1) fd' (by simpa using hi))
  refine ⟨(a, b), ⟨h1, h3⟩, ?_⟩
  rw [ho, hn] at h2
  rw [List.take_add, h2, List.drop_drop, h4]
theorem opens_of_fields {P : Program} {t : TypeId} {fs : Array Field} {m : Nat} {α : Type} {f : α → List Value} {good : α → Prop} (ht : P.underlying t = some (.struct fs)) (R : OpensF P fs.toList 0 m f good) (hc : P.cellsOf t = m) : Opens P t f good := by
  intro H enc w base spare held fuel cs x h
  obtain ⟨xs, n, _, _, hlen, hxl, hf⟩ := DataW.trod_struct ht h
  obtain ⟨d, h1, h2⟩ := R H enc w base spare held n cs (fun i fd hi => by
    have hi' : fs[i]? = some fd := by rw [← Array.getElem?_toList]; exact hi
    have := (Array.getElem?_eq_some_iff.1 hi').1
    exact ⟨_, (hf i fd hi').trans (List.getElem?_eq_getElem (l := xs) (i := i) (by rw [hxl]; exact this))⟩)
  refine ⟨d, h1, ?_⟩
  rw [List.drop_zero, List.take_of_length_le (by rw [hlen, hc]; exact Nat.le_refl _)] at h2
  exact h2
theorem Opens.map {P : Program} {t : TypeId} {α β : Type} {f : α → List Value} {g : β → List Value} {good : α → Prop} {good' : β → Prop} (O : Opens P t f good) (h : ∀ d, good d → ∃ d', good' d' ∧ f d = g d') : Opens P t g good' := by
  intro H enc w base spare held fuel cs x hx
  obtain ⟨d, h1, h2⟩ := O H enc w _ _ _ _ _ _ hx
  obtain ⟨d', h3, h4⟩ := h d h1
  exact ⟨d', h3, by rw [h2, h4]⟩
/-- two whole numbers, as an array -/
def twoV (p : Int × Int) : List Value := [.int .i64 p.1, .int .i64 p.2]
theorem opens_arr2 {P : Program} {t e : TypeId} (ht : P.underlying t = some (.array 2 e)) (he : P.underlying e = some (.int .i64)) (hc : P.cellsOf e = 1) (hct : P.cellsOf t = 2) :
    Opens P t twoV (fun p => (-9223372036854775808 ≤ p.1 ∧ p.1 ≤ 9223372036854775807) ∧ (-9223372036854775808 ≤ p.2 ∧ p.2 ≤ 9223372036854775807)) := by
  intro H enc w base spare held fuel cs x h
  obtain ⟨xs, m, _, _, hl, hxl, hi⟩ := DataW.trod_array ht h
  rw [hct] at hl
  rw [hc] at hi
  have get : ∀ i, i < 2 → ∃ y, xs[i]? = some y := fun i h => ⟨_, List.getElem?_eq_getElem (by rw [hxl]; exact h)⟩
  obtain ⟨y0, h0⟩ := get 0 (by omega)
  obtain ⟨y1, h1⟩ := get 1 (by omega)
  obtain ⟨n0, g0, e0⟩ := opens_i64 he H enc w _ _ _ _ _ _ ((hi 0 (by omega)).trans h0)
  obtain ⟨n1, g1, e1⟩ := opens_i64 he H enc w _ _ _ _ _ _ ((hi 1 (by omega)).trans h1)
  refine ⟨(n0, n1), ⟨g0, g1⟩, ?_⟩
  match cs, hl with
  | [a, b], _ => simp at e0 e1; subst e0; subst e1; rfl
def adV (a : Ad) : List Value := [.bool a.v6, .int .u64 a.hi, .int .u64 a.lo]
def enV (e : En) : List Value := [.bool e.ad.v6, .int .u64 e.ad.hi, .int .u64 e.ad.lo, .int .i64 e.port]
def En.fits (e : En) : Prop := e.ad.fits ∧ -9223372036854775808 ≤ e.port ∧ e.port ≤ 9223372036854775807
def It.fits (x : It) : Prop := -9223372036854775808 ≤ x.key ∧ x.key ≤ 9223372036854775807 ∧ x.en.fits
theorem opens_addr : Opens Try.prog 32 adV Ad.fits :=
  (opens_of_fields Try.underlying32 (opensF_cons (n := 1) (opens_bool Try.underlying4) (by kernel_rfl) rfl (opensF_cons (n := 1) (opens_u64 Try.underlying30) (by kernel_rfl) rfl (opensF_cons (n := 1) (opens_u64 Try.underlying30) (by kernel_rfl) rfl opensF_nil))) (by kernel_rfl)).map
    fun ⟨a, b, c, _⟩ ⟨_, h1, h2, _⟩ => ⟨⟨a, b, c⟩, ⟨h1, h2⟩, rfl⟩
theorem opens_end : Opens Try.prog 34 enV En.fits :=
  (opens_of_fields Try.underlying34 (opensF_cons (n := 3) opens_addr (by kernel_rfl) rfl (opensF_cons (n := 1) (opens_i64 Try.underlying3) (by kernel_rfl) rfl opensF_nil)) (by kernel_rfl)).map
    fun ⟨a, b, _⟩ ⟨h1, h2, _⟩ => ⟨⟨a, b⟩, ⟨h1, h2⟩, rfl⟩
theorem opens_key : Opens Try.prog 36 itV It.fits :=
  (opens_of_fields Try.underlying36 (opensF_cons (n := 1) (opens_i64 Try.underlying3) (by kernel_rfl) rfl (opensF_cons (n := 4) opens_end (by kernel_rfl) rfl opensF_nil)) (by kernel_rfl)).map
    fun ⟨a, b, _⟩ ⟨h1, h2, _⟩ => ⟨⟨a, b⟩, ⟨h1.1, h1.2, h2⟩, rfl⟩
end Go.Proofs.Ytppmjbnhghaffaa
/- How arguments that are structs with slices in them, and slices of such, are opened. No condition. -/
namespace Go.Proofs.Ytppmjbnhghaffaa
open Go.ChangeShapes Go.WideShapes Go.ChangeAt Go.RowKit Go.Deep

/-- what reads at type t is laid out as f lays out a datum, whose slices are told by the world -/
def OpensW {α : Type} (P : Program) (t : TypeId) (f : α → List Value) (good : World → α → Prop) : Prop :=
  ∀ (H : Type) (enc : TypeId × Value → H) (w : World) (fuel : Nat) (cs : List Value) (x : DataW H × List MemPlace), DataW.trod enc P w 0 (fun _ => true) true fuel t cs = some x → ∃ d, good w d ∧ cs = f d
theorem Opens.w {α : Type} {P : Program} {t : TypeId} {f : α → List Value} {good : α → Prop} (O : Opens P t f good) : OpensW P t f (fun _ => good) :=
  fun H enc w fuel cs x h => O H enc w _ _ _ _ _ _ h
theorem OpensW.map {P : Program} {t : TypeId} {α β : Type} {f : α → List Value} {g : β → List Value} {good : World → α → Prop} {good' : World → β → Prop} (O : OpensW P t f good) (h : ∀ w d, good w d → ∃ d', good' w d' ∧ f d = g d') : OpensW P t g good' := by
  intro H enc w fuel cs x hx
  obtain ⟨d, h1, h2⟩ := O H enc w _ _ _ hx
  obtain ⟨d', h3, h4⟩ := h w d h1
  exact ⟨d', h3, by rw [h2, h4]⟩
theorem opensW_slice {P : Program} {t e : TypeId} {α : Type} {f : α → List Value} {good : World → α → Prop} {n : Nat} (O : OpensW P e f good) (hf : ∀ x, (f x).length = n) (hn : 0 < n) (ht : P.underlying t = some (.slice e)) (hc : P.cellsOf e = n) :
    OpensW P t (fun p : Value × List α => [p.1]) (fun w p => ReadsL f n w p.1 p.2 ∧ ∀ x ∈ p.2, good w x) := by
  intro H enc W fuel cs x hft
  rcases open_slice ht hft with ⟨hcs, _⟩ | ⟨a', len', cap', m, k, D, Pl, hcs, _, hl, hm, hmm, _, hi⟩
  · subst hcs
    exact ⟨(.slice none 0 0, []), ⟨ReadsL.nil f n W none 0, fun x hx => by simp at hx⟩, rfl⟩
  · subst hcs
    simp only [if_true] at hmm
    obtain ⟨l, h1, h2⟩ := all_list (Q := fun i x => good W x ∧ ∀ j u, (f x)[j]? = some u → W.cell? ((a'.add (i * n)).add j) = some u) len' (fun i hi' => by
      obtain ⟨cs', hcells, htr⟩ := hi i (by omega)
      obtain ⟨x, hg, hx⟩ := O H enc W _ _ _ htr
      obtain ⟨_, hcl, hat⟩ := World.cells?_some hcells
      rw [hc] at hcl hat
      refine ⟨x, hg, fun j u hj => ?_⟩
      have hjn : j < n := by have := (List.getElem?_eq_some_iff.1 hj).1; rw [hf] at this; exact this
      rw [hat j hjn, hx]; exact hj)
    refine ⟨(.slice (some a') len' cap', l), ⟨?_, fun x hx => by
      obtain ⟨i, hi'⟩ := List.mem_iff_getElem?.1 hx
      exact (h2 i x hi').1⟩, rfl⟩
    unfold ReadsL
    simp only
    rw [h1]
    refine ⟨by rw [flat_len f n hf, h1], by unfold maxLen at hm; omega, ?_⟩
    by_cases h0 : len' = 0
    · exact Or.inl ⟨h0, some a', cap', by rw [h0]⟩
    · have hlen : 0 < l.length := by omega
      obtain ⟨x0, hx0⟩ : ∃ x, l[0]? = some x := ⟨_, List.getElem?_eq_getElem hlen⟩
      obtain ⟨u0, hu0⟩ : ∃ u, (f x0)[0]? = some u := ⟨_, List.getElem?_eq_getElem (by rw [hf]; exact hn)⟩
      have hc0 := (h2 0 x0 hx0).2 0 u0 hu0
      have e0 : a'.add (0 * n) = a' := by rw [Nat.zero_mul]; unfold Addr.add; rw [if_pos rfl]
      rw [e0] at hc0
      have hsp := addr_spot hc0
      obtain ⟨b, o, sp⟩ := a'
      simp only at hsp; subst hsp
      refine Or.inr ⟨by omega, b, o, cap', rfl, hl, ?_, ?_⟩
      · have := block_lt_of_cell hc0
        rw [addr_add0] at this; exact this
      · intro j u hj
        have hjl := (List.getElem?_eq_some_iff.1 hj).1
        rw [flat_len f n hf] at hjl
        have hdm : j = (j / n) * n + j % n := by have := Nat.div_add_mod j n; rw [Nat.mul_comm] at this; omega
        have hq : j / n < l.length := (Nat.div_lt_iff_lt_mul hn).2 hjl
        have hr : j % n < n := Nat.mod_lt _ hn
        have hget := List.getElem?_eq_getElem hq
        rw [hdm, flat_get f n hf l (j / n) _ hget _ hr] at hj
        have := (h2 (j / n) _ hget).2 (j % n) u hj
        rw [addr_add0, addr_add0, Nat.add_assoc, ← hdm] at this
        exact this
/-- the fields of a struct, from some offset on -/
def OpensWF {α : Type} (P : Program) (fs : List Field) (off m : Nat) (f : α → List Value) (good : World → α → Prop) : Prop :=
  ∀ (H : Type) (enc : TypeId × Value → H) (w : World) (fuel : Nat) (cs : List Value),
    (∀ (i : Nat) (fd : Field), fs[i]? = some fd → ∃ y, DataW.trod enc P w 0 (fun _ => true) true fuel fd.type ((cs.drop fd.offset).take (P.cellsOf fd.type)) = some y) → ∃ d, good w d ∧ (cs.drop off).take m = f d
theorem opensWF_nil {P : Program} {off : Nat} : OpensWF P [] off 0 (fun _ : Unit => []) (fun _ _ => True) := by
  intro H enc w fuel cs _; exact ⟨(), trivial, by simp⟩
theorem opensWF_cons {P : Program} {fd : Field} {fs : List Field} {off n m : Nat} {α β : Type} {g : α → List Value} {f : β → List Value} {good1 : World → α → Prop} {good2 : World → β → Prop} (O : OpensW P fd.type g good1) (hn : P.cellsOf fd.type = n) (ho : fd.offset = off) (R : OpensWF P fs (off + n) m f good2) :
    OpensWF P (fd :: fs) off (n + m) (fun p : α × β => g p.1 ++ f p.2) (fun w p => good1 w p.1 ∧ good2 w p.2) := by
  intro H enc w fuel cs h
  obtain ⟨y, hy⟩ := h 0 fd rfl
  obtain ⟨a, h1, h2⟩ := O H enc w _ _ _ hy
  obtain ⟨b, h3, h4⟩ := R H enc w fuel cs (fun i fd' hi => h (i + 1) fd' (by simpa using hi))
  refine ⟨(a, b), ⟨h1, h3⟩, ?_⟩
  rw [ho, hn] at h2
  rw [List.take_add, h2, List.drop_drop, h4]
theorem opensW_of_fields {P : Program} {t : TypeId} {fs : Array Field} {m : Nat} {α : Type} {f : α → List Value} {good : World → α → Prop} (ht : P.underlying t = some (.struct fs)) (R : OpensWF P fs.toList 0 m f good) (hc : P.cellsOf t = m) : OpensW P t f good := by
  intro H enc w fuel cs x h
  obtain ⟨xs, n, _, _, hlen, hxl, hf⟩ := DataW.trod_struct ht h
  obtain ⟨d, h1, h2⟩ := R H enc w n cs (fun i fd hi => by
    have hi' : fs[i]? = some fd := by rw [← Array.getElem?_toList]; exact hi
    have := (Array.getElem?_eq_some_iff.1 hi').1
    exact ⟨_, (hf i fd hi').trans (List.getElem?_eq_getElem (l := xs) (i := i) (by rw [hxl]; exact this))⟩)
  refine ⟨d, h1, ?_⟩
  rw [List.drop_zero, List.take_of_length_le (by rw [hlen, hc]; exact Nat.le_refl _)] at h2
  exact h2
section
variable {H : Type} {enc : TypeId × Value → H} {P : Program} {W : World}
/-- a struct by value -/
theorem open_structW {r : Reach} {base : Nat} {t : TypeId} {v : Value} {d : DataW H} {ps : List MemPlace} {α : Type} {f : α → List Value} {good : World → α → Prop} {fs : Array Field} (O : OpensW P t f good) (ht : P.underlying t = some (.struct fs))
    (hval : Value.okWide P W r base t v) (h : DataW.Trod enc P W 0 (fun _ => true) true t v d ps) : ∃ x : α, v = .agg (f x).toArray ∧ good W x := by
  obtain ⟨cs, rfl, _⟩ := okWide_struct ht hval
  obtain ⟨fuel, hf⟩ := h
  obtain ⟨x, h1, h2⟩ := O H enc W _ _ _ hf
  refine ⟨x, ?_, h1⟩
  simp only [Value.cells] at h2
  rw [← h2]
/-- a slice of things that may hold slices -/
theorem open_listW {r : Reach} {base : Nat} {t e : TypeId} {v : Value} {d : DataW H} {ps : List MemPlace} {α : Type} {f : α → List Value} {good : World → α → Prop} {n : Nat} (O : OpensW P e f good) (hf : ∀ x, (f x).length = n) (hn : 0 < n) (ht : P.underlying t = some (.slice e)) (hc : P.cellsOf e = n)
    (hval : Value.okWide P W r base t v) (h : DataW.Trod enc P W 0 (fun _ => true) true t v d ps) : ∃ l : List α, ReadsL f n W v l ∧ ∀ x ∈ l, good W x := by
  obtain ⟨a, len, cap, rfl⟩ := okWide_slice ht hval
  obtain ⟨fuel, hft⟩ := h
  obtain ⟨⟨v, l⟩, h1, h2⟩ := opensW_slice O hf hn ht hc H enc W _ _ _ hft
  simp [Value.cells] at h2
  rw [h2]; exact ⟨l, h1⟩
end
end Go.Proofs.Ytppmjbnhghaffaa
