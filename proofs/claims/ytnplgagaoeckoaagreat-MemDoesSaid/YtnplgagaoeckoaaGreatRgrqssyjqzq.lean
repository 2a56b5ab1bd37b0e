/- Texts put together: OpenW, OpenN, BaV, OpS. No condition. -/
import Derived.Test.YtnplgagaoeckoaaGreatRmtvuvpphfn
import Derived.Test.YtnplgagaoeckoaaGreatRrjxbgxemzo
import Derived.Test.YtnplgagaoeckoaaGreatRshgxludich
import Derived.Test.YtnplgagaoeckoaaGreatRuzzvrjikhw
import Derived.Test.YtnplgagaoeckoaaGreatRhswffbbxtu
import Derived.Test.YtnplgagaoeckoaaGreatRluqwkbtqlq
import Derived.Test.YtnplgagaoeckoaaGreatRrloyafqzcj
import Derived.Test.YtnplgagaoeckoaaGreatRrornvdfvpg
import Derived.Test.YtnplgagaoeckoaaGreatRows
import Derived.WalkKit
import Derived.WalkSpells
import Derived.WalkLawsBesides
import Derived.BigGuardPart
import Derived.BigQuiet
import Derived.Deep.QuietTactic
import Derived.Deep.Light
set_option linter.unusedSimpArgs false
set_option linter.unusedVariables false
namespace Go.Proofs.YtnplgagaoeckoaaGreat
open Go.ChangeShapes Go.WideShapes Go.ChangeAt Go.RowKit Go.Deep
/-- what reads at type t is laid out as f lays out a datum, whose slices are told by the world -/
def OpensW {α : Type} (P : Program) (t : TypeId) (f : α → List Value) (good : World → α → Prop) : Prop :=
 ∀ (H : Type) (enc : TypeId × Value → H) (w : World) (fuel : Nat) (cs : List Value) (x : DataW H × List MemPlace), DataW.trod enc P w 0 (fun _ => true) true fuel t cs = some x → ∃ d, good w d ∧ cs = f d
theorem Opens.w {α : Type} {P : Program} {t : TypeId} {f : α → List Value} {good : α → Prop} (O : Opens P t f good) : OpensW P t f (fun _ => good) :=
 fun H enc w fuel cs x h => O H enc w _ _ _ _ _ _ h
theorem OpensW.map {P : Program} {t : TypeId} {α β : Type} {f : α → List Value} {g : β → List Value} {good : World → α → Prop} {good' : World → β → Prop} (O : OpensW P t f good) (h : ∀ w d, good w d → ∃ d', good' w d' ∧ f d = g d') : OpensW P t g good' := by
 intro H enc w fuel cs x hx
 obtain ⟨d, h1, h2⟩ := O H enc w _ _ _ hx
 obtain ⟨d', h3, h4⟩ := h w d h1
 exact ⟨d', h3, by rw [h2, h4]⟩
theorem opensW_slice {P : Program} {t e : TypeId} {α : Type} {f : α → List Value} {good : World → α → Prop} {n : Nat} (O : OpensW P e f good) (hf : ∀ x, (f x).length = n) (hn : 0 < n) (ht : P.underlying t = some (.slice e)) (hc : P.cellsOf e = n) :
  OpensW P t (fun p : Value × List α => [p.1]) (fun w p => ReadsL f n w p.1 p.2 ∧ ∀ x ∈ p.2, good w x) := by
 intro H enc W fuel cs x hft
 rcases open_slice ht hft with ⟨hcs, _⟩ | ⟨a', len', cap', m, k, D, Pl, hcs, _, hl, hm, hmm, _, hi⟩
 ·subst hcs
  exact ⟨(.slice none 0 0, []), ⟨ReadsL.nil f n W none 0, fun x hx => by simp at hx⟩, rfl⟩
 ·subst hcs
  simp only [if_true] at hmm
  obtain ⟨l, h1, h2⟩ := all_list (Q := fun i x => good W x ∧ ∀ j u, (f x)[j]? = some u → W.cell? ((a'.add (i * n)).add j) = some u) len' (fun i hi' => by
   obtain ⟨cs', hcells, htr⟩ := hi i (by omega)
   obtain ⟨x, hg, hx⟩ := O H enc W _ _ _ htr
   obtain ⟨_, hcl, hat⟩ := World.cells?_some hcells
   rw [hc] at hcl hat
   refine ⟨x, hg, fun j u hj => ?_⟩
   have hjn : j < n := by have := (List.getElem?_eq_some_iff.1 hj).1; rw [hf] at this; exact this
   rw [hat j hjn, hx]; exact hj)
  refine ⟨(.slice (some a') len' cap', l), ⟨?_, fun x hx => by
   obtain ⟨i, hi'⟩ := List.mem_iff_getElem?.1 hx
   exact (h2 i x hi').1⟩, rfl⟩
  unfold ReadsL
  simp only
  rw [h1]
  refine ⟨by rw [flat_len f n hf, h1], by unfold maxLen at hm; omega, ?_⟩
  by_cases h0 : len' = 0
  ·exact Or.inl ⟨h0, some a', cap', by rw [h0]⟩
  ·have hlen : 0 < l.length := by omega
   obtain ⟨x0, hx0⟩ : ∃ x, l[0]? = some x := ⟨_, List.getElem?_eq_getElem hlen⟩
   obtain ⟨u0, hu0⟩ : ∃ u, (f x0)[0]? = some u := ⟨_, List.getElem?_eq_getElem (by rw [hf]; exact hn)⟩
   have hc0 := (h2 0 x0 hx0).2 0 u0 hu0
   have e0 : a'.add (0 * n) = a' := by rw [Nat.zero_mul]; unfold Addr.add; rw [if_pos rfl]
   rw [e0] at hc0
   have hsp := addr_spot hc0
   obtain ⟨b, o, sp⟩ := a'
   simp only at hsp; subst hsp
   refine Or.inr ⟨by omega, b, o, cap', rfl, hl, ?_, ?_⟩
   ·have := block_lt_of_cell hc0
    rw [addr_add0] at this; exact this
   ·intro j u hj
    have hjl := (List.getElem?_eq_some_iff.1 hj).1
    rw [flat_len f n hf] at hjl
    have hdm : j = (j / n) * n + j % n := by have := Nat.div_add_mod j n; rw [Nat.mul_comm] at this; omega
    have hq : j / n < l.length := (Nat.div_lt_iff_lt_mul hn).2 hjl
    have hr : j % n < n := Nat.mod_lt _ hn
    have hget := List.getElem?_eq_getElem hq
    rw [hdm, flat_get f n hf l (j / n) _ hget _ hr] at hj
    have := (h2 (j / n) _ hget).2 (j % n) u hj
    rw [addr_add0, addr_add0, Nat.add_assoc, ← hdm] at this
    exact this
/-- the fields of a struct, from some offset on -/
def OpensWF {α : Type} (P : Program) (fs : List Field) (off m : Nat) (f : α → List Value) (good : World → α → Prop) : Prop :=
 ∀ (H : Type) (enc : TypeId × Value → H) (w : World) (fuel : Nat) (cs : List Value),
  (∀ (i : Nat) (fd : Field), fs[i]? = some fd → ∃ y, DataW.trod enc P w 0 (fun _ => true) true fuel fd.type ((cs.drop fd.offset).take (P.cellsOf fd.type)) = some y) → ∃ d, good w d ∧ (cs.drop off).take m = f d
theorem opensWF_nil {P : Program} {off : Nat} : OpensWF P [] off 0 (fun _ : Unit => []) (fun _ _ => True) := by
 intro H enc w fuel cs _; exact ⟨(), trivial, by simp⟩
theorem opensWF_cons {P : Program} {fd : Field} {fs : List Field} {off n m : Nat} {α β : Type} {g : α → List Value} {f : β → List Value} {good1 : World → α → Prop} {good2 : World → β → Prop} (O : OpensW P fd.type g good1) (hn : P.cellsOf fd.type = n) (ho : fd.offset = off) (R : OpensWF P fs (off + n) m f good2) :
  OpensWF P (fd :: fs) off (n + m) (fun p : α × β => g p.1 ++ f p.2) (fun w p => good1 w p.1 ∧ good2 w p.2) := by
 intro H enc w fuel cs h
 obtain ⟨y, hy⟩ := h 0 fd rfl
 obtain ⟨a, h1, h2⟩ := O H enc w _ _ _ hy
 obtain ⟨b, h3, h4⟩ := R H enc w fuel cs (fun i fd' hi => h (i + 1) fd' (by simpa using hi))
 refine ⟨(a, b), ⟨h1, h3⟩, ?_⟩
 rw [ho, hn] at h2
 rw [List.take_add, h2, List.drop_drop, h4]
theorem opensW_of_fields {P : Program} {t : TypeId} {fs : Array Field} {m : Nat} {α : Type} {f : α → List Value} {good : World → α → Prop} (ht : P.underlying t = some (.struct fs)) (R : OpensWF P fs.toList 0 m f good) (hc : P.cellsOf t = m) : OpensW P t f good := by
 intro H enc w fuel cs x h
 obtain ⟨xs, n, _, _, hlen, hxl, hf⟩ := DataW.trod_struct ht h
 obtain ⟨d, h1, h2⟩ := R H enc w n cs (fun i fd hi => by
  have hi' : fs[i]? = some fd := by rw [← Array.getElem?_toList]; exact hi
  have := (Array.getElem?_eq_some_iff.1 hi').1
  exact ⟨_, (hf i fd hi').trans (List.getElem?_eq_getElem (l := xs) (i := i) (by rw [hxl]; exact this))⟩)
 refine ⟨d, h1, ?_⟩
 rw [List.drop_zero, List.take_of_length_le (by rw [hlen, hc]; exact Nat.le_refl _)] at h2
 exact h2
section
variable {H : Type} {enc : TypeId × Value → H} {P : Program} {W : World}
/-- a struct by value -/
theorem open_structW {r : Reach} {base : Nat} {t : TypeId} {v : Value} {d : DataW H} {ps : List MemPlace} {α : Type} {f : α → List Value} {good : World → α → Prop} {fs : Array Field} (O : OpensW P t f good) (ht : P.underlying t = some (.struct fs))
  (hval : Value.okWide P W r base t v) (h : DataW.Trod enc P W 0 (fun _ => true) true t v d ps) : ∃ x : α, v = .agg (f x).toArray ∧ good W x := by
 obtain ⟨cs, rfl, _⟩ := okWide_struct ht hval
 obtain ⟨fuel, hf⟩ := h
 obtain ⟨x, h1, h2⟩ := O H enc W _ _ _ hf
 refine ⟨x, ?_, h1⟩
 simp only [Value.cells] at h2
 rw [← h2]
/-- a slice of things that may hold slices -/
theorem open_listW {r : Reach} {base : Nat} {t e : TypeId} {v : Value} {d : DataW H} {ps : List MemPlace} {α : Type} {f : α → List Value} {good : World → α → Prop} {n : Nat} (O : OpensW P e f good) (hf : ∀ x, (f x).length = n) (hn : 0 < n) (ht : P.underlying t = some (.slice e)) (hc : P.cellsOf e = n)
  (hval : Value.okWide P W r base t v) (h : DataW.Trod enc P W 0 (fun _ => true) true t v d ps) : ∃ l : List α, ReadsL f n W v l ∧ ∀ x ∈ l, good W x := by
 obtain ⟨a, len, cap, rfl⟩ := okWide_slice ht hval
 obtain ⟨fuel, hft⟩ := h
 obtain ⟨⟨v, l⟩, h1, h2⟩ := opensW_slice O hf hn ht hc H enc W _ _ _ hft
 simp [Value.cells] at h2
 rw [h2]; exact ⟨l, h1⟩
end
def ntV (e : Nt) : List Value := [.bool e.ad.v6, .int .u64 e.ad.hi, .int .u64 e.ad.lo, .int .i64 e.bits]
def Nt.fits (e : Nt) : Prop := e.ad.fits ∧ -9223372036854775808 ≤ e.bits ∧ e.bits ≤ 9223372036854775807
theorem opens_net : Opens Tryz.prog 82 ntV Nt.fits :=
 (opens_of_fields Tryz.underlying82 (opensF_cons (n := 3) opens_addr (by kernel_rfl) rfl (opensF_cons (n := 1) (opens_i64 Tryz.underlying3) (by kernel_rfl) rfl opensF_nil)) (by kernel_rfl)).map
  fun ⟨a, b, _⟩ ⟨h1, h2, _⟩ => ⟨⟨a, b⟩, ⟨h1, h2⟩, rfl⟩
def baV (b : Ba) : List Value := [.bool b.nt.ad.v6, .int .u64 b.nt.ad.hi, .int .u64 b.nt.ad.lo, .int .i64 b.nt.bits, .int .i64 b.till]
theorem baV_len (b : Ba) : (baV b).length = 5 := rfl
def Ba.fits (b : Ba) : Prop := b.nt.fits ∧ -9223372036854775808 ≤ b.till ∧ b.till ≤ 9223372036854775807
theorem opens_ban : Opens Tryz.prog 84 baV Ba.fits :=
 (opens_of_fields Tryz.underlying84 (opensF_cons (n := 4) opens_net (by kernel_rfl) rfl (opensF_cons (n := 1) (opens_i64 Tryz.underlying3) (by kernel_rfl) rfl opensF_nil)) (by kernel_rfl)).map
  fun ⟨a, b, _⟩ ⟨h1, h2, _⟩ => ⟨⟨a, b⟩, ⟨h1, h2⟩, rfl⟩
end Go.Proofs.YtnplgagaoeckoaaGreat
namespace Go.Proofs.YtnplgagaoeckoaaGreat
open Go.RowKit
def eyV (e : Ey) : List Value := [.bool e.en.ad.v6, .int .u64 e.en.ad.hi, .int .u64 e.en.ad.lo, .int .i64 e.en.port, .int .i64 e.state, .int .i64 e.fails, .int .i64 e.next]
theorem eyV_len (e : Ey) : (eyV e).length = 7 := rfl
theorem neqEy_self (a : Ey) (W : World) : (binOp .neq 87 (.agg #[.bool a.en.ad.v6, .int .u64 a.en.ad.hi, .int .u64 a.en.ad.lo, .int .i64 a.en.port, .int .i64 a.state, .int .i64 a.fails, .int .i64 a.next]) (.agg #[.bool a.en.ad.v6, .int .u64 a.en.ad.hi, .int .u64 a.en.ad.lo, .int .i64 a.en.port, .int .i64 a.state, .int .i64 a.fails, .int .i64 a.next])).run Tryz.prog W = .ok (.bool false) W := by
 go_simp
/-- five cells of a ban in a row -/
def baIn (w : World) (b o : Nat) (x : Ba) : Prop := w.cell? ⟨b, o, none⟩ = some (.bool x.nt.ad.v6) ∧ w.cell? ⟨b, o + 1, none⟩ = some (.int .u64 x.nt.ad.hi) ∧ w.cell? ⟨b, o + 2, none⟩ = some (.int .u64 x.nt.ad.lo) ∧ w.cell? ⟨b, o + 3, none⟩ = some (.int .i64 x.nt.bits) ∧ w.cell? ⟨b, o + 4, none⟩ = some (.int .i64 x.till)
theorem ba_open {w : World} {v : Value} {l : List Ba} (h : ReadsL baV 5 w v l) : l.length ≤ 9223372036854775807 ∧ ∃ (a : Option Addr) (c : Nat), v = .slice a l.length c ∧ (0 < l.length → ∃ b o, a = some ⟨b, o, none⟩ ∧ l.length ≤ c ∧ b < w.heap.size ∧
   ∀ (i : Nat) (p : Ba), l[i]? = some p → baIn w b (o + i * 5) p) := by
 obtain ⟨h1, a, c, h2, h3⟩ := h.open baV_len (by omega)
 refine ⟨h1, a, c, h2, fun hp => ?_⟩
 obtain ⟨b, o, h4, h5, h6, h7⟩ := h3 hp
 refine ⟨b, o, h4, h5, h6, fun i x hi => ⟨?_, ?_, ?_, ?_, ?_⟩⟩
 ·have := h7 i x hi 0 _ rfl; simpa [Nat.add_assoc] using this
 ·have := h7 i x hi 1 _ rfl; simpa [Nat.add_assoc] using this
 ·have := h7 i x hi 2 _ rfl; simpa [Nat.add_assoc] using this
 ·have := h7 i x hi 3 _ rfl; simpa [Nat.add_assoc] using this
 ·have := h7 i x hi 4 _ rfl; simpa [Nat.add_assoc] using this
theorem baIn.below {B : Nat} {w w' : World} {b o : Nat} {p : Ba} (h : baIn w b o p) (hb : Below B w w') (hlt : b < B) : baIn w' b o p := by
 obtain ⟨a0, a1, a2, a3, a4⟩ := h
 exact ⟨keep hb hlt a0, keep hb hlt a1, keep hb hlt a2, keep hb hlt a3, keep hb hlt a4⟩
/-- seven cells of an entry in a row -/
def eyIn (w : World) (b o : Nat) (x : Ey) : Prop := w.cell? ⟨b, o, none⟩ = some (.bool x.en.ad.v6) ∧ w.cell? ⟨b, o + 1, none⟩ = some (.int .u64 x.en.ad.hi) ∧ w.cell? ⟨b, o + 2, none⟩ = some (.int .u64 x.en.ad.lo) ∧ w.cell? ⟨b, o + 3, none⟩ = some (.int .i64 x.en.port) ∧ w.cell? ⟨b, o + 4, none⟩ = some (.int .i64 x.state) ∧ w.cell? ⟨b, o + 5, none⟩ = some (.int .i64 x.fails) ∧ w.cell? ⟨b, o + 6, none⟩ = some (.int .i64 x.next)
theorem ey_open {w : World} {v : Value} {l : List Ey} (h : ReadsL eyV 7 w v l) : l.length ≤ 9223372036854775807 ∧ ∃ (a : Option Addr) (c : Nat), v = .slice a l.length c ∧ (0 < l.length → ∃ b o, a = some ⟨b, o, none⟩ ∧ l.length ≤ c ∧ b < w.heap.size ∧
   ∀ (i : Nat) (p : Ey), l[i]? = some p → eyIn w b (o + i * 7) p) := by
 obtain ⟨h1, a, c, h2, h3⟩ := h.open eyV_len (by omega)
 refine ⟨h1, a, c, h2, fun hp => ?_⟩
 obtain ⟨b, o, h4, h5, h6, h7⟩ := h3 hp
 refine ⟨b, o, h4, h5, h6, fun i x hi => ⟨?_, ?_, ?_, ?_, ?_, ?_, ?_⟩⟩
 ·have := h7 i x hi 0 _ rfl; simpa [Nat.add_assoc] using this
 ·have := h7 i x hi 1 _ rfl; simpa [Nat.add_assoc] using this
 ·have := h7 i x hi 2 _ rfl; simpa [Nat.add_assoc] using this
 ·have := h7 i x hi 3 _ rfl; simpa [Nat.add_assoc] using this
 ·have := h7 i x hi 4 _ rfl; simpa [Nat.add_assoc] using this
 ·have := h7 i x hi 5 _ rfl; simpa [Nat.add_assoc] using this
 ·have := h7 i x hi 6 _ rfl; simpa [Nat.add_assoc] using this
theorem eyIn.below {B : Nat} {w w' : World} {b o : Nat} {p : Ey} (h : eyIn w b o p) (hb : Below B w w') (hlt : b < B) : eyIn w' b o p := by
 obtain ⟨a0, a1, a2, a3, a4, a5, a6⟩ := h
 exact ⟨keep hb hlt a0, keep hb hlt a1, keep hb hlt a2, keep hb hlt a3, keep hb hlt a4, keep hb hlt a5, keep hb hlt a6⟩
end Go.Proofs.YtnplgagaoeckoaaGreat
