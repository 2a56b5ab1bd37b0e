/- Texts put together: Open, OpenS, OpenN, BaV, DelL, Blk, BaRow. No condition. -/
import Derived.Test.YtdmobgdgeiiicaaGreatRtldwiotdwt
import Derived.Test.YtdmobgdgeiiicaaGreatReiifwmdwmw
import Derived.ProofKit
import Derived.OpenShut
import Derived.ShutString
import Derived.SliceStrings
import Derived.Test.YtdmobgdgeiiicaaGreatRows
import Derived.Deep.Slices
import Derived.KernelRfl
import Derived.Test.YtdmobgdgeiiicaaGreatRqgtmdnquer
import Derived.Test.YtdmobgdgeiiicaaGreatRtrpsbhshgr
import Derived.Test.YtdmobgdgeiiicaaGreatRwtpplsddwz
import Derived.Test.YtdmobgdgeiiicaaGreatRrmurizdslo
import Derived.Laws.Rows
import Derived.Laws.Tables
import Derived.Laws.CopyOwn
import Derived.WalkKit
import Derived.WalkSpells
import Derived.Deep.RegionLaw
import Derived.Lib.SliceRun
namespace Go.Proofs.YtdmobgdgeiiicaaGreat
open Go.ChangeShapes Go.WideShapes Go.ChangeAt Go.RowKit

section
variable {H : Type} {enc : TypeId × Value → H} {P : Program} {W : World}
theorem trod_lt' {t : TypeId} {v : Value} {d : DataW H} {ps : List MemPlace} (h : DataW.Trod enc P W 0 (fun _ => true) true t v d ps) : ∀ x ∈ ps, x.block < W.heap.size := by
  obtain ⟨m, hm⟩ := h; exact DataW.trod_lt m _ _ _ hm
theorem open_i64 {r : Reach} {base : Nat} {t : TypeId} {v : Value} {d : DataW H} {ps : List MemPlace} (ht : P.underlying t = some (.int .i64)) (hval : Value.okWide P W r base t v) (h : DataW.Trod enc P W 0 (fun _ => true) true t v d ps) :
    ∃ n : Int, v = .int .i64 n ∧ -9223372036854775808 ≤ n ∧ n ≤ 9223372036854775807 := by
  obtain ⟨n, rfl, _, _, w⟩ := open_int ht hval h
  have hb : -9223372036854775808 ≤ n ∧ n ≤ 9223372036854775807 := by simpa [Lit.wf, IntKind.min, IntKind.max, IntKind.signed, IntKind.bits] using w
  exact ⟨n, rfl, hb⟩
end
end Go.Proofs.YtdmobgdgeiiicaaGreat
namespace Go.Proofs.YtdmobgdgeiiicaaGreat
open Go.ChangeShapes Go.WideShapes Go.ChangeAt Go.RowKit Go.Deep

/-- what reads at type t is laid out as f lays out a datum -/
def Opens {α : Type} (P : Program) (t : TypeId) (f : α → List Value) (good : α → Prop) : Prop :=
  ∀ (H : Type) (enc : TypeId × Value → H) (w : World) (base : Nat) (spare : Nat → Bool) (held : Bool) (fuel : Nat) (cs : List Value) (x : DataW H × List MemPlace), DataW.trod enc P w base spare held fuel t cs = some x → ∃ d, good d ∧ cs = f d
theorem opens_i64 {P : Program} {t : TypeId} (ht : P.underlying t = some (.int .i64)) : Opens P t (fun n : Int => [.int .i64 n]) (fun n => -9223372036854775808 ≤ n ∧ n ≤ 9223372036854775807) := by
  intro H enc w base spare held fuel cs x h
  obtain ⟨n, h1, _, h3⟩ := DataW.trod_int ht h
  exact ⟨n, by simpa [Lit.wf, IntKind.min, IntKind.max, IntKind.signed, IntKind.bits] using h3, h1⟩
theorem opens_u64 {P : Program} {t : TypeId} (ht : P.underlying t = some (.int .u64)) : Opens P t (fun n : Nat => [.int .u64 n]) (fun n => n < 18446744073709551616) := by
  intro H enc w base spare held fuel cs x h
  obtain ⟨n, h1, _, h3⟩ := DataW.trod_int ht h
  have h3 : 0 ≤ n ∧ n ≤ 18446744073709551615 := by simpa [Lit.wf, IntKind.min, IntKind.max, IntKind.signed, IntKind.bits] using h3
  exact ⟨n.toNat, by omega, by rw [h1]; congr 2; omega⟩
theorem opens_bool {P : Program} {t : TypeId} (ht : P.underlying t = some .bool) : Opens P t (fun b : Bool => [.bool b]) (fun _ => True) := by
  intro H enc w base spare held fuel cs x h
  obtain ⟨b, h1, _⟩ := DataW.trod_bool ht h
  exact ⟨b, trivial, h1⟩
theorem all_list {α : Type} {Q : Nat → α → Prop} : ∀ n : Nat, (∀ i, i < n → ∃ d, Q i d) → ∃ l : List α, l.length = n ∧ ∀ i d, l[i]? = some d → Q i d := by
  intro n
  induction n with
  | zero => intro _; exact ⟨[], rfl, fun i d h => by simp at h⟩
  | succ n ih =>
    intro h
    obtain ⟨l, h1, h2⟩ := ih (fun i hi => h i (by omega))
    obtain ⟨d, hd⟩ := h n (by omega)
    refine ⟨l ++ [d], by simp [h1], fun i e he => ?_⟩
    by_cases hi : i < l.length
    · rw [List.getElem?_append_left hi] at he; exact h2 i e he
    · have hl := (List.getElem?_eq_some_iff.1 he).1
      simp at hl
      obtain rfl : i = l.length := by omega
      rw [List.getElem?_append_right (Nat.le_refl _)] at he
      simp at he; subst he; rw [h1]; exact hd
theorem addr_add0 (b o j : Nat) : (⟨b, o, none⟩ : Addr).add j = ⟨b, o + j, none⟩ := by unfold Addr.add; split <;> simp_all
theorem addr_spot {w : World} {a : Addr} {v : Value} (h : w.cell? (a.add 0) = some v) : a.spot = none := by
  unfold World.cell? at h
  cases hsp : a.spot with
  | none => rfl
  | some q =>
    have : (a.add 0).spot.isSome = true := by unfold Addr.add; rw [if_pos rfl, hsp]; rfl
    split at h
    · rw [if_pos this] at h; cases h
    · cases h
section
variable {H : Type} {enc : TypeId × Value → H} {P : Program} {W : World}
/-- a slice of things that are laid out alike -/
theorem open_list {r : Reach} {base : Nat} {t e : TypeId} {v : Value} {d : DataW H} {ps : List MemPlace} {α : Type} {f : α → List Value} {good : α → Prop} {n : Nat} (O : Opens P e f good) (hf : ∀ x, (f x).length = n) (hn : 0 < n) (ht : P.underlying t = some (.slice e)) (hc : P.cellsOf e = n)
    (hval : Value.okWide P W r base t v) (h : DataW.Trod enc P W 0 (fun _ => true) true t v d ps) : ∃ l : List α, ReadsL f n W v l ∧ ∀ x ∈ l, good x := by
  obtain ⟨a, len, cap, rfl⟩ := okWide_slice ht hval
  obtain ⟨fuel, hft⟩ := h
  rcases open_slice ht hft with ⟨hcs, _⟩ | ⟨a', len', cap', m, k, D, Pl, hcs, _, hl, hm, hmm, _, hi⟩
  · simp [Value.cells] at hcs
    obtain ⟨rfl, rfl, rfl⟩ := hcs
    exact ⟨[], ReadsL.nil f n W none 0, fun x hx => by simp at hx⟩
  · simp [Value.cells] at hcs
    obtain ⟨rfl, rfl, rfl⟩ := hcs
    simp only [if_true] at hmm
    obtain ⟨l, h1, h2⟩ := all_list (Q := fun i x => good x ∧ ∀ j u, (f x)[j]? = some u → W.cell? ((a'.add (i * n)).add j) = some u) len (fun i hi' => by
      obtain ⟨cs', hcells, htr⟩ := hi i (by omega)
      obtain ⟨x, hg, hx⟩ := O H enc W _ _ _ _ _ _ htr
      obtain ⟨_, hcl, hat⟩ := World.cells?_some hcells
      rw [hc] at hcl hat
      refine ⟨x, hg, fun j u hj => ?_⟩
      have hjn : j < n := by have := (List.getElem?_eq_some_iff.1 hj).1; rw [hf] at this; exact this
      rw [hat j hjn, hx]; exact hj)
    refine ⟨l, ?_, fun x hx => by
      obtain ⟨i, hi'⟩ := List.mem_iff_getElem?.1 hx
      exact (h2 i x hi').1⟩
    unfold ReadsL
    rw [h1]
    refine ⟨by rw [flat_len f n hf, h1], by unfold maxLen at hm; omega, ?_⟩
    by_cases h0 : len = 0
    · exact Or.inl ⟨h0, some a', cap, by rw [h0]⟩
    · have hlen : 0 < l.length := by omega
      obtain ⟨x0, hx0⟩ : ∃ x, l[0]? = some x := ⟨_, List.getElem?_eq_getElem hlen⟩
      obtain ⟨u0, hu0⟩ : ∃ u, (f x0)[0]? = some u := ⟨_, List.getElem?_eq_getElem (by rw [hf]; exact hn)⟩
      have hc0 := (h2 0 x0 hx0).2 0 u0 hu0
      have e0 : a'.add (0 * n) = a' := by rw [Nat.zero_mul]; unfold Addr.add; rw [if_pos rfl]
      rw [e0] at hc0
      have hsp := addr_spot hc0
      obtain ⟨b, o, sp⟩ := a'
      simp only at hsp; subst hsp
      refine Or.inr ⟨by omega, b, o, cap, rfl, hl, ?_, ?_⟩
      · have := block_lt_of_cell hc0
        rw [addr_add0] at this; exact this
      · intro j u hj
        have hjl := (List.getElem?_eq_some_iff.1 hj).1
        rw [flat_len f n hf] at hjl
        have hdm : j = (j / n) * n + j % n := by have := Nat.div_add_mod j n; rw [Nat.mul_comm] at this; omega
        have hq : j / n < l.length := (Nat.div_lt_iff_lt_mul hn).2 hjl
        have hr : j % n < n := Nat.mod_lt _ hn
        have hget := List.getElem?_eq_getElem hq
        rw [hdm, flat_get f n hf l (j / n) _ hget _ hr] at hj
        have := (h2 (j / n) _ hget).2 (j % n) u hj
        rw [addr_add0, addr_add0, Nat.add_assoc, ← hdm] at this
        exact this
end
/-- the fields of a struct, from some offset on: m cells in all -/
def OpensF {α : Type} (P : Program) (fs : List Field) (off m : Nat) (f : α → List Value) (good : α → Prop) : Prop :=
  ∀ (H : Type) (enc : TypeId × Value → H) (w : World) (base : Nat) (spare : Nat → Bool) (held : Bool) (fuel : Nat) (cs : List Value),
    (∀ (i : Nat) (fd : Field), fs[i]? = some fd → ∃ y, DataW.trod enc P w base spare held fuel fd.type ((cs.drop fd.offset).take (P.cellsOf fd.type)) = some y) → ∃ d, good d ∧ (cs.drop off).take m = f d
theorem opensF_nil {P : Program} {off : Nat} : OpensF P [] off 0 (fun _ : Unit => []) (fun _ => True) := by
  intro H enc w base spare held fuel cs _; exact ⟨(), trivial, by simp⟩
theorem opensF_cons {P : Program} {fd : Field} {fs : List Field} {off n m : Nat} {α β : Type} {g : α → List Value} {f : β → List Value} {good1 : α → Prop} {good2 : β → Prop} (O : Opens P fd.type g good1) (hn : P.cellsOf fd.type = n) (ho : fd.offset = off) (R : OpensF P fs (off + n) m f good2) :
    OpensF P (fd :: fs) off (n + m) (fun p : α × β => g p.1 ++ f p.2) (fun p => good1 p.1 ∧ good2 p.2) := by
  intro H enc w base spare held fuel cs h
  obtain ⟨y, hy⟩ := h 0 fd rfl
  obtain ⟨a, h1, h2⟩ := O H enc w _ _ _ _ _ _ hy
  obtain ⟨b, h3, h4⟩ := R H enc w base spare held fuel cs (fun i fd' hi => h (i + 1) fd' (by simpa using hi))
  refine ⟨(a, b), ⟨h1, h3⟩, ?_⟩
  rw [ho, hn] at h2
  rw [List.take_add, h2, List.drop_drop, h4]
theorem opens_of_fields {P : Program} {t : TypeId} {fs : Array Field} {m : Nat} {α : Type} {f : α → List Value} {good : α → Prop} (ht : P.underlying t = some (.struct fs)) (R : OpensF P fs.toList 0 m f good) (hc : P.cellsOf t = m) : Opens P t f good := by
  intro H enc w base spare held fuel cs x h
  obtain ⟨xs, n, _, _, hlen, hxl, hf⟩ := DataW.trod_struct ht h
  obtain ⟨d, h1, h2⟩ := R H enc w base spare held n cs (fun i fd hi => by
    have hi' : fs[i]? = some fd := by rw [← Array.getElem?_toList]; exact hi
    have := (Array.getElem?_eq_some_iff.1 hi').1
    exact ⟨_, (hf i fd hi').trans (List.getElem?_eq_getElem (l := xs) (i := i) (by rw [hxl]; exact this))⟩)
  refine ⟨d, h1, ?_⟩
  rw [List.drop_zero, List.take_of_length_le (by rw [hlen, hc]; exact Nat.le_refl _)] at h2
  exact h2
theorem Opens.map {P : Program} {t : TypeId} {α β : Type} {f : α → List Value} {g : β → List Value} {good : α → Prop} {good' : β → Prop} (O : Opens P t f good) (h : ∀ d, good d → ∃ d', good' d' ∧ f d = g d') : Opens P t g good' := by
  intro H enc w base spare held fuel cs x hx
  obtain ⟨d, h1, h2⟩ := O H enc w _ _ _ _ _ _ hx
  obtain ⟨d', h3, h4⟩ := h d h1
  exact ⟨d', h3, by rw [h2, h4]⟩
def adV (a : Ad) : List Value := [.bool a.v6, .int .u64 a.hi, .int .u64 a.lo]
def En.fits (e : En) : Prop := e.ad.fits ∧ -9223372036854775808 ≤ e.port ∧ e.port ≤ 9223372036854775807
def It.fits (x : It) : Prop := -9223372036854775808 ≤ x.key ∧ x.key ≤ 9223372036854775807 ∧ x.en.fits
theorem opens_addr : Opens Tryz.prog 34 adV Ad.fits :=
  (opens_of_fields Tryz.underlying34 (opensF_cons (n := 1) (opens_bool Tryz.underlying4) (by kernel_rfl) rfl (opensF_cons (n := 1) (opens_u64 Tryz.underlying32) (by kernel_rfl) rfl (opensF_cons (n := 1) (opens_u64 Tryz.underlying32) (by kernel_rfl) rfl opensF_nil))) (by kernel_rfl)).map
    fun ⟨a, b, c, _⟩ ⟨_, h1, h2, _⟩ => ⟨⟨a, b, c⟩, ⟨h1, h2⟩, rfl⟩
end Go.Proofs.YtdmobgdgeiiicaaGreat
namespace Go.Proofs.YtdmobgdgeiiicaaGreat
open Go.ChangeShapes Go.WideShapes Go.ChangeAt Go.RowKit Go.Deep
def ntV (e : Nt) : List Value := [.bool e.ad.v6, .int .u64 e.ad.hi, .int .u64 e.ad.lo, .int .i64 e.bits]
def Nt.fits (e : Nt) : Prop := e.ad.fits ∧ -9223372036854775808 ≤ e.bits ∧ e.bits ≤ 9223372036854775807
theorem opens_net : Opens Tryz.prog 36 ntV Nt.fits :=
  (opens_of_fields Tryz.underlying36 (opensF_cons (n := 3) opens_addr (by kernel_rfl) rfl (opensF_cons (n := 1) (opens_i64 Tryz.underlying3) (by kernel_rfl) rfl opensF_nil)) (by kernel_rfl)).map
    fun ⟨a, b, _⟩ ⟨h1, h2, _⟩ => ⟨⟨a, b⟩, ⟨h1, h2⟩, rfl⟩
end Go.Proofs.YtdmobgdgeiiicaaGreat
namespace Go.Proofs.YtdmobgdgeiiicaaGreat
open Go.ChangeShapes Go.WideShapes Go.ChangeAt Go.RowKit Go.Deep
def baV (b : Ba) : List Value := [.bool b.nt.ad.v6, .int .u64 b.nt.ad.hi, .int .u64 b.nt.ad.lo, .int .i64 b.nt.bits, .int .i64 b.till]
theorem baV_len (b : Ba) : (baV b).length = 5 := rfl
def Ba.fits (b : Ba) : Prop := b.nt.fits ∧ -9223372036854775808 ≤ b.till ∧ b.till ≤ 9223372036854775807
theorem opens_ban : Opens Tryz.prog 38 baV Ba.fits :=
  (opens_of_fields Tryz.underlying38 (opensF_cons (n := 4) opens_net (by kernel_rfl) rfl (opensF_cons (n := 1) (opens_i64 Tryz.underlying3) (by kernel_rfl) rfl opensF_nil)) (by kernel_rfl)).map
    fun ⟨a, b, _⟩ ⟨h1, h2, _⟩ => ⟨⟨a, b⟩, ⟨h1, h2⟩, rfl⟩
end Go.Proofs.YtdmobgdgeiiicaaGreat
namespace Go.Proofs.YtdmobgdgeiiicaaGreat
open Go.RowKit

section
variable {P : Program} {t e : TypeId} {size bytes : Nat}
/-- a block that is a row of the call's own, with so much room -/
def RowBlk (w : World) (e : TypeId) (g cap size : Nat) (cur : List Value) : Prop := w.heap[g]? = some (.cells cur.toArray e (0, 0)) ∧ cur.length = cap * size
theorem owns_blk2 {w : World} {base g n cap : Nat} {xs : List Value} (h : w.ownsRow base e size (.slice (some ⟨g, 0, none⟩) n cap) n xs) : base ≤ g ∧ n ≤ cap ∧ cap ≤ maxLen ∧ ∃ cur, RowBlk w e g cap size cur ∧ cur.take (n * size) = xs := by
  rcases h.2 with ⟨e1, _⟩ | ⟨g', cap', cur, e1, hbg, hg, hnc, hcm, hcs, ht⟩
  · cases e1
  · injection e1 with e1 _ e3
    injection e1 with e1
    injection e1 with e4 _
    subst e4 e3
    exact ⟨hbg, hnc, hcm, cur.toList, ⟨by simpa using hg, by simpa using hcs⟩, ht⟩
theorem blk_owns {w : World} {base g n cap : Nat} {cur : List Value} (h : RowBlk w e g cap size cur) (hb : base ≤ g) (hn : n ≤ cap) (hc : cap ≤ maxLen) : w.ownsRow base e size (.slice (some ⟨g, 0, none⟩) n cap) n (cur.take (n * size)) := by
  refine ⟨?_, .inr ⟨g, cap, cur.toArray, rfl, hb, h.1, hn, hc, by simpa using h.2, by simp⟩⟩
  have := Nat.mul_le_mul_right size hn
  rw [List.length_take, h.2]; omega
theorem blk_cell {w : World} {g cap : Nat} {cur : List Value} (h : RowBlk w e g cap size cur) (j : Nat) : w.cell? ⟨g, j, none⟩ = cur[j]? := by
  rw [cell_of_row w g j cur.toArray e (0, 0) h.1]; simp
end
end Go.Proofs.YtdmobgdgeiiicaaGreat
namespace Go.Proofs.YtdmobgdgeiiicaaGreat
open Go.RowKit

theorem BlockIs.alloc' {w : World} {B : Nat} {arr : List Value} {T : TypeId} (h : BlockIs w B arr T) (o : Obj) : BlockIs (w.alloc o) B arr T := h.below ((Below.refl _ _).alloc (Nat.le_refl _) _)
theorem BlockIs.drew' {w : World} {B : Nat} {arr : List Value} {T : TypeId} (h : BlockIs w B arr T) : BlockIs w.drew B arr T := h
theorem BlockIs.newAt' (w : World) (arr : List Value) (T : TypeId) {n : Nat} (h : n = w.heap.size) : BlockIs (w.alloc (.cells arr.toArray T)) n arr T := h ▸ BlockIs.new w arr T
theorem BlockIs.loadVar {P : Program} {w : World} {B : Nat} {arr : List Value} {T : TypeId} (h : BlockIs w B arr T) {fs : Array Field} (hu : P.underlying T = some (.struct fs)) (hi : (P.info? T).map (·.size) = some arr.length) :
    (Go.loadVar T ⟨B, 0, none⟩).run P w = .ok (.agg arr.toArray) w :=
  run_loadVar_row w B T T arr.toArray (0, 0) _ h hu rfl (by simpa using hi)
section
variable {P : Program} {ops : Array Oper} {rest : List Oper} {o : Oper} {a : Act} {w : World} {Q : Exit → Act → World → Prop}
end
end Go.Proofs.YtdmobgdgeiiicaaGreat
namespace Go.Proofs.YtdmobgdgeiiicaaGreat
open Go.RowKit

theorem baV_five (b : Ba) : (baV b).length = 5 := rfl
/-- five cells of a ban in a row -/
def BaIn (w : World) (b o : Nat) (p : Ba) : Prop := w.cell? ⟨b, o, none⟩ = some (.bool p.nt.ad.v6) ∧ w.cell? ⟨b, o + 1, none⟩ = some (.int .u64 p.nt.ad.hi) ∧ w.cell? ⟨b, o + 2, none⟩ = some (.int .u64 p.nt.ad.lo) ∧ w.cell? ⟨b, o + 3, none⟩ = some (.int .i64 p.nt.bits) ∧ w.cell? ⟨b, o + 4, none⟩ = some (.int .i64 p.till)
theorem bas_open {w : World} {v : Value} {l : List Ba} (h : ReadsL baV 5 w v l) : l.length ≤ 9223372036854775807 ∧ ∃ (a : Option Addr) (c : Nat), v = .slice a l.length c ∧ (0 < l.length → ∃ b o, a = some ⟨b, o, none⟩ ∧ l.length ≤ c ∧ b < w.heap.size ∧
      ∀ (i : Nat) (p : Ba), l[i]? = some p → BaIn w b (o + i * 5) p) := by
  obtain ⟨h1, a, c, h2, h3⟩ := h.open baV_five (by omega)
  refine ⟨h1, a, c, h2, fun hp => ?_⟩
  obtain ⟨b, o, h4, h5, h6, h7⟩ := h3 hp
  refine ⟨b, o, h4, h5, h6, fun i x hi => ⟨?_, ?_, ?_, ?_, ?_⟩⟩
  · have := h7 i x hi 0 _ rfl; simpa [Nat.add_assoc] using this
  · have := h7 i x hi 1 _ rfl; simpa [Nat.add_assoc] using this
  · have := h7 i x hi 2 _ rfl; simpa [Nat.add_assoc] using this
  · have := h7 i x hi 3 _ rfl; simpa [Nat.add_assoc] using this
  · have := h7 i x hi 4 _ rfl; simpa [Nat.add_assoc] using this
theorem BaIn.below {B : Nat} {w w' : World} {b o : Nat} {p : Ba} (h : BaIn w b o p) (hb : Below B w w') (hlt : b < B) : BaIn w' b o p := by
  obtain ⟨a0, a1, a2, a3, a4⟩ := h
  exact ⟨keep hb hlt a0, keep hb hlt a1, keep hb hlt a2, keep hb hlt a3, keep hb hlt a4⟩
theorem BaIn.ext {w : World} {b o : Nat} {p : Ba} (h : BaIn w b o p) (hlt : b < w.heap.size) : ∀ y, BaIn (Go.Proofs.YtdmobgdgeiiicaaGreat.ext w y) b o p := fun y => h.below (ext_below w y) hlt
theorem baRow : RowT Tryz.prog 22 38 5 40 := RowT.mk (.agg #[.bool false, .int .u64 0, .int .u64 0, .int .i64 0, .int .i64 0]) Tryz.underlying22 (by kernel_rfl) rfl (by omega)
theorem baV_one1 (p : Ba) : ∀ u ∈ baV p, u.oneCell' = true := by intro u hu; unfold baV at hu; simp only [List.mem_cons, List.not_mem_nil, or_false] at hu; rcases hu with rfl | rfl | rfl | rfl | rfl <;> rfl
theorem baV_ones (l : List Ba) : ∀ u ∈ l.flatMap baV, u.oneCell' = true := by
  intro u hu
  obtain ⟨p, _, hp⟩ := List.mem_flatMap.1 hu
  exact baV_one1 p u hp
theorem bas_len (l : List Ba) : (l.flatMap baV).length = l.length * 5 := by
  induction l with
  | nil => rfl
  | cons p r ih => rw [List.flatMap_cons, List.length_append, ih, baV_five, List.length_cons]; omega
set_option maxRecDepth 100000 in
theorem cloneBa (v : Value) (l : List Ba) (w : World) (h : ReadsL baV 5 w v l) (hl : l.length ≤ 1000000) :
    Calls Tryz.prog 46 #[v] w fun e w' => ∃ r, e = .returned r ∧ w'.ownsRow w.heap.size 38 5 r l.length (l.flatMap baV) ∧ Below w.heap.size w w' ∧ (l ≠ [] → ∃ g c, r = .slice (some ⟨g, 0, none⟩) l.length c) := by
  obtain ⟨hm, a, c, rfl, h3⟩ := bas_open h
  have hnil := fun (W : World) (a : Option Addr) (n c : Nat) => Lib.run_eql_slice_nil (P := Tryz.prog) W 22 38 a n c 0 0 Tryz.underlying22
  cases a with
  | none =>
    have h0 : l.length = 0 := by
      rcases Nat.eq_zero_or_pos l.length with h | h
      · exact h
      · obtain ⟨b, o, e, _⟩ := h3 h; cases e
    have e : l = [] := List.eq_nil_of_length_eq_zero h0
    subst e
    go_enter Tryz.func46, Tryz.ntmps46
    go_wp2_with fail
    go_ret
    exact ⟨_, rfl, World.ownsRow_nil _ _ _ _, Below.refl _ _, fun h => absurd rfl h⟩
  | some ad =>
    have hr : Reads (w.alloc (.cells #[] 38)) (.slice (some ad) l.length c) l.length 5 (l.flatMap baV) := Reads.below h ((Below.refl _ _).alloc (Nat.le_refl _) _)
    go_enter Tryz.func46, Tryz.ntmps46
    go_wp2_with (at_builtin; refine list_app_reads baRow rfl (.tmp 5) (.tmp 6) rfl w.heap.size _ 0 [] rfl (World.ownsRow_made w #[] 0 (Nat.le_refl _) (Nat.zero_le _) rfl) _ l.length (l.flatMap baV) rfl hr (baV_ones _) (by omega) (by omega) (by simp) w.heap.size w ((Below.refl _ _).alloc (Nat.le_refl _) _) (Nat.le_refl _) ?_; intro v' w' hown hb')
    go_ret
    simp only [Nat.zero_add, List.nil_append] at hown
    refine ⟨_, rfl, hown, hb', fun hne => ?_⟩
    have hp : 0 < l.length := by
      rcases Nat.eq_zero_or_pos l.length with h | h
      · exact absurd (List.eq_nil_of_length_eq_zero h) hne
      · exact h
    rcases hown.2 with ⟨_, h0⟩ | ⟨g, cap, cur, rfl, _⟩
    · omega
    · exact ⟨_, _, rfl⟩

theorem ba_take (l : List Ba) (i : Nat) : (l.flatMap baV).take (i * 5) = (l.take i).flatMap baV := by
  rcases Nat.lt_or_ge l.length i with h | h
  · rw [List.take_of_length_le (by rw [bas_len]; omega), List.take_of_length_le (by omega)]
  · conv => lhs; rw [← List.take_append_drop i l, List.flatMap_append]
    have e : i * 5 = ((l.take i).flatMap baV).length := by rw [bas_len, List.length_take, Nat.min_eq_left h]
    rw [e]; exact List.take_left
theorem ba_drop (l : List Ba) (i : Nat) : (l.flatMap baV).drop (i * 5) = (l.drop i).flatMap baV := by
  rcases Nat.lt_or_ge l.length i with h | h
  · rw [List.drop_of_length_le (by rw [bas_len]; omega), List.drop_of_length_le (by omega)]; rfl
  · conv => lhs; rw [← List.take_append_drop i l, List.flatMap_append]
    have e : i * 5 = ((l.take i).flatMap baV).length := by rw [bas_len, List.length_take, Nat.min_eq_left h]
    rw [e]; exact List.drop_left
end Go.Proofs.YtdmobgdgeiiicaaGreat
