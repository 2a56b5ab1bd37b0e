/- Texts put together: Open, OpenS. No condition. -/
import Derived.Test.YtnohkfbapibmdaaGreatRctlrhhfaal
import Derived.Test.YtnohkfbapibmdaaGreatReavtgjtnmi
import Derived.ProofKit
import Derived.OpenShut
import Derived.ShutString
import Derived.SliceStrings
import Derived.Test.YtnohkfbapibmdaaGreatRows
import Derived.Deep.Slices
import Derived.KernelRfl
namespace Go.Proofs.YtnohkfbapibmdaaGreat
open Go.ChangeShapes Go.WideShapes Go.ChangeAt Go.RowKit

section
variable {H : Type} {enc : TypeId × Value → H} {P : Program} {W : World}
theorem trod_lt' {t : TypeId} {v : Value} {d : DataW H} {ps : List MemPlace} (h : DataW.Trod enc P W 0 (fun _ => true) true t v d ps) : ∀ x ∈ ps, x.block < W.heap.size := by
  obtain ⟨m, hm⟩ := h; exact DataW.trod_lt m _ _ _ hm
end
end Go.Proofs.YtnohkfbapibmdaaGreat
namespace Go.Proofs.YtnohkfbapibmdaaGreat
open Go.ChangeShapes Go.WideShapes Go.ChangeAt Go.RowKit Go.Deep

/-- what reads at type t is laid out as f lays out a datum -/
def Opens {α : Type} (P : Program) (t : TypeId) (f : α → List Value) (good : α → Prop) : Prop :=
  ∀ (H : Type) (enc : TypeId × Value → H) (w : World) (base : Nat) (spare : Nat → Bool) (held : Bool) (fuel : Nat) (cs : List Value) (x : DataW H × List MemPlace), DataW.trod enc P w base spare held fuel t cs = some x → ∃ d, good d ∧ cs = f d
theorem opens_i64 {P : Program} {t : TypeId} (ht : P.underlying t = some (.int .i64)) : Opens P t (fun n : Int => [.int .i64 n]) (fun n => -9223372036854775808 ≤ n ∧ n ≤ 9223372036854775807) := by
  intro H enc w base spare held fuel cs x h
  obtain ⟨n, h1, _, h3⟩ := DataW.trod_int ht h
  exact ⟨n, by simpa [Lit.wf, IntKind.min, IntKind.max, IntKind.signed, IntKind.bits] using h3, h1⟩
theorem opens_u64 {P : Program} {t : TypeId} (ht : P.underlying t = some (.int .u64)) : Opens P t (fun n : Nat => [.int .u64 n]) (fun n => n < 18446744073709551616) := by
  intro H enc w base spare held fuel cs x h
  obtain ⟨n, h1, _, h3⟩ := DataW.trod_int ht h
  have h3 : 0 ≤ n ∧ n ≤ 18446744073709551615 := by simpa [Lit.wf, IntKind.min, IntKind.max, IntKind.signed, IntKind.bits] using h3
  exact ⟨n.toNat, by omega, by rw [h1]; congr 2; omega⟩
theorem opens_bool {P : Program} {t : TypeId} (ht : P.underlying t = some .bool) : Opens P t (fun b : Bool => [.bool b]) (fun _ => True) := by
  intro H enc w base spare held fuel cs x h
  obtain ⟨b, h1, _⟩ := DataW.trod_bool ht h
  exact ⟨b, trivial, h1⟩
section
variable {H : Type} {enc : TypeId × Value → H} {P : Program} {W : World}
/-- a struct by value -/
theorem open_struct {r : Reach} {base : Nat} {t : TypeId} {v : Value} {d : DataW H} {ps : List MemPlace} {α : Type} {f : α → List Value} {good : α → Prop} {fs : Array Field} (O : Opens P t f good) (ht : P.underlying t = some (.struct fs))
    (hval : Value.okWide P W r base t v) (h : DataW.Trod enc P W 0 (fun _ => true) true t v d ps) : ∃ x : α, v = .agg (f x).toArray ∧ good x := by
  obtain ⟨cs, rfl, _⟩ := okWide_struct ht hval
  obtain ⟨fuel, hf⟩ := h
  obtain ⟨x, h1, h2⟩ := O H enc W _ _ _ _ _ _ hf
  refine ⟨x, ?_, h1⟩
  simp only [Value.cells] at h2
  rw [← h2]
end
/-- the fields of a struct, from some offset on: m cells in all -/
def OpensF {α : Type} (P : Program) (fs : List Field) (off m : Nat) (f : α → List Value) (good : α → Prop) : Prop :=
  ∀ (H : Type) (enc : TypeId × Value → H) (w : World) (base : Nat) (spare : Nat → Bool) (held : Bool) (fuel : Nat) (cs : List Value),
    (∀ (i : Nat) (fd : Field), fs[i]? = some fd → ∃ y, DataW.trod enc P w base spare held fuel fd.type ((cs.drop fd.offset).take (P.cellsOf fd.type)) = some y) → ∃ d, good d ∧ (cs.drop off).take m = f d
theorem opensF_nil {P : Program} {off : Nat} : OpensF P [] off 0 (fun _ : Unit => []) (fun _ => True) := by
  intro H enc w base spare held fuel cs _; exact ⟨(), trivial, by simp⟩
theorem opensF_cons {P : Program} {fd : Field} {fs : List Field} {off n m : Nat} {α β : Type} {g : α → List Value} {f : β → List Value} {good1 : α → Prop} {good2 : β → Prop} (O : Opens P fd.type g good1) (hn : P.cellsOf fd.type = n) (ho : fd.offset = off) (R : OpensF P fs (off + n) m f good2) :
    OpensF P (fd :: fs) off (n + m) (fun p : α × β => g p.1 ++ f p.2) (fun p => good1 p.1 ∧ good2 p.2) := by
  intro H enc w base spare held fuel cs h
  obtain ⟨y, hy⟩ := h 0 fd rfl
  obtain ⟨a, h1, h2⟩ := O H enc w _ _ _ _ _ _ hy
  obtain ⟨b, h3, h4⟩ := R H enc w base spare held fuel cs (fun i fd' hi => h (i + 1) fd' (by simpa using hi))
  refine ⟨(a, b), ⟨h1, h3⟩, ?_⟩
  rw [ho, hn] at h2
  rw [List.take_add, h2, List.drop_drop, h4]
theorem opens_of_fields {P : Program} {t : TypeId} {fs : Array Field} {m : Nat} {α : Type} {f : α → List Value} {good : α → Prop} (ht : P.underlying t = some (.struct fs)) (R : OpensF P fs.toList 0 m f good) (hc : P.cellsOf t = m) : Opens P t f good := by
  intro H enc w base spare held fuel cs x h
  obtain ⟨xs, n, _, _, hlen, hxl, hf⟩ := DataW.trod_struct ht h
  obtain ⟨d, h1, h2⟩ := R H enc w base spare held n cs (fun i fd hi => by
    have hi' : fs[i]? = some fd := by rw [← Array.getElem?_toList]; exact hi
    have := (Array.getElem?_eq_some_iff.1 hi').1
    exact ⟨_, (hf i fd hi').trans (List.getElem?_eq_getElem (l := xs) (i := i) (by rw [hxl]; exact this))⟩)
  refine ⟨d, h1, ?_⟩
  rw [List.drop_zero, List.take_of_length_le (by rw [hlen, hc]; exact Nat.le_refl _)] at h2
  exact h2
theorem Opens.map {P : Program} {t : TypeId} {α β : Type} {f : α → List Value} {g : β → List Value} {good : α → Prop} {good' : β → Prop} (O : Opens P t f good) (h : ∀ d, good d → ∃ d', good' d' ∧ f d = g d') : Opens P t g good' := by
  intro H enc w base spare held fuel cs x hx
  obtain ⟨d, h1, h2⟩ := O H enc w _ _ _ _ _ _ hx
  obtain ⟨d', h3, h4⟩ := h d h1
  exact ⟨d', h3, by rw [h2, h4]⟩
def adV (a : Ad) : List Value := [.bool a.v6, .int .u64 a.hi, .int .u64 a.lo]
def enV (e : En) : List Value := [.bool e.ad.v6, .int .u64 e.ad.hi, .int .u64 e.ad.lo, .int .i64 e.port]
def En.fits (e : En) : Prop := e.ad.fits ∧ -9223372036854775808 ≤ e.port ∧ e.port ≤ 9223372036854775807
def It.fits (x : It) : Prop := -9223372036854775808 ≤ x.key ∧ x.key ≤ 9223372036854775807 ∧ x.en.fits
theorem opens_addr : Opens Tryz.prog 24 adV Ad.fits :=
  (opens_of_fields Tryz.underlying24 (opensF_cons (n := 1) (opens_bool Tryz.underlying4) (by kernel_rfl) rfl (opensF_cons (n := 1) (opens_u64 Tryz.underlying22) (by kernel_rfl) rfl (opensF_cons (n := 1) (opens_u64 Tryz.underlying22) (by kernel_rfl) rfl opensF_nil))) (by kernel_rfl)).map
    fun ⟨a, b, c, _⟩ ⟨_, h1, h2, _⟩ => ⟨⟨a, b, c⟩, ⟨h1, h2⟩, rfl⟩
theorem opens_end : Opens Tryz.prog 26 enV En.fits :=
  (opens_of_fields Tryz.underlying26 (opensF_cons (n := 3) opens_addr (by kernel_rfl) rfl (opensF_cons (n := 1) (opens_i64 Tryz.underlying3) (by kernel_rfl) rfl opensF_nil)) (by kernel_rfl)).map
    fun ⟨a, b, _⟩ ⟨h1, h2, _⟩ => ⟨⟨a, b⟩, ⟨h1, h2⟩, rfl⟩
end Go.Proofs.YtnohkfbapibmdaaGreat
