/- Texts put together: Open, OpenS, PlEnd, PlPeer, PeV, PeRow. No condition. -/
import Derived.Test.YtppmjbnhghaffaaRzgjsloivew
import Derived.Test.YtppmjbnhghaffaaRhtuacnmkql
import Derived.ProofKit
import Derived.OpenShut
import Derived.ShutString
import Derived.SliceStrings
import Derived.Lib.IndexLaws
import Derived.Lib.Join
import Derived.Lib.Strings
import Derived.Test.YtppmjbnhghaffaaRows
import Derived.Deep.Slices
import Derived.KernelRfl
import Derived.Test.YtppmjbnhghaffaaRulnxqrwtym
import Derived.Lib.LastIndexByte
namespace Go.Proofs.Ytppmjbnhghaffaa
open Go.ChangeShapes Go.WideShapes Go.ChangeAt Go.RowKit

section
variable {H : Type} {enc : TypeId × Value → H} {P : Program} {W : World}
theorem trod_lt' {t : TypeId} {v : Value} {d : DataW H} {ps : List MemPlace} (h : DataW.Trod enc P W 0 (fun _ => true) true t v d ps) : ∀ x ∈ ps, x.block < W.heap.size := by
  obtain ⟨m, hm⟩ := h; exact DataW.trod_lt m _ _ _ hm
end
end Go.Proofs.Ytppmjbnhghaffaa
namespace Go.Proofs.Ytppmjbnhghaffaa
open Go.ChangeShapes Go.WideShapes Go.ChangeAt Go.RowKit Go.Deep

/-- what reads at type t is laid out as f lays out a datum -/
def Opens {α : Type} (P : Program) (t : TypeId) (f : α → List Value) (good : α → Prop) : Prop :=
  ∀ (H : Type) (enc : TypeId × Value → H) (w : World) (base : Nat) (spare : Nat → Bool) (held : Bool) (fuel : Nat) (cs : List Value) (x : DataW H × List MemPlace), DataW.trod enc P w base spare held fuel t cs = some x → ∃ d, good d ∧ cs = f d
theorem opens_i64 {P : Program} {t : TypeId} (ht : P.underlying t = some (.int .i64)) : Opens P t (fun n : Int => [.int .i64 n]) (fun n => -9223372036854775808 ≤ n ∧ n ≤ 9223372036854775807) := by
  intro H enc w base spare held fuel cs x h
  obtain ⟨n, h1, _, h3⟩ := DataW.trod_int ht h
  exact ⟨n, by simpa [Lit.wf, IntKind.min, IntKind.max, IntKind.signed, IntKind.bits] using h3, h1⟩
theorem opens_u64 {P : Program} {t : TypeId} (ht : P.underlying t = some (.int .u64)) : Opens P t (fun n : Nat => [.int .u64 n]) (fun n => n < 18446744073709551616) := by
  intro H enc w base spare held fuel cs x h
  obtain ⟨n, h1, _, h3⟩ := DataW.trod_int ht h
  have h3 : 0 ≤ n ∧ n ≤ 18446744073709551615 := by simpa [Lit.wf, IntKind.min, IntKind.max, IntKind.signed, IntKind.bits] using h3
  exact ⟨n.toNat, by omega, by rw [h1]; congr 2; omega⟩
theorem opens_bool {P : Program} {t : TypeId} (ht : P.underlying t = some .bool) : Opens P t (fun b : Bool => [.bool b]) (fun _ => True) := by
  intro H enc w base spare held fuel cs x h
  obtain ⟨b, h1, _⟩ := DataW.trod_bool ht h
  exact ⟨b, trivial, h1⟩
theorem all_list {α : Type} {Q : Nat → α → Prop} : ∀ n : Nat, (∀ i, i < n → ∃ d, Q i d) → ∃ l : List α, l.length = n ∧ ∀ i d, l[i]? = some d → Q i d := by
  intro n
  induction n with
  | zero => intro _; exact ⟨[], rfl, fun i d h => by simp at h⟩
  | succ n ih =>
    intro h
    obtain ⟨l, h1, h2⟩ := ih (fun i hi => h i (by omega))
    obtain ⟨d, hd⟩ := h n (by omega)
    refine ⟨l ++ [d], by simp [h1], fun i e he => ?_⟩
    by_cases hi : i < l.length
    · rw [List.getElem?_append_left hi] at he; exact h2 i e he
    · have hl := (List.getElem?_eq_some_iff.1 he).1
      simp at hl
      obtain rfl : i = l.length := by omega
      rw [List.getElem?_append_right (Nat.le_refl _)] at he
      simp at he; subst he; rw [h1]; exact hd
theorem addr_add0 (b o j : Nat) : (⟨b, o, none⟩ : Addr).add j = ⟨b, o + j, none⟩ := by unfold Addr.add; split <;> simp_all
theorem addr_spot {w : World} {a : Addr} {v : Value} (h : w.cell? (a.add 0) = some v) : a.spot = none := by
  unfold World.cell? at h
  cases hsp : a.spot with
  | none => rfl
  | some q =>
    have : (a.add 0).spot.isSome = true := by unfold Addr.add; rw [if_pos rfl, hsp]; rfl
    split at h
    · rw [if_pos this] at h; cases h
    · cases h
section
variable {H : Type} {enc : TypeId × Value → H} {P : Program} {W : World}
theorem okWide_array {n : Nat} {e : TypeId} {r : Reach} {base : Nat} {t : TypeId} {v : Value} (ht : P.underlying t = some (.array n e)) (h : Value.okWide P W r base t v) : ∃ cs, v = .agg cs ∧ cs.size = P.cellsOf t := by
  simp only [Value.okWide, ht] at h
  obtain ⟨cs, h1, h2, _⟩ := h
  exact ⟨cs, h1, h2⟩
/-- an array by value -/
theorem open_arr {r : Reach} {base n : Nat} {t e : TypeId} {v : Value} {d : DataW H} {ps : List MemPlace} {α : Type} {f : α → List Value} {good : α → Prop} (O : Opens P t f good) (ht : P.underlying t = some (.array n e))
    (hval : Value.okWide P W r base t v) (h : DataW.Trod enc P W 0 (fun _ => true) true t v d ps) : ∃ x : α, v = .agg (f x).toArray ∧ good x := by
  obtain ⟨cs, rfl, _⟩ := okWide_array ht hval
  obtain ⟨fuel, hf⟩ := h
  obtain ⟨x, h1, h2⟩ := O H enc W _ _ _ _ _ _ hf
  refine ⟨x, ?_, h1⟩
  simp only [Value.cells] at h2
  rw [← h2]
/-- a slice of things that are laid out alike -/
theorem open_list {r : Reach} {base : Nat} {t e : TypeId} {v : Value} {d : DataW H} {ps : List MemPlace} {α : Type} {f : α → List Value} {good : α → Prop} {n : Nat} (O : Opens P e f good) (hf : ∀ x, (f x).length = n) (hn : 0 < n) (ht : P.underlying t = some (.slice e)) (hc : P.cellsOf e = n)
    (hval : Value.okWide P W r base t v) (h : DataW.Trod enc P W 0 (fun _ => true) true t v d ps) : ∃ l : List α, ReadsL f n W v l ∧ ∀ x ∈ l, good x := by
  obtain ⟨a, len, cap, rfl⟩ := okWide_slice ht hval
  obtain ⟨fuel, hft⟩ := h
  rcases open_slice ht hft with ⟨hcs, _⟩ | ⟨a', len', cap', m, k, D, Pl, hcs, _, hl, hm, hmm, _, hi⟩
  · simp [Value.cells] at hcs
    obtain ⟨rfl, rfl, rfl⟩ := hcs
    exact ⟨[], ReadsL.nil f n W none 0, fun x hx => by simp at hx⟩
  · simp [Value.cells] at hcs
    obtain ⟨rfl, rfl, rfl⟩ := hcs
    simp only [if_true] at hmm
    obtain ⟨l, h1, h2⟩ := all_list (Q := fun i x => good x ∧ ∀ j u, (f x)[j]? = some u → W.cell? ((a'.add (i * n)).add j) = some u) len (fun i hi' => by
      obtain ⟨cs', hcells, htr⟩ := hi i (by omega)
      obtain ⟨x, hg, hx⟩ := O H enc W _ _ _ _ _ _ htr
      obtain ⟨_, hcl, hat⟩ := World.cells?_some hcells
      rw [hc] at hcl hat
      refine ⟨x, hg, fun j u hj => ?_⟩
      have hjn : j < n := by have := (List.getElem?_eq_some_iff.1 hj).1; rw [hf] at this; exact this
      rw [hat j hjn, hx]; exact hj)
    refine ⟨l, ?_, fun x hx => by
      obtain ⟨i, hi'⟩ := List.mem_iff_getElem?.1 hx
      exact (h2 i x hi').1⟩
    unfold ReadsL
    rw [h1]
    refine ⟨by rw [flat_len f n hf, h1], by unfold maxLen at hm; omega, ?_⟩
    by_cases h0 : len = 0
    · exact Or.inl ⟨h0, some a', cap, by rw [h0]⟩
    · have hlen : 0 < l.length := by omega
      obtain ⟨x0, hx0⟩ : ∃ x, l[0]? = some x := ⟨_, List.getElem?_eq_getElem hlen⟩
      obtain ⟨u0, hu0⟩ : ∃ u, (f x0)[0]? = some u := ⟨_, List.getElem?_eq_getElem (by rw [hf]; exact hn)⟩
      have hc0 := (h2 0 x0 hx0).2 0 u0 hu0
      have e0 : a'.add (0 * n) = a' := by rw [Nat.zero_mul]; unfold Addr.add; rw [if_pos rfl]
      rw [e0] at hc0
      have hsp := addr_spot hc0
      obtain ⟨b, o, sp⟩ := a'
      simp only at hsp; subst hsp
      refine Or.inr ⟨by omega, b, o, cap, rfl, hl, ?_, ?_⟩
      · have := block_lt_of_cell hc0
        rw [addr_add0] at this; exact this
      · intro j u hj
        have hjl := (List.getElem?_eq_some_iff.1 hj).1
        rw [flat_len f n hf] at hjl
        have hdm : j = (j / n) * n + j % n := by have := Nat.div_add_mod j n; rw [Nat.mul_comm] at this; omega
        have hq : j / n < l.length := (Nat.div_lt_iff_lt_mul hn).2 hjl
        have hr : j % n < n := Nat.mod_lt _ hn
        have hget := List.getElem?_eq_getElem hq
        rw [hdm, flat_get f n hf l (j / n) _ hget _ hr] at hj
        have := (h2 (j / n) _ hget).2 (j % n) u hj
        rw [addr_add0, addr_add0, Nat.add_assoc, ← hdm] at this
        exact this
end
/-- the fields of a struct, from some offset on: m cells in all -/
def OpensF {α : Type} (P : Program) (fs : List Field) (off m : Nat) (f : α → List Value) (good : α → Prop) : Prop :=
  ∀ (H : Type) (enc : TypeId × Value → H) (w : World) (base : Nat) (spare : Nat → Bool) (held : Bool) (fuel : Nat) (cs : List Value),
    (∀ (i : Nat) (fd : Field), fs[i]? = some fd → ∃ y, DataW.trod enc P w base spare held fuel fd.type ((cs.drop fd.offset).take (P.cellsOf fd.type)) = some y) → ∃ d, good d ∧ (cs.drop off).take m = f d
theorem opensF_nil {P : Program} {off : Nat} : OpensF P [] off 0 (fun _ : Unit => []) (fun _ => True) := by
  intro H enc w base spare held fuel cs _; exact ⟨(), trivial, by simp⟩
theorem opensF_cons {P : Program} {fd : Field} {fs : List Field} {off n m : Nat} {α β : Type} {g : α → List Value} {f : β → List Value} {good1 : α → Prop} {good2 : β → Prop} (O : Opens P fd.type g good1) (hn : P.cellsOf fd.type = n) (ho : fd.offset = off) (R : OpensF P fs (off + n) m f good2) :
    OpensF P (fd :: fs) off (n + m) (fun p : α × β => g p.1 ++ f p.2) (fun p => good1 p.1 ∧ good2 p.2) := by
  intro H enc w base spare held fuel cs h
  obtain ⟨y, hy⟩ := h 0 fd rfl
  obtain ⟨a, h1, h2⟩ := O H enc w _ _ _ _ _ _ hy
  obtain ⟨b, h3, h4⟩ := R H enc w base spare held fuel cs (fun i fd' hi => h (i + 1) fd' (by simpa using hi))
  refine ⟨(a, b), ⟨h1, h3⟩, ?_⟩
  rw [ho, hn] at h2
  rw [List.take_add, h2, List.drop_drop, h4]
theorem opens_of_fields {P : Program} {t : TypeId} {fs : Array Field} {m : Nat} {α : Type} {f : α → List Value} {good : α → Prop} (ht : P.underlying t = some (.struct fs)) (R : OpensF P fs.toList 0 m f good) (hc : P.cellsOf t = m) : Opens P t f good := by
  intro H enc w base spare held fuel cs x h
  obtain ⟨xs, n, _, _, hlen, hxl, hf⟩ := DataW.trod_struct ht h
  obtain ⟨d, h1, h2⟩ := R H enc w base spare held n cs (fun i fd hi => by
    have hi' : fs[i]? = some fd := by rw [← Array.getElem?_toList]; exact hi
    have := (Array.getElem?_eq_some_iff.1 hi').1
    exact ⟨_, (hf i fd hi').trans (List.getElem?_eq_getElem (l := xs) (i := i) (by rw [hxl]; exact this))⟩)
  refine ⟨d, h1, ?_⟩
  rw [List.drop_zero, List.take_of_length_le (by rw [hlen, hc]; exact Nat.le_refl _)] at h2
  exact h2
theorem Opens.map {P : Program} {t : TypeId} {α β : Type} {f : α → List Value} {g : β → List Value} {good : α → Prop} {good' : β → Prop} (O : Opens P t f good) (h : ∀ d, good d → ∃ d', good' d' ∧ f d = g d') : Opens P t g good' := by
  intro H enc w base spare held fuel cs x hx
  obtain ⟨d, h1, h2⟩ := O H enc w _ _ _ _ _ _ hx
  obtain ⟨d', h3, h4⟩ := h d h1
  exact ⟨d', h3, by rw [h2, h4]⟩
/-- two whole numbers, as an array -/
def twoV (p : Int × Int) : List Value := [.int .i64 p.1, .int .i64 p.2]
theorem opens_arr2 {P : Program} {t e : TypeId} (ht : P.underlying t = some (.array 2 e)) (he : P.underlying e = some (.int .i64)) (hc : P.cellsOf e = 1) (hct : P.cellsOf t = 2) :
    Opens P t twoV (fun p => (-9223372036854775808 ≤ p.1 ∧ p.1 ≤ 9223372036854775807) ∧ (-9223372036854775808 ≤ p.2 ∧ p.2 ≤ 9223372036854775807)) := by
  intro H enc w base spare held fuel cs x h
  obtain ⟨xs, m, _, _, hl, hxl, hi⟩ := DataW.trod_array ht h
  rw [hct] at hl
  rw [hc] at hi
  have get : ∀ i, i < 2 → ∃ y, xs[i]? = some y := fun i h => ⟨_, List.getElem?_eq_getElem (by rw [hxl]; exact h)⟩
  obtain ⟨y0, h0⟩ := get 0 (by omega)
  obtain ⟨y1, h1⟩ := get 1 (by omega)
  obtain ⟨n0, g0, e0⟩ := opens_i64 he H enc w _ _ _ _ _ _ ((hi 0 (by omega)).trans h0)
  obtain ⟨n1, g1, e1⟩ := opens_i64 he H enc w _ _ _ _ _ _ ((hi 1 (by omega)).trans h1)
  refine ⟨(n0, n1), ⟨g0, g1⟩, ?_⟩
  match cs, hl with
  | [a, b], _ => simp at e0 e1; subst e0; subst e1; rfl
def adV (a : Ad) : List Value := [.bool a.v6, .int .u64 a.hi, .int .u64 a.lo]
def enV (e : En) : List Value := [.bool e.ad.v6, .int .u64 e.ad.hi, .int .u64 e.ad.lo, .int .i64 e.port]
def En.fits (e : En) : Prop := e.ad.fits ∧ -9223372036854775808 ≤ e.port ∧ e.port ≤ 9223372036854775807
def It.fits (x : It) : Prop := -9223372036854775808 ≤ x.key ∧ x.key ≤ 9223372036854775807 ∧ x.en.fits
theorem opens_addr : Opens Try.prog 32 adV Ad.fits :=
  (opens_of_fields Try.underlying32 (opensF_cons (n := 1) (opens_bool Try.underlying4) (by kernel_rfl) rfl (opensF_cons (n := 1) (opens_u64 Try.underlying30) (by kernel_rfl) rfl (opensF_cons (n := 1) (opens_u64 Try.underlying30) (by kernel_rfl) rfl opensF_nil))) (by kernel_rfl)).map
    fun ⟨a, b, c, _⟩ ⟨_, h1, h2, _⟩ => ⟨⟨a, b, c⟩, ⟨h1, h2⟩, rfl⟩
theorem opens_end : Opens Try.prog 34 enV En.fits :=
  (opens_of_fields Try.underlying34 (opensF_cons (n := 3) opens_addr (by kernel_rfl) rfl (opensF_cons (n := 1) (opens_i64 Try.underlying3) (by kernel_rfl) rfl opensF_nil)) (by kernel_rfl)).map
    fun ⟨a, b, _⟩ ⟨h1, h2, _⟩ => ⟨⟨a, b⟩, ⟨h1, h2⟩, rfl⟩
end Go.Proofs.Ytppmjbnhghaffaa
namespace Go.Proofs.Ytppmjbnhghaffaa
open Go.RowKit

/-! ### reading -/
def boxed (h : List UInt8) : Prop := 2 ≤ h.length ∧ h[0]? = some 91 ∧ h[h.length - 1]? = some 93
instance (h : List UInt8) : Decidable (boxed h) := by unfold boxed; infer_instance
/-! ### right, written -/
def enRight (e : En) : Bool := adRight e.ad && (decide (1 ≤ e.port) && decide (e.port ≤ 65535))
end Go.Proofs.Ytppmjbnhghaffaa
namespace Go.Proofs.Ytppmjbnhghaffaa
open Go.RowKit

structure Pe where
  en : En
  came : Bool
  since : Int
  pts : Int
  at_ : Int
  ping : Int
  work : Int
deriving DecidableEq
instance : Inhabited Pe := ⟨⟨⟨⟨false, 0, 0⟩, 0⟩, false, 0, 0, 0, 0, 0⟩⟩
def withinB (n most : Int) : Bool := decide (0 ≤ n) && decide (n ≤ most)
def peRight (p : Pe) : Bool := enRight p.en && (withinB p.since 1099511627776 && (withinB p.at_ 1099511627776 && (withinB p.work 1099511627776 && (withinB p.pts 1099511627776 && withinB p.ping 1048576))))
def Pe.fits (p : Pe) : Prop := (p.en.ad.fits ∧ -9223372036854775808 ≤ p.en.port ∧ p.en.port ≤ 9223372036854775807) ∧ (-9223372036854775808 ≤ p.since ∧ p.since ≤ 9223372036854775807) ∧ (-9223372036854775808 ≤ p.pts ∧ p.pts ≤ 9223372036854775807) ∧ (-9223372036854775808 ≤ p.at_ ∧ p.at_ ≤ 9223372036854775807) ∧ (-9223372036854775808 ≤ p.ping ∧ p.ping ≤ 9223372036854775807) ∧ (-9223372036854775808 ≤ p.work ∧ p.work ≤ 9223372036854775807)
theorem Pe.ext' {a b : Pe} (h1 : a.en = b.en) (h2 : a.came = b.came) (h3 : a.since = b.since) (h4 : a.pts = b.pts) (h5 : a.at_ = b.at_) (h6 : a.ping = b.ping) (h7 : a.work = b.work) : a = b := by cases a; cases b; simp_all
end Go.Proofs.Ytppmjbnhghaffaa
namespace Go.Proofs.Ytppmjbnhghaffaa
open Go.ChangeShapes Go.WideShapes Go.ChangeAt Go.RowKit Go.Deep

def peV (p : Pe) : List Value := [.bool p.en.ad.v6, .int .u64 p.en.ad.hi, .int .u64 p.en.ad.lo, .int .i64 p.en.port, .bool p.came, .int .i64 p.since, .int .i64 p.pts, .int .i64 p.at_, .int .i64 p.ping, .int .i64 p.work]
theorem peV_len (p : Pe) : (peV p).length = 10 := rfl
theorem opens_score : Opens Try.prog 64 (fun p : Int × Int => [.int .i64 p.1, .int .i64 p.2]) (fun p => (-9223372036854775808 ≤ p.1 ∧ p.1 ≤ 9223372036854775807) ∧ (-9223372036854775808 ≤ p.2 ∧ p.2 ≤ 9223372036854775807)) :=
  (opens_of_fields Try.underlying64 (opensF_cons (n := 1) (opens_i64 Try.underlying3) (by kernel_rfl) rfl (opensF_cons (n := 1) (opens_i64 Try.underlying3) (by kernel_rfl) rfl opensF_nil)) (by kernel_rfl)).map
    fun ⟨a, b, _⟩ ⟨h1, h2, _⟩ => ⟨⟨a, b⟩, ⟨h1, h2⟩, rfl⟩
theorem opens_peer : Opens Try.prog 66 peV Pe.fits :=
  (opens_of_fields Try.underlying66 (opensF_cons (n := 4) opens_end (by kernel_rfl) rfl (opensF_cons (n := 1) (opens_bool Try.underlying4) (by kernel_rfl) rfl (opensF_cons (n := 1) (opens_i64 Try.underlying3) (by kernel_rfl) rfl
    (opensF_cons (n := 2) opens_score (by kernel_rfl) rfl (opensF_cons (n := 1) (opens_i64 Try.underlying3) (by kernel_rfl) rfl (opensF_cons (n := 1) (opens_i64 Try.underlying3) (by kernel_rfl) rfl opensF_nil)))))) (by kernel_rfl)).map
    fun ⟨e, b, s, p, g, k, _⟩ ⟨h1, _, h3, h4, h5, h6, _⟩ => ⟨⟨e, b, s, p.1, p.2, g, k⟩, ⟨h1, h3, h4.1, h4.2, h5, h6⟩, rfl⟩
/-- a peer in a block -/
def PeAt (w : World) (B : Nat) (p : Pe) : Prop := ∀ j v, (peV p)[j]? = some v → w.cell? ⟨B, j, none⟩ = some v
theorem PeAt.open {w : World} {B : Nat} {p : Pe} (h : PeAt w B p) : w.cell? ⟨B, 0, none⟩ = some (.bool p.en.ad.v6) ∧ w.cell? ⟨B, 1, none⟩ = some (.int .u64 p.en.ad.hi) ∧ w.cell? ⟨B, 2, none⟩ = some (.int .u64 p.en.ad.lo) ∧ w.cell? ⟨B, 3, none⟩ = some (.int .i64 p.en.port) ∧ w.cell? ⟨B, 4, none⟩ = some (.bool p.came) ∧
    w.cell? ⟨B, 5, none⟩ = some (.int .i64 p.since) ∧ w.cell? ⟨B, 6, none⟩ = some (.int .i64 p.pts) ∧ w.cell? ⟨B, 7, none⟩ = some (.int .i64 p.at_) ∧ w.cell? ⟨B, 8, none⟩ = some (.int .i64 p.ping) ∧ w.cell? ⟨B, 9, none⟩ = some (.int .i64 p.work) :=
  ⟨h 0 _ rfl, h 1 _ rfl, h 2 _ rfl, h 3 _ rfl, h 4 _ rfl, h 5 _ rfl, h 6 _ rfl, h 7 _ rfl, h 8 _ rfl, h 9 _ rfl⟩
theorem PeAt.mk {w : World} {B : Nat} {p : Pe} (h0 : w.cell? ⟨B, 0, none⟩ = some (.bool p.en.ad.v6)) (h1 : w.cell? ⟨B, 1, none⟩ = some (.int .u64 p.en.ad.hi)) (h2 : w.cell? ⟨B, 2, none⟩ = some (.int .u64 p.en.ad.lo)) (h3 : w.cell? ⟨B, 3, none⟩ = some (.int .i64 p.en.port)) (h4 : w.cell? ⟨B, 4, none⟩ = some (.bool p.came))
    (h5 : w.cell? ⟨B, 5, none⟩ = some (.int .i64 p.since)) (h6 : w.cell? ⟨B, 6, none⟩ = some (.int .i64 p.pts)) (h7 : w.cell? ⟨B, 7, none⟩ = some (.int .i64 p.at_)) (h8 : w.cell? ⟨B, 8, none⟩ = some (.int .i64 p.ping)) (h9 : w.cell? ⟨B, 9, none⟩ = some (.int .i64 p.work)) : PeAt w B p := by
  intro j v hj
  have hl := (List.getElem?_eq_some_iff.1 hj).1
  rw [peV_len] at hl
  unfold peV at hj
  match j, hl with
  | 0, _ => simp at hj; rw [← hj]; exact h0
  | 1, _ => simp at hj; rw [← hj]; exact h1
  | 2, _ => simp at hj; rw [← hj]; exact h2
  | 3, _ => simp at hj; rw [← hj]; exact h3
  | 4, _ => simp at hj; rw [← hj]; exact h4
  | 5, _ => simp at hj; rw [← hj]; exact h5
  | 6, _ => simp at hj; rw [← hj]; exact h6
  | 7, _ => simp at hj; rw [← hj]; exact h7
  | 8, _ => simp at hj; rw [← hj]; exact h8
  | 9, _ => simp at hj; rw [← hj]; exact h9
theorem PeAt.below {w w' : World} {B : Nat} {p : Pe} (h : PeAt w B p) (hB : B < w.heap.size) (hb : Below w.heap.size w w') : PeAt w' B p := fun j v hj => by rw [hb.cell (p := ⟨B, j, none⟩) hB]; exact h j v hj
theorem PeAt.ext {w : World} {B : Nat} {p : Pe} (h : PeAt w B p) (hB : B < w.heap.size) (x : Grow) : PeAt (ext w x) B p := h.below hB (ext_below w x)
end Go.Proofs.Ytppmjbnhghaffaa
namespace Go.Proofs.Ytppmjbnhghaffaa
open Go.RowKit

/-- ten cells of a peer in a row -/
def PeIn (w : World) (b o : Nat) (p : Pe) : Prop := w.cell? ⟨b, o, none⟩ = some (.bool p.en.ad.v6) ∧ w.cell? ⟨b, o + 1, none⟩ = some (.int .u64 p.en.ad.hi) ∧ w.cell? ⟨b, o + 2, none⟩ = some (.int .u64 p.en.ad.lo) ∧ w.cell? ⟨b, o + 3, none⟩ = some (.int .i64 p.en.port) ∧ w.cell? ⟨b, o + 4, none⟩ = some (.bool p.came) ∧ w.cell? ⟨b, o + 5, none⟩ = some (.int .i64 p.since) ∧ w.cell? ⟨b, o + 6, none⟩ = some (.int .i64 p.pts) ∧ w.cell? ⟨b, o + 7, none⟩ = some (.int .i64 p.at_) ∧ w.cell? ⟨b, o + 8, none⟩ = some (.int .i64 p.ping) ∧ w.cell? ⟨b, o + 9, none⟩ = some (.int .i64 p.work)
theorem pes_open {w : World} {v : Value} {l : List Pe} (h : ReadsL peV 10 w v l) : l.length ≤ 9223372036854775807 ∧ ∃ (a : Option Addr) (c : Nat), v = .slice a l.length c ∧ (0 < l.length → ∃ b o, a = some ⟨b, o, none⟩ ∧ l.length ≤ c ∧ b < w.heap.size ∧
      ∀ (i : Nat) (p : Pe), l[i]? = some p → PeIn w b (o + i * 10) p) := by
  obtain ⟨h1, a, c, h2, h3⟩ := h.open peV_len (by omega)
  refine ⟨h1, a, c, h2, fun hp => ?_⟩
  obtain ⟨b, o, h4, h5, h6, h7⟩ := h3 hp
  refine ⟨b, o, h4, h5, h6, fun i x hi => ⟨?_, ?_, ?_, ?_, ?_, ?_, ?_, ?_, ?_, ?_⟩⟩
  · have := h7 i x hi 0 _ rfl; simpa [Nat.add_assoc] using this
  · have := h7 i x hi 1 _ rfl; simpa [Nat.add_assoc] using this
  · have := h7 i x hi 2 _ rfl; simpa [Nat.add_assoc] using this
  · have := h7 i x hi 3 _ rfl; simpa [Nat.add_assoc] using this
  · have := h7 i x hi 4 _ rfl; simpa [Nat.add_assoc] using this
  · have := h7 i x hi 5 _ rfl; simpa [Nat.add_assoc] using this
  · have := h7 i x hi 6 _ rfl; simpa [Nat.add_assoc] using this
  · have := h7 i x hi 7 _ rfl; simpa [Nat.add_assoc] using this
  · have := h7 i x hi 8 _ rfl; simpa [Nat.add_assoc] using this
  · have := h7 i x hi 9 _ rfl; simpa [Nat.add_assoc] using this
theorem PeIn.below {B : Nat} {w w' : World} {b o : Nat} {p : Pe} (h : PeIn w b o p) (hb : Below B w w') (hlt : b < B) : PeIn w' b o p := by
  obtain ⟨a0, a1, a2, a3, a4, a5, a6, a7, a8, a9⟩ := h
  exact ⟨keep hb hlt a0, keep hb hlt a1, keep hb hlt a2, keep hb hlt a3, keep hb hlt a4, keep hb hlt a5, keep hb hlt a6, keep hb hlt a7, keep hb hlt a8, keep hb hlt a9⟩
theorem PeIn.ext {w : World} {b o : Nat} {p : Pe} (h : PeIn w b o p) (hlt : b < w.heap.size) : ∀ y, PeIn (Go.Proofs.Ytppmjbnhghaffaa.ext w y) b o p := fun y => h.below (ext_below w y) hlt
end Go.Proofs.Ytppmjbnhghaffaa
