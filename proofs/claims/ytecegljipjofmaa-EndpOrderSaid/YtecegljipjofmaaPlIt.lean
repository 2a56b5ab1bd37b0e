/- Items: a key and an end; their order; rows of things of several cells. No condition. -/
import Derived.Test.YtecegljipjofmaaPlOrd
import Derived.Test.YtecegljipjofmaaPlHeap
import Derived.Test.YtecegljipjofmaaRow
namespace Go.Proofs.Ytecegljipjofmaa
open Go.RowKit

theorem flat_get {α β : Type} (f : α → List β) (n : Nat) (hf : ∀ x, (f x).length = n) : ∀ (l : List α) (i : Nat) (x : α), l[i]? = some x → ∀ j, j < n → (l.flatMap f)[i * n + j]? = (f x)[j]? := by
  intro l
  induction l with
  | nil => intro i x h; simp at h
  | cons y r ih =>
    intro i x h j hj
    rw [List.flatMap_cons]
    cases i with
    | zero =>
      simp at h; subst h
      rw [Nat.zero_mul, Nat.zero_add, List.getElem?_append_left (by rw [hf]; exact hj)]
    | succ i =>
      have h' : r[i]? = some x := by simpa using h
      rw [List.getElem?_append_right (by rw [hf, Nat.succ_mul]; omega), hf, show (i + 1) * n + j - n = i * n + j from by rw [Nat.succ_mul]; omega]
      exact ih i x h' j hj
theorem flat_len {α β : Type} (f : α → List β) (n : Nat) (hf : ∀ x, (f x).length = n) (l : List α) : (l.flatMap f).length = l.length * n := by
  induction l with
  | nil => simp
  | cons y r ih => rw [List.flatMap_cons, List.length_append, hf, ih, List.length_cons, Nat.succ_mul]; omega
theorem flat_snoc {α β : Type} (f : α → List β) (l : List α) (x : α) : (l ++ [x]).flatMap f = l.flatMap f ++ f x := by simp

/-- a row of things of n cells each, read -/
def ReadsL {α : Type} (f : α → List Value) (n : Nat) (w : World) (v : Value) (l : List α) : Prop := Reads w v l.length n (l.flatMap f)
theorem ReadsL.below {α : Type} {f : α → List Value} {n : Nat} {w w' : World} {v : Value} {l : List α} (h : ReadsL f n w v l) (hb : Below w.heap.size w w') : ReadsL f n w' v l := Reads.below h hb
/-- what the walk wants: the slice opened; each thing's cells -/
theorem ReadsL.open {α : Type} {f : α → List Value} {n : Nat} {w : World} {v : Value} {l : List α} (h : ReadsL f n w v l) (hf : ∀ x, (f x).length = n) (hn : 0 < n) :
    l.length ≤ 9223372036854775807 ∧ ∃ (a : Option Addr) (c : Nat), v = .slice a l.length c ∧ (0 < l.length → ∃ b o, a = some ⟨b, o, none⟩ ∧ l.length ≤ c ∧ b < w.heap.size ∧
      ∀ (i : Nat) (x : α), l[i]? = some x → ∀ (j : Nat) (u : Value), (f x)[j]? = some u → w.cell? ⟨b, o + (i * n + j), none⟩ = some u) := by
  obtain ⟨_, h2, a, c, hv, h3⟩ := Reads.open h
  refine ⟨h2, a, c, hv, fun hp => ?_⟩
  obtain ⟨b, o, ha, hc, hb, hx⟩ := h3 hp
  refine ⟨b, o, ha, hc, hb, fun i x hi j u hu => hx _ _ ?_⟩
  have hj := (List.getElem?_eq_some_iff.1 hu).1
  rw [hf] at hj
  rw [flat_get f n hf l i x hi j hj]; exact hu
theorem ReadsL.new {α : Type} {f : α → List Value} {n : Nat} {w : World} (T : TypeId) (l : List α) (hf : ∀ x, (f x).length = n) (hn : 0 < n) (hm : l.length ≤ 9223372036854775807) (c : Nat) (hc : c = l.length) : ReadsL f n (w.alloc (.cells (l.flatMap f).toArray T)) (.slice (some ⟨w.heap.size, 0, none⟩) c c) l := by
  subst hc
  refine ⟨flat_len f n hf l, hm, ?_⟩
  rcases Nat.eq_zero_or_pos l.length with h0 | h0
  · exact Or.inl ⟨h0, _, _, by rw [h0]⟩
  · refine Or.inr ⟨h0, w.heap.size, 0, _, rfl, Nat.le_refl _, by simp, fun j x hj => ?_⟩
    rw [Nat.zero_add]; exact (BlockIs.new w _ T).cell hj
theorem owns_readsL {α : Type} {f : α → List Value} {n : Nat} {w : World} {base : Nat} {e : TypeId} {v : Value} {l : List α} (h : w.ownsRow base e n v l.length (l.flatMap f)) : ReadsL f n w v l := owns_reads h
theorem ReadsL.nil {α : Type} (f : α → List Value) (n : Nat) (w : World) (a : Option Addr) (c : Nat) : ReadsL f n w (.slice a 0 c) [] := ⟨by simp, by simp, Or.inl ⟨rfl, a, c, rfl⟩⟩

structure It where
  key : Int
  en : En
instance : Inhabited It := ⟨⟨0, default⟩⟩
def itCmp (a b : It) : Int := orI [cmpI a.key b.key, enCmp a.en b.en]
def itLt (a b : It) : Bool := decide (itCmp a b < 0)
def itV (x : It) : List Value := [.int .i64 x.key, .bool x.en.ad.v6, .int .u64 x.en.ad.hi, .int .u64 x.en.ad.lo, .int .i64 x.en.port]
theorem itV_len (x : It) : (itV x).length = 5 := rfl
theorem cmp_it : Cmp itCmp := by
  have h := cmp_then (cmp_on cmp_int It.key) (cmp_on cmp_en It.en)
  have e : itCmp = _ := funext fun a => funext fun b => orI_two (cmpI a.key b.key) (enCmp a.en b.en)
  rw [e]; exact h
theorem itCmp_zero {a b : It} (h : itCmp a b = 0) : a = b := by
  unfold itCmp at h; rw [orI_two] at h
  by_cases h1 : cmpI a.key b.key = 0
  · rw [if_pos h1] at h
    have e1 := cmpI_zero h1; have e2 := enCmp_zero h
    cases a; cases b; simp_all
  · rw [if_neg h1] at h; exact absurd h h1
/-- a comparison that parts all is a strict total order -/
theorem tot_of {α : Type} {c : α → α → Int} (C : Cmp c) (h0 : ∀ a b, c a b = 0 → a = b) : Hp.Tot fun a b => decide (c a b < 0) := by
  constructor
  · intro a b h
    simp only [decide_eq_true_eq, decide_eq_false_iff_not] at *
    have := C.neg a b; omega
  · intro a b d h1 h2
    simp only [decide_eq_false_iff_not] at *
    intro h
    have e1 : c a b ≤ 0 := by have := C.neg b a; omega
    have e2 : c b d ≤ 0 := by have := C.neg d b; omega
    have := C.trans a b d e1 e2
    have := C.neg a d; omega
  · intro a b h1 h2
    simp only [decide_eq_false_iff_not] at *
    exact h0 a b (by have := C.neg a b; omega)
theorem tot_it : Hp.Tot itLt := tot_of cmp_it fun _ _ => itCmp_zero
end Go.Proofs.Ytecegljipjofmaa
