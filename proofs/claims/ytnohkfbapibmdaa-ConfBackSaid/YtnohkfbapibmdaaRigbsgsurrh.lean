/- Texts put together: PlIt. No condition. -/
import Derived.Test.YtnohkfbapibmdaaRfuzzyjxoef
import Derived.Test.YtnohkfbapibmdaaRcnoqqjzrxh
import Derived.Test.YtnohkfbapibmdaaRdxidsqhsit
namespace Go.Proofs.Ytnohkfbapibmdaa
open Go.RowKit

theorem flat_get {α β : Type} (f : α → List β) (n : Nat) (hf : ∀ x, (f x).length = n) : ∀ (l : List α) (i : Nat) (x : α), l[i]? = some x → ∀ j, j < n → (l.flatMap f)[i * n + j]? = (f x)[j]? := by
  intro l
  induction l with
  | nil => intro i x h; simp at h
  | cons y r ih =>
    intro i x h j hj
    rw [List.flatMap_cons]
    cases i with
    | zero =>
      simp at h; subst h
      rw [Nat.zero_mul, Nat.zero_add, List.getElem?_append_left (by rw [hf]; exact hj)]
    | succ i =>
      have h' : r[i]? = some x := by simpa using h
      rw [List.getElem?_append_right (by rw [hf, Nat.succ_mul]; omega), hf, show (i + 1) * n + j - n = i * n + j from by rw [Nat.succ_mul]; omega]
      exact ih i x h' j hj
theorem flat_len {α β : Type} (f : α → List β) (n : Nat) (hf : ∀ x, (f x).length = n) (l : List α) : (l.flatMap f).length = l.length * n := by
  induction l with
  | nil => simp
  | cons y r ih => rw [List.flatMap_cons, List.length_append, hf, ih, List.length_cons, Nat.succ_mul]; omega
/-- a row of things of n cells each, read -/
def ReadsL {α : Type} (f : α → List Value) (n : Nat) (w : World) (v : Value) (l : List α) : Prop := Reads w v l.length n (l.flatMap f)
theorem ReadsL.below {α : Type} {f : α → List Value} {n : Nat} {w w' : World} {v : Value} {l : List α} (h : ReadsL f n w v l) (hb : Below w.heap.size w w') : ReadsL f n w' v l := Reads.below h hb
/-- what the walk wants: the slice opened; each thing's cells -/
theorem ReadsL.open {α : Type} {f : α → List Value} {n : Nat} {w : World} {v : Value} {l : List α} (h : ReadsL f n w v l) (hf : ∀ x, (f x).length = n) (hn : 0 < n) :
    l.length ≤ 9223372036854775807 ∧ ∃ (a : Option Addr) (c : Nat), v = .slice a l.length c ∧ (0 < l.length → ∃ b o, a = some ⟨b, o, none⟩ ∧ l.length ≤ c ∧ b < w.heap.size ∧
      ∀ (i : Nat) (x : α), l[i]? = some x → ∀ (j : Nat) (u : Value), (f x)[j]? = some u → w.cell? ⟨b, o + (i * n + j), none⟩ = some u) := by
  obtain ⟨_, h2, a, c, hv, h3⟩ := Reads.open h
  refine ⟨h2, a, c, hv, fun hp => ?_⟩
  obtain ⟨b, o, ha, hc, hb, hx⟩ := h3 hp
  refine ⟨b, o, ha, hc, hb, fun i x hi j u hu => hx _ _ ?_⟩
  have hj := (List.getElem?_eq_some_iff.1 hu).1
  rw [hf] at hj
  rw [flat_get f n hf l i x hi j hj]; exact hu
theorem ReadsL.new {α : Type} {f : α → List Value} {n : Nat} {w : World} (T : TypeId) (l : List α) (hf : ∀ x, (f x).length = n) (hn : 0 < n) (hm : l.length ≤ 9223372036854775807) (c : Nat) (hc : c = l.length) : ReadsL f n (w.alloc (.cells (l.flatMap f).toArray T)) (.slice (some ⟨w.heap.size, 0, none⟩) c c) l := by
  subst hc
  refine ⟨flat_len f n hf l, hm, ?_⟩
  rcases Nat.eq_zero_or_pos l.length with h0 | h0
  · exact Or.inl ⟨h0, _, _, by rw [h0]⟩
  · refine Or.inr ⟨h0, w.heap.size, 0, _, rfl, Nat.le_refl _, by simp, fun j x hj => ?_⟩
    rw [Nat.zero_add]; exact (BlockIs.new w _ T).cell hj
theorem ReadsL.nil {α : Type} (f : α → List Value) (n : Nat) (w : World) (a : Option Addr) (c : Nat) : ReadsL f n w (.slice a 0 c) [] := ⟨by simp, by simp, Or.inl ⟨rfl, a, c, rfl⟩⟩

structure It where
  key : Int
  en : En
instance : Inhabited It := ⟨⟨0, default⟩⟩
end Go.Proofs.Ytnohkfbapibmdaa
