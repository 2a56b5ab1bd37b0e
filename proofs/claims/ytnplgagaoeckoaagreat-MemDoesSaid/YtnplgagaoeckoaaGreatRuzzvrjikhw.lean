/- Texts put together: Row, PlIt. No condition. -/
import Derived.Test.YtnplgagaoeckoaaGreatRfnolrsgeod
import Derived.WalkKit
import Derived.Deep.RegionLaw
import Derived.Test.YtnplgagaoeckoaaGreatRhswffbbxtu
set_option linter.unusedSimpArgs false
set_option linter.unusedVariables false
namespace Go.Proofs.YtnplgagaoeckoaaGreat
open Go.RowKit
/-- t is a slice type of elements e, each of so many cells and bytes -/
def RowT (P : Program) (t e : TypeId) (size bytes : Nat) : Prop :=
 P.underlying t = some (.slice e) ∧ 0 < size ∧ ∃ (i : TypeInfo) (z : Value), P.info? e = some i ∧ i.zero = some z ∧ i.size = size ∧ i.bytes = bytes ∧ z.cells.size = size
theorem RowT.mk {P : Program} {t e : TypeId} {size bytes : Nat} (z : Value) (h1 : P.underlying t = some (.slice e)) (h2 : (P.info? e).map (fun i => (i.zero, i.size, i.bytes)) = some (some z, size, bytes)) (h3 : z.cells.size = size) (h4 : 0 < size) : RowT P t e size bytes := by
 obtain ⟨i, hi, hz0, hz1, hz2⟩ := info_parts h2
 exact ⟨h1, h4, i, z, hi, hz0, hz1, hz2, h3⟩

section
variable {P : Program} {t e : TypeId} {size bytes : Nat}
end

/-- an owned row stays behind a callee that makes memory of its own -/
theorem owns_below {w w' : World} {base : Nat} {e : TypeId} {size : Nat} {v : Value} {n : Nat} {xs : List Value} (h : w.ownsRow base e size v n xs) (hb : Below w.heap.size w w') : w'.ownsRow base e size v n xs := by
 obtain ⟨h1, h2⟩ := h
 refine ⟨h1, ?_⟩
 rcases h2 with h2 | ⟨g, cap, cur, hv, hg, hh, r⟩
 ·exact Or.inl h2
 ·refine Or.inr ⟨g, cap, cur, hv, hg, ?_, r⟩
  rw [hb.block g (by rcases Nat.lt_or_ge g w.heap.size with h | h; exact h; rw [Array.getElem?_eq_none h] at hh; cases hh)]
  exact hh
theorem owns_base {w : World} {base base' : Nat} {e : TypeId} {size : Nat} {v : Value} {n : Nat} {xs : List Value} (h : w.ownsRow base e size v n xs) (hb : base' ≤ base) : w.ownsRow base' e size v n xs := by
 obtain ⟨h1, h2⟩ := h
 refine ⟨h1, ?_⟩
 rcases h2 with h2 | ⟨g, cap, cur, hv, hg, r⟩
 ·exact Or.inl h2
 ·exact Or.inr ⟨g, cap, cur, hv, by omega, r⟩

/-- a slice value that reads as a row of cells: of no element, or at an address -/
def Reads (w : World) (v : Value) (n size : Nat) (xs : List Value) : Prop :=
 xs.length = n * size ∧ n ≤ 9223372036854775807 ∧
 ((n = 0 ∧ ∃ a c, v = .slice a 0 c) ∨
  (0 < n ∧ ∃ b o c, v = .slice (some ⟨b, o, none⟩) n c ∧ n ≤ c ∧ b < w.heap.size ∧ ∀ (j : Nat) (x : Value), xs[j]? = some x → w.cell? ⟨b, o + j, none⟩ = some x))
theorem Reads.below {w w' : World} {v : Value} {n size : Nat} {xs : List Value} (h : Reads w v n size xs) (hb : Below w.heap.size w w') : Reads w' v n size xs := by
 obtain ⟨h1, h2, h3⟩ := h
 refine ⟨h1, h2, ?_⟩
 rcases h3 with h3 | ⟨hp, b, o, c, hv, hc, hlt, hx⟩
 ·exact Or.inl h3
 ·exact Or.inr ⟨hp, b, o, c, hv, hc, Nat.lt_of_lt_of_le hlt hb.size, fun j x hj => by rw [hb.cell (p := ⟨b, o + j, none⟩) hlt]; exact hx j x hj⟩
/-- an owned row can be read -/
theorem owns_reads {w : World} {base : Nat} {e : TypeId} {size : Nat} {v : Value} {n : Nat} {xs : List Value} (h : w.ownsRow base e size v n xs) : Reads w v n size xs := by
 obtain ⟨h1, h2⟩ := h
 refine ⟨h1, by rcases h2 with ⟨_, h0⟩ | ⟨g, cap, cur, hv, hg, hh, hnc, hcm, _⟩ <;> (try unfold maxLen at hcm) <;> omega, ?_⟩
 rcases h2 with ⟨hv, h0⟩ | ⟨g, cap, cur, hv, hg, hh, hnc, hcm, hcs, hcur⟩
 ·exact Or.inl ⟨h0, none, 0, hv⟩
 ·by_cases h0 : n = 0
  ·exact Or.inl ⟨h0, some ⟨g, 0, none⟩, cap, by rw [hv, h0]⟩
  ·refine Or.inr ⟨by omega, g, 0, cap, hv, hnc, ?_, ?_⟩
   ·rcases Nat.lt_or_ge g w.heap.size with h | h
    ·exact h
    ·rw [Array.getElem?_eq_none h] at hh; cases hh
   ·intro j x hj
    have : cur[j]? = some x := by
     rw [← hcur] at hj
     rw [List.getElem?_take] at hj
     split at hj
     ·simpa using hj
     ·cases hj
    simp [World.cell?, hh, this]
theorem Reads.len {w : World} {v : Value} {n size : Nat} {xs : List Value} (h : Reads w v n size xs) : xs.length = n * size := h.1
/-- what the walk wants of a slice that is read -/
theorem Reads.open {w : World} {v : Value} {n size : Nat} {xs : List Value} (h : Reads w v n size xs) : xs.length = n * size ∧ n ≤ 9223372036854775807 ∧ ∃ (a : Option Addr) (c : Nat), v = .slice a n c ∧ (0 < n → ∃ b o, a = some ⟨b, o, none⟩ ∧ n ≤ c ∧ b < w.heap.size ∧ ∀ (j : Nat) (x : Value), xs[j]? = some x → w.cell? ⟨b, o + j, none⟩ = some x) := by
 obtain ⟨h1, h2, h3⟩ := h
 refine ⟨h1, h2, ?_⟩
 rcases h3 with ⟨h0, a, c, hv⟩ | ⟨hp, b, o, c, hv, hc, hlt, hx⟩
 ·exact ⟨a, c, by rw [hv, h0], fun h => by omega⟩
 ·exact ⟨some ⟨b, o, none⟩, c, hv, fun _ => ⟨b, o, rfl, hc, hlt, hx⟩⟩
theorem flat_get {α β : Type} (f : α → List β) (n : Nat) (hf : ∀ x, (f x).length = n) : ∀ (l : List α) (i : Nat) (x : α), l[i]? = some x → ∀ j, j < n → (l.flatMap f)[i * n + j]? = (f x)[j]? := by
 intro l
 induction l with
 | nil => intro i x h; simp at h
 | cons y r ih =>
  intro i x h j hj
  rw [List.flatMap_cons]
  cases i with
  | zero =>
   simp at h; subst h
   rw [Nat.zero_mul, Nat.zero_add, List.getElem?_append_left (by rw [hf]; exact hj)]
  | succ i =>
   have h' : r[i]? = some x := by simpa using h
   rw [List.getElem?_append_right (by rw [hf, Nat.succ_mul]; omega), hf, show (i + 1) * n + j - n = i * n + j from by rw [Nat.succ_mul]; omega]
   exact ih i x h' j hj
theorem flat_len {α β : Type} (f : α → List β) (n : Nat) (hf : ∀ x, (f x).length = n) (l : List α) : (l.flatMap f).length = l.length * n := by
 induction l with
 | nil => simp
 | cons y r ih => rw [List.flatMap_cons, List.length_append, hf, ih, List.length_cons, Nat.succ_mul]; omega
/-- a row of things of n cells each, read -/
def ReadsL {α : Type} (f : α → List Value) (n : Nat) (w : World) (v : Value) (l : List α) : Prop := Reads w v l.length n (l.flatMap f)
theorem ReadsL.below {α : Type} {f : α → List Value} {n : Nat} {w w' : World} {v : Value} {l : List α} (h : ReadsL f n w v l) (hb : Below w.heap.size w w') : ReadsL f n w' v l := Reads.below h hb
/-- what the walk wants: the slice opened; each thing's cells -/
theorem ReadsL.open {α : Type} {f : α → List Value} {n : Nat} {w : World} {v : Value} {l : List α} (h : ReadsL f n w v l) (hf : ∀ x, (f x).length = n) (hn : 0 < n) :
  l.length ≤ 9223372036854775807 ∧ ∃ (a : Option Addr) (c : Nat), v = .slice a l.length c ∧ (0 < l.length → ∃ b o, a = some ⟨b, o, none⟩ ∧ l.length ≤ c ∧ b < w.heap.size ∧
   ∀ (i : Nat) (x : α), l[i]? = some x → ∀ (j : Nat) (u : Value), (f x)[j]? = some u → w.cell? ⟨b, o + (i * n + j), none⟩ = some u) := by
 obtain ⟨_, h2, a, c, hv, h3⟩ := Reads.open h
 refine ⟨h2, a, c, hv, fun hp => ?_⟩
 obtain ⟨b, o, ha, hc, hb, hx⟩ := h3 hp
 refine ⟨b, o, ha, hc, hb, fun i x hi j u hu => hx _ _ ?_⟩
 have hj := (List.getElem?_eq_some_iff.1 hu).1
 rw [hf] at hj
 rw [flat_get f n hf l i x hi j hj]; exact hu
theorem ReadsL.new {α : Type} {f : α → List Value} {n : Nat} {w : World} (T : TypeId) (l : List α) (hf : ∀ x, (f x).length = n) (hn : 0 < n) (hm : l.length ≤ 9223372036854775807) (c : Nat) (hc : c = l.length) : ReadsL f n (w.alloc (.cells (l.flatMap f).toArray T)) (.slice (some ⟨w.heap.size, 0, none⟩) c c) l := by
 subst hc
 refine ⟨flat_len f n hf l, hm, ?_⟩
 rcases Nat.eq_zero_or_pos l.length with h0 | h0
 ·exact Or.inl ⟨h0, _, _, by rw [h0]⟩
 ·refine Or.inr ⟨h0, w.heap.size, 0, _, rfl, Nat.le_refl _, by simp, fun j x hj => ?_⟩
  rw [Nat.zero_add]; exact (BlockIs.new w _ T).cell hj
theorem owns_readsL {α : Type} {f : α → List Value} {n : Nat} {w : World} {base : Nat} {e : TypeId} {v : Value} {l : List α} (h : w.ownsRow base e n v l.length (l.flatMap f)) : ReadsL f n w v l := owns_reads h
theorem ReadsL.nil {α : Type} (f : α → List Value) (n : Nat) (w : World) (a : Option Addr) (c : Nat) : ReadsL f n w (.slice a 0 c) [] := ⟨by simp, by simp, Or.inl ⟨rfl, a, c, rfl⟩⟩

structure It where
 key : Int
 en : En
instance : Inhabited It := ⟨⟨0, default⟩⟩
end Go.Proofs.YtnplgagaoeckoaaGreat
