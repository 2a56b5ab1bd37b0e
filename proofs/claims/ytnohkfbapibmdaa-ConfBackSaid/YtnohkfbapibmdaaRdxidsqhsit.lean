/- Texts put together: Row. No condition. -/
import Derived.Test.YtnohkfbapibmdaaRhcwdbehhdw
import Derived.WalkKit
import Derived.Deep.RegionLaw
namespace Go.Proofs.Ytnohkfbapibmdaa
open Go.RowKit

/-- t is a slice type of elements e, each of so many cells and bytes -/
def RowT (P : Program) (t e : TypeId) (size bytes : Nat) : Prop :=
  P.underlying t = some (.slice e) ∧ 0 < size ∧ ∃ (i : TypeInfo) (z : Value), P.info? e = some i ∧ i.zero = some z ∧ i.size = size ∧ i.bytes = bytes ∧ z.cells.size = size
theorem RowT.mk {P : Program} {t e : TypeId} {size bytes : Nat} (z : Value) (h1 : P.underlying t = some (.slice e)) (h2 : (P.info? e).map (fun i => (i.zero, i.size, i.bytes)) = some (some z, size, bytes)) (h3 : z.cells.size = size) (h4 : 0 < size) : RowT P t e size bytes := by
  obtain ⟨i, hi, hz0, hz1, hz2⟩ := info_parts h2
  exact ⟨h1, h4, i, z, hi, hz0, hz1, hz2, h3⟩

section
variable {P : Program} {t e : TypeId} {size bytes : Nat}
theorem wp_app (R : RowT P t e size bytes) {o : Oper} {a : Act} {w : World} {K : Act → World → Prop} {Q : Exit → Act → World → Prop} (s x : Operand)
    (hop : o.op = .call { callee := .builtin .append, args := #[s, x], argTypes := #[t, t] }) (base : Nat) (v : Value) (n : Nat) (xs : List Value) (hs : a.eval s = v) (hown : w.ownsRow base e size v n xs)
    (us : List Value) (hx : a.eval x = .slice (some ⟨w.heap.size, 0, none⟩) 1 1) (hus : us.length = size) (h1 : us.all Value.oneCell' = true) (hn : (n + 1) * bytes ≤ 140737488355328) (hn2 : n + 1 ≤ 140737488355328) (hbase : base ≤ w.heap.size)
    (B : Nat) (w0 : World) (hB : Below B w0 w) (hBb : B ≤ base)
    (h : ∀ v' w', w'.ownsRow base e size v' (n + 1) (xs ++ us) → Below B w0 w' → K (a.put o.dst v') w') : o.wp P a (w.alloc (.cells us.toArray e)) K Q := by
  obtain ⟨ht, hsz, i, z, hi, hz0, hz1, hz2, hz3⟩ := R
  refine wp_append_own (w.alloc (.cells us.toArray e)) s x t hop base e i z size bytes ht hi hz0 hz1 hz2 hz3 hsz v n xs hs (hown.alloc _) ⟨w.heap.size, 0, none⟩ 1 1 us hx (by omega) ?_ (List.all_eq_true.1 h1) (by unfold maxLen; omega) hn (by simp; omega) ?_
  · intro j u hu
    have e1 : (⟨w.heap.size, 0, none⟩ : Addr).add j = ⟨w.heap.size, j, none⟩ := by unfold Addr.add; split <;> simp_all
    rw [e1]; simp [go_sem, hu]
  · intro v' w' h2 h3 _
    refine h v' w' h2 ((hB.alloc (by omega) _).grown h3 (by simp; omega) ?_)
    intro k hk
    have := hown.lt k hk; omega
theorem step_app (R : RowT P t e size bytes) {ops : Array Oper} {o : Oper} {a : Act} {w : World} {K : Act → World → Prop} {Q : Exit → Act → World → Prop} {E : Prop} (hg : o.guard = none) (s x : Operand)
    (hop : o.op = .call { callee := .builtin .append, args := #[s, x], argTypes := #[t, t] }) (base : Nat) (v : Value) (n : Nat) (xs : List Value) (hs : a.eval s = v) (hown : w.ownsRow base e size v n xs)
    (us : List Value) (hx : a.eval x = .slice (some ⟨w.heap.size, 0, none⟩) 1 1) (hus : us.length = size) (h1 : us.all Value.oneCell' = true) (hn : (n + 1) * bytes ≤ 140737488355328) (hn2 : n + 1 ≤ 140737488355328) (hbase : base ≤ w.heap.size)
    (B : Nat) (w0 : World) (hB : Below B w0 w) (hBb : B ≤ base)
    (h : ∀ v' w', w'.ownsRow base e size v' (n + 1) (xs ++ us) → Below B w0 w' → K (a.put o.dst v') w') : if Region.wanted o (yielded ops a.tmps) = true then o.wp P a (w.alloc (.cells us.toArray e)) K Q else E := by
  rw [if_pos (by simp [Region.wanted, hg])]
  exact wp_app R s x hop base v n xs hs hown us hx hus h1 hn hn2 hbase B w0 hB hBb h
theorem list_app (R : RowT P t e size bytes) {ops : Array Oper} {rest : List Oper} {o : Oper} {a : Act} {w : World} {Q : Exit → Act → World → Prop} (hg : o.guard = none) (s x : Operand)
    (hop : o.op = .call { callee := .builtin .append, args := #[s, x], argTypes := #[t, t] }) (base : Nat) (v : Value) (n : Nat) (xs : List Value) (hs : a.eval s = v) (hown : w.ownsRow base e size v n xs)
    (us : List Value) (hx : a.eval x = .slice (some ⟨w.heap.size, 0, none⟩) 1 1) (hus : us.length = size) (h1 : us.all Value.oneCell' = true) (hn : (n + 1) * bytes ≤ 140737488355328) (hn2 : n + 1 ≤ 140737488355328) (hbase : base ≤ w.heap.size)
    (B : Nat) (w0 : World) (hB : Below B w0 w) (hBb : B ≤ base)
    (h : ∀ v' w', w'.ownsRow base e size v' (n + 1) (xs ++ us) → Below B w0 w' → wpList P ops Q rest (a.put o.dst v') w') : wpList P ops Q (o :: rest) a (w.alloc (.cells us.toArray e)) :=
  wpList_plain hg fun _ hK => wp_app R s x hop base v n xs hs hown us hx hus h1 hn hn2 hbase B w0 hB hBb fun v' w' h2 h3 => hK _ _ (h v' w' h2 h3)
end

/-- an owned row stays behind a callee that makes memory of its own -/
theorem owns_below {w w' : World} {base : Nat} {e : TypeId} {size : Nat} {v : Value} {n : Nat} {xs : List Value} (h : w.ownsRow base e size v n xs) (hb : Below w.heap.size w w') : w'.ownsRow base e size v n xs := by
  obtain ⟨h1, h2⟩ := h
  refine ⟨h1, ?_⟩
  rcases h2 with h2 | ⟨g, cap, cur, hv, hg, hh, r⟩
  · exact Or.inl h2
  · refine Or.inr ⟨g, cap, cur, hv, hg, ?_, r⟩
    rw [hb.block g (by rcases Nat.lt_or_ge g w.heap.size with h | h; exact h; rw [Array.getElem?_eq_none h] at hh; cases hh)]
    exact hh
theorem owns_base {w : World} {base base' : Nat} {e : TypeId} {size : Nat} {v : Value} {n : Nat} {xs : List Value} (h : w.ownsRow base e size v n xs) (hb : base' ≤ base) : w.ownsRow base' e size v n xs := by
  obtain ⟨h1, h2⟩ := h
  refine ⟨h1, ?_⟩
  rcases h2 with h2 | ⟨g, cap, cur, hv, hg, r⟩
  · exact Or.inl h2
  · exact Or.inr ⟨g, cap, cur, hv, by omega, r⟩

/-- a slice value that reads as a row of cells: of no element, or at an address -/
def Reads (w : World) (v : Value) (n size : Nat) (xs : List Value) : Prop :=
  xs.length = n * size ∧ n ≤ 9223372036854775807 ∧
  ((n = 0 ∧ ∃ a c, v = .slice a 0 c) ∨
   (0 < n ∧ ∃ b o c, v = .slice (some ⟨b, o, none⟩) n c ∧ n ≤ c ∧ b < w.heap.size ∧ ∀ (j : Nat) (x : Value), xs[j]? = some x → w.cell? ⟨b, o + j, none⟩ = some x))
theorem Reads.below {w w' : World} {v : Value} {n size : Nat} {xs : List Value} (h : Reads w v n size xs) (hb : Below w.heap.size w w') : Reads w' v n size xs := by
  obtain ⟨h1, h2, h3⟩ := h
  refine ⟨h1, h2, ?_⟩
  rcases h3 with h3 | ⟨hp, b, o, c, hv, hc, hlt, hx⟩
  · exact Or.inl h3
  · exact Or.inr ⟨hp, b, o, c, hv, hc, Nat.lt_of_lt_of_le hlt hb.size, fun j x hj => by rw [hb.cell (p := ⟨b, o + j, none⟩) hlt]; exact hx j x hj⟩
/-- an owned row can be read -/
theorem owns_reads {w : World} {base : Nat} {e : TypeId} {size : Nat} {v : Value} {n : Nat} {xs : List Value} (h : w.ownsRow base e size v n xs) : Reads w v n size xs := by
  obtain ⟨h1, h2⟩ := h
  refine ⟨h1, by rcases h2 with ⟨_, h0⟩ | ⟨g, cap, cur, hv, hg, hh, hnc, hcm, _⟩ <;> (try unfold maxLen at hcm) <;> omega, ?_⟩
  rcases h2 with ⟨hv, h0⟩ | ⟨g, cap, cur, hv, hg, hh, hnc, hcm, hcs, hcur⟩
  · exact Or.inl ⟨h0, none, 0, hv⟩
  · by_cases h0 : n = 0
    · exact Or.inl ⟨h0, some ⟨g, 0, none⟩, cap, by rw [hv, h0]⟩
    · refine Or.inr ⟨by omega, g, 0, cap, hv, hnc, ?_, ?_⟩
      · rcases Nat.lt_or_ge g w.heap.size with h | h
        · exact h
        · rw [Array.getElem?_eq_none h] at hh; cases hh
      · intro j x hj
        have : cur[j]? = some x := by
          rw [← hcur] at hj
          rw [List.getElem?_take] at hj
          split at hj
          · simpa using hj
          · cases hj
        simp [World.cell?, hh, this]
theorem Reads.len {w : World} {v : Value} {n size : Nat} {xs : List Value} (h : Reads w v n size xs) : xs.length = n * size := h.1
/-- what the walk wants of a slice that is read -/
theorem Reads.open {w : World} {v : Value} {n size : Nat} {xs : List Value} (h : Reads w v n size xs) : xs.length = n * size ∧ n ≤ 9223372036854775807 ∧ ∃ (a : Option Addr) (c : Nat), v = .slice a n c ∧ (0 < n → ∃ b o, a = some ⟨b, o, none⟩ ∧ n ≤ c ∧ b < w.heap.size ∧ ∀ (j : Nat) (x : Value), xs[j]? = some x → w.cell? ⟨b, o + j, none⟩ = some x) := by
  obtain ⟨h1, h2, h3⟩ := h
  refine ⟨h1, h2, ?_⟩
  rcases h3 with ⟨h0, a, c, hv⟩ | ⟨hp, b, o, c, hv, hc, hlt, hx⟩
  · exact ⟨a, c, by rw [hv, h0], fun h => by omega⟩
  · exact ⟨some ⟨b, o, none⟩, c, hv, fun _ => ⟨b, o, rfl, hc, hlt, hx⟩⟩
end Go.Proofs.Ytnohkfbapibmdaa
