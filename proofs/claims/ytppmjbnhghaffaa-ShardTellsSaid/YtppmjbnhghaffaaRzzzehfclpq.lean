/- Texts put together: Append, DelL. No condition. -/
import Derived.Test.YtppmjbnhghaffaaRzgjsloivew
import Derived.WalkKit
import Derived.Lib.AppendZerosOnto
import Derived.Laws.MakeOwn
namespace Go.Proofs.Ytppmjbnhghaffaa
open Go.RowKit

section
variable {P : Program} {t e : TypeId} {size bytes : Nat}
theorem run_app_none {w : World} {base : Nat} {ty : TypeId} (ht : P.underlying t = some (.slice e)) {i : TypeInfo} (hi : P.info? e = some i) {v : Value} {n c : Nat} {xs : List Value} (hown : w.ownsRow base e size v n xs) :
    (Builtin.append_ #[t, t] ty #[v, .slice none 0 c]).run P w = .ok v w := by
  rcases hown.2 with ⟨rfl, rfl⟩ | ⟨g, cap, cur, rfl, hbg, hg, hnc, hcm, hcs, htake⟩
  · simp [Builtin.append_, run_underlying ht, sizeOf, typeInfo, hi, Builtin.lenOf, Builtin.firstCells]
  · simp [Builtin.append_, run_underlying ht, sizeOf, typeInfo, hi, Builtin.lenOf, Builtin.firstCells, hnc, storeCells]
theorem owns_slice {w : World} {base n : Nat} {v : Value} {xs : List Value} (h : w.ownsRow base e size v n xs) : ∃ a c, v = .slice a n c := by
  rcases h.2 with ⟨rfl, rfl⟩ | ⟨g, cap, cur, rfl, _⟩
  · exact ⟨_, _, rfl⟩
  · exact ⟨_, _, rfl⟩
theorem grown_refl (w : World) (r : Option Nat) : w.grownBy w r := ⟨rfl, rfl, rfl, Nat.le_refl _, fun _ _ _ => rfl⟩
/-- append of what is read -/
theorem run_app_reads (R : RowT P t e size bytes) {w : World} {base : Nat} {ty : TypeId} {v y : Value} {n m : Nat} {xs ys : List Value} (hown : w.ownsRow base e size v n xs) (hy : Reads w y m size ys) (h1 : ∀ u ∈ ys, u.oneCell' = true)
    (hn : (n + m) * bytes ≤ 140737488355328) (hn2 : n + m ≤ 140737488355328) (hbase : base ≤ w.heap.size) :
    ∃ v' w', (Builtin.append_ #[t, t] ty #[v, y]).run P w = .ok v' w' ∧ w'.ownsRow base e size v' (n + m) (xs ++ ys) ∧ w.grownBy w' v.ownBlock := by
  obtain ⟨ht, hsz, i, z, hi, hz0, hz1, hz2, hz3⟩ := R
  have add : ∀ (b o j : Nat), (⟨b, o, none⟩ : Addr).add j = ⟨b, o + j, none⟩ := fun b o j => by unfold Addr.add; split <;> simp_all
  obtain ⟨hl, _, hy⟩ := hy
  rcases hy with ⟨rfl, a, c, rfl⟩ | ⟨hp, b, o, c, rfl, hc, hlt, hx⟩
  · have hys : ys = [] := List.eq_nil_of_length_eq_zero (by simpa using hl)
    subst hys
    cases a with
    | none => exact ⟨v, w, run_app_none ht hi hown, by simpa using hown, grown_refl _ _⟩
    | some a =>
      obtain ⟨v', w', h2, h3, h4, _⟩ := run_append_own (P := P) w base t ty e i z size bytes ht hi hz0 hz1 hz2 hz3 hsz v n xs hown a 0 c [] hl (by simp) h1 (by unfold maxLen; omega) hn hbase
      exact ⟨v', w', h2, h3, h4⟩
  · obtain ⟨v', w', h2, h3, h4, _⟩ := run_append_own (P := P) w base t ty e i z size bytes ht hi hz0 hz1 hz2 hz3 hsz v n xs hown ⟨b, o, none⟩ m c ys hl (fun j u hu => by rw [add]; exact hx j u hu) h1 (by unfold maxLen; omega) hn hbase
    exact ⟨v', w', h2, h3, h4⟩
theorem below_grown {w w' w0 : World} {B base n : Nat} {v : Value} {xs : List Value} (hown : w.ownsRow base e size v n xs) (hB : Below B w0 w) (hBb : B ≤ base) (hbase : base ≤ w.heap.size) (hg : w.grownBy w' v.ownBlock) : Below B w0 w' :=
  hB.grown hg (by omega) (fun k hk => by have := hown.lt k hk; omega)

/-- append of what is read, in a walk -/
theorem list_app_reads (R : RowT P t e size bytes) {ops : Array Oper} {rest : List Oper} {o : Oper} {a : Act} {w : World} {Q : Exit → Act → World → Prop} (hg : o.guard = none) (s x : Operand)
    (hop : o.op = .call { callee := .builtin .append, args := #[s, x], argTypes := #[t, t] }) (base : Nat) (v : Value) (n : Nat) (xs : List Value) (hs : a.eval s = v) (hown : w.ownsRow base e size v n xs)
    (y : Value) (m : Nat) (ys : List Value) (hx : a.eval x = y) (hy : Reads w y m size ys) (h1 : ∀ u ∈ ys, u.oneCell' = true) (hn : (n + m) * bytes ≤ 140737488355328) (hn2 : n + m ≤ 140737488355328) (hbase : base ≤ w.heap.size)
    (B : Nat) (w0 : World) (hB : Below B w0 w) (hBb : B ≤ base)
    (h : ∀ v' w', w'.ownsRow base e size v' (n + m) (xs ++ ys) → Below B w0 w' → wpList P ops Q rest (a.put o.dst v') w') : wpList P ops Q (o :: rest) a w :=
  wpList_plain hg fun _ hK => by
    obtain ⟨v', w', hr, h2, h3⟩ := run_app_reads (ty := o.type) R hown hy h1 hn hn2 hbase
    unfold Oper.wp execOp
    simp only [hop, resolve, invoke, builtin, Sem.run_bind, Sem.run_pure, Result.andThen_ok, List.map_toArray, List.map_cons, List.map_nil, hs, hx, hr]
    exact hK _ _ (h v' w' h2 (below_grown hown hB hBb hbase h3))
theorem step_app_reads_g (R : RowT P t e size bytes) {ops : Array Oper} {o : Oper} {a : Act} {w : World} {K : Act → World → Prop} {Q : Exit → Act → World → Prop} {E : Prop} (hg : o.guard = none) (s x : Operand)
    (hop : o.op = .call { callee := .builtin .append, args := #[s, x], argTypes := #[t, t] }) (base : Nat) (v : Value) (n : Nat) (xs : List Value) (hs : a.eval s = v) (hown : w.ownsRow base e size v n xs)
    (y : Value) (m : Nat) (ys : List Value) (hx : a.eval x = y) (hy : Reads w y m size ys) (h1 : ∀ u ∈ ys, u.oneCell' = true) (hn : (n + m) * bytes ≤ 140737488355328) (hn2 : n + m ≤ 140737488355328) (hbase : base ≤ w.heap.size)
    (h : ∀ v' w', w'.ownsRow base e size v' (n + m) (xs ++ ys) → w.grownBy w' v.ownBlock → K (a.put o.dst v') w') : if Region.wanted o (yielded ops a.tmps) = true then o.wp P a w K Q else E := by
  rw [if_pos (by simp [Region.wanted, hg])]
  obtain ⟨v', w', hr, h2, h3⟩ := run_app_reads (ty := o.type) R hown hy h1 hn hn2 hbase
  unfold Oper.wp execOp
  simp only [hop, resolve, invoke, builtin, Sem.run_bind, Sem.run_pure, Result.andThen_ok, List.map_toArray, List.map_cons, List.map_nil, hs, hx, hr]
  exact h v' w' h2 h3
/-- what is read stays where another row alone has turned -/
theorem Reads.grown {w w' : World} {row : Option Nat} {v : Value} {n size : Nat} {xs : List Value} (h : Reads w v n size xs) (hg : w.grownBy w' row) (hne : ∀ b o c, v = .slice (some ⟨b, o, none⟩) n c → 0 < n → some b ≠ row) : Reads w' v n size xs := by
  obtain ⟨h1, h2, h3⟩ := h
  refine ⟨h1, h2, ?_⟩
  rcases h3 with h3 | ⟨hp, b, o, c, hv, hc, hlt, hx⟩
  · exact Or.inl h3
  · refine Or.inr ⟨hp, b, o, c, hv, hc, Nat.lt_of_lt_of_le hlt hg.size, fun j x hj => ?_⟩
    rw [World.cell?_of_block (a := ⟨b, o + j, none⟩) (hg.block b hlt (hne b o c hv hp))]; exact hx j x hj
/-- a thing that a call has just laid into a block of its own -/
theorem reads_one {w : World} {T : TypeId} {size : Nat} {us : List Value} (h : us.length = size) (hs : 0 < size) : Reads (w.alloc (.cells us.toArray T)) (.slice (some ⟨w.heap.size, 0, none⟩) 1 1) 1 size us := by
  refine ⟨by omega, by omega, Or.inr ⟨by omega, w.heap.size, 0, 1, rfl, by omega, by simp, fun j x hj => ?_⟩⟩
  rw [Nat.zero_add]; exact (BlockIs.new w us T).cell hj
end
end Go.Proofs.Ytppmjbnhghaffaa
namespace Go.Proofs.Ytppmjbnhghaffaa
open Go.RowKit

section
variable {P : Program} {t e : TypeId} {size bytes : Nat}
/-- a block that is a row of the call's own, with so much room -/
def RowBlk (w : World) (e : TypeId) (g cap size : Nat) (cur : List Value) : Prop := w.heap[g]? = some (.cells cur.toArray e (0, 0)) ∧ cur.length = cap * size
theorem owns_blk2 {w : World} {base g n cap : Nat} {xs : List Value} (h : w.ownsRow base e size (.slice (some ⟨g, 0, none⟩) n cap) n xs) : base ≤ g ∧ n ≤ cap ∧ cap ≤ maxLen ∧ ∃ cur, RowBlk w e g cap size cur ∧ cur.take (n * size) = xs := by
  rcases h.2 with ⟨e1, _⟩ | ⟨g', cap', cur, e1, hbg, hg, hnc, hcm, hcs, ht⟩
  · cases e1
  · injection e1 with e1 _ e3
    injection e1 with e1
    injection e1 with e4 _
    subst e4 e3
    exact ⟨hbg, hnc, hcm, cur.toList, ⟨by simpa using hg, by simpa using hcs⟩, ht⟩
end
end Go.Proofs.Ytppmjbnhghaffaa
