/- Texts put together: InsL. No condition. -/
import Derived.Test.YtdmobgdgeiiicaaGreatRzwlyefaotn
import Derived.Lib.AppendZerosOnto
namespace Go.Proofs.YtdmobgdgeiiicaaGreat
open Go.RowKit

section
variable {P : Program} {t e : TypeId} {size bytes : Nat}
theorem addr_add (b o k : Nat) : (⟨b, o, none⟩ : Addr).add k = ⟨b, o + k, none⟩ := by unfold Addr.add; split <;> simp_all
/-- what a copy leaves in the row -/
def cpL (cur cs : List Value) (o : Nat) : List Value := cur.take o ++ cs ++ cur.drop (o + cs.length)
theorem cpL_len {cur cs : List Value} {o : Nat} (h : o + cs.length ≤ cur.length) : (cpL cur cs o).length = cur.length := by
  unfold cpL; simp only [List.length_append, List.length_take, List.length_drop]; omega
theorem run_copy2 (R : RowT P t e size bytes) {w : World} {g cap : Nat} {cur : List Value} (h : RowBlk w e g cap size cur) (k dl dc : Nat) (a : Addr) (sl sc m : Nat) (cs : List Value) (hm : Nat.min sl dl = m) (hcs : cs.length = m * size)
    (hsrc : ∀ j v, cs[j]? = some v → w.cell? (a.add j) = some v) (hfit : k * size + cs.length ≤ cap * size) (h1 : ∀ u ∈ cs, u.oneCell' = true) (ty : TypeId) :
    (Builtin.copy_ #[t, t] ty #[.slice (some ⟨g, k * size, none⟩) dl dc, .slice (some a) sl sc]).run P w = .ok (goInt m) (w.setRow g (cpL cur cs (k * size)).toArray) ∧
      RowBlk (w.setRow g (cpL cur cs (k * size)).toArray) e g cap size (cpL cur cs (k * size)) ∧ w.grownBy (w.setRow g (cpL cur cs (k * size)).toArray) (some g) := by
  obtain ⟨ht, hsz, ii, z, hi, hz0, hz1, hz2, hz3⟩ := R
  have hst := run_storeCells_at P g (k * size) e cs 0 cur.toArray w h.1 (by simp only [Nat.add_zero, List.size_toArray]; rw [h.2]; exact hfit) h1
  simp only [Nat.add_zero] at hst
  have hfc := run_firstCells_some (P := P) w ii.size m a sl sc cs (by rw [hcs, hz1]) hsrc
  refine ⟨?_, ⟨setRow_heap w g cur.toArray _ e _ h.1, by rw [cpL_len (by rw [h.2]; exact hfit)]; exact h.2⟩, ⟨rfl, rfl, rfl, by simp, fun k _ hk => setRow_other w g k _ (fun e => hk (by rw [e]))⟩⟩
  simp [Builtin.copy_, run_underlying ht, Builtin.lenOf, sizeOf, typeInfo, hi, hm, hfc, hst, cpL]
theorem step_copy2 {ops : Array Oper} {o : Oper} {a : Act} {w : World} {K : Act → World → Prop} {Q : Exit → Act → World → Prop} {E : Prop} (hg : o.guard = none) (s x : Operand)
    (hop : o.op = .call { callee := .builtin .copy, args := #[s, x], argTypes := #[t, t] }) {v y r : Value} {w1 : World} (hs : a.eval s = v) (hx : a.eval x = y) (hr : (Builtin.copy_ #[t, t] o.type #[v, y]).run P w = .ok r w1)
    (h : K (a.put o.dst r) w1) : if Region.wanted o (yielded ops a.tmps) = true then o.wp P a w K Q else E := by
  rw [if_pos (by simp [Region.wanted, hg])]
  unfold Oper.wp execOp
  simp only [hop, resolve, invoke, builtin, Sem.run_bind, Sem.run_pure, Result.andThen_ok, List.map_toArray, List.map_cons, List.map_nil, hs, hx, hr]
  exact h
/-- append of k zeros where there is no room: a new row that begins with what was taken -/
theorem run_app_zeros_grow (R : RowT P t e size bytes) {tn ty : TypeId} {kn : IntKind} (htn : P.underlying tn = some (.int kn)) {w : World} {g cap : Nat} {cur : List Value} (h : RowBlk w e g cap size cur) (i k : Nat) (hi : i ≤ cap) (hk : 0 < k) (hc : cap < i + k)
    (hb : (i + k) * bytes ≤ 140737488355328) (h63 : i + k ≤ 140737488355328) :
    ∃ G nw, (Builtin.append_ #[t, tn] ty #[.slice (some ⟨g, 0, none⟩) i cap, .int .i64 k]).run P w = .ok (.slice (some ⟨w.heap.size, 0, none⟩) (i + k) G) (w.drew.alloc (.cells nw.toArray e)) ∧ i + k ≤ G ∧ G ≤ maxLen ∧
      RowBlk (w.drew.alloc (.cells nw.toArray e)) e w.heap.size G size nw ∧ nw.take (i * size) = cur.take (i * size) := by
  obtain ⟨ht, hsz, ii, z, hi', hz0, hz1, hz2, hz3⟩ := R
  subst hz1
  have his : i * ii.size ≤ cap * ii.size := Nat.mul_le_mul_right _ hi
  have hold : (Builtin.firstCells ii.size i (.slice (some ⟨g, 0, none⟩) i cap)).run P w.drew = .ok (cur.take (i * ii.size)).toArray w.drew :=
    run_firstCells_some (P := P) w.drew ii.size i _ i cap _ (by rw [List.length_take, h.2]; omega) (fun j v hj => by
      rw [addr_add]
      have : RowBlk w.drew e g cap ii.size cur := h
      rw [blk_cell this, Nat.zero_add]
      rw [List.getElem?_take] at hj
      split at hj
      · exact hj
      · cases hj)
  subst hz2
  have hkb : k * ii.bytes ≤ (i + k) * ii.bytes := Nat.mul_le_mul_right _ (by omega)
  have hr := Lib.run_append_grow_zeros (P := P) w t tn ty e ii z .i64 kn ht htn hi' hz0 (some ⟨g, 0, none⟩) i cap _ hold k hk (by omega) hc (by omega) (by omega) (growslice_fits hc hb)
  have hge := grownCap_ge w (i + k) cap e
  have hcm : grownCap w (i + k) cap e ≤ maxLen := grownCap_le_maxLen w (i + k) cap e (by unfold maxLen; omega)
  obtain ⟨G, hG⟩ : ∃ G, G = grownCap w (i + k) cap e := ⟨_, rfl⟩
  rw [← hG] at hr hge hcm
  obtain ⟨nw, hnw⟩ : ∃ nw : Array Value, nw = (cur.take (i * ii.size)).toArray ++ Builtin.zeroCells z.cells k ++ Builtin.zeroCells z.cells (G - (i + k)) := ⟨_, rfl⟩
  rw [← hnw] at hr
  have hlen : nw.size = G * ii.size := by
    rw [hnw]
    simp only [Array.size_append, List.size_toArray, size_zeroCells, hz3, List.length_take, h.2]
    rw [Nat.min_eq_left (by omega), ← Nat.add_mul, ← Nat.add_mul]; congr 1; omega
  refine ⟨G, nw.toList, by rw [Array.toArray_toList]; exact hr, hge, hcm, ⟨by rw [Array.toArray_toList]; exact heap_alloc_new w.drew _, by rw [Array.length_toList]; exact hlen⟩, ?_⟩
  rw [hnw, Array.append_assoc, Array.toList_append, List.take_append_of_le_length (by simp only [List.length_take, h.2]; omega)]
  simp only [List.take_take, Nat.min_self]
end
end Go.Proofs.YtdmobgdgeiiicaaGreat
