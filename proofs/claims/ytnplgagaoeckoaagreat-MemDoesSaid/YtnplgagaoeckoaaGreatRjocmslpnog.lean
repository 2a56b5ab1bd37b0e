/- Texts put together: Append, DelL, InsL. No condition. -/
import Derived.Test.YtnplgagaoeckoaaGreatRuzzvrjikhw
import Derived.WalkKit
import Derived.Lib.AppendZerosOnto
import Derived.Laws.MakeOwn
set_option linter.unusedSimpArgs false
set_option linter.unusedVariables false
namespace Go.Proofs.YtnplgagaoeckoaaGreat
open Go.RowKit
section
variable {P : Program} {t e : TypeId} {size bytes : Nat}
theorem run_app_none {w : World} {base : Nat} {ty : TypeId} (ht : P.underlying t = some (.slice e)) {i : TypeInfo} (hi : P.info? e = some i) {v : Value} {n c : Nat} {xs : List Value} (hown : w.ownsRow base e size v n xs) :
  (Builtin.append_ #[t, t] ty #[v, .slice none 0 c]).run P w = .ok v w := by
 rcases hown.2 with ⟨rfl, rfl⟩ | ⟨g, cap, cur, rfl, hbg, hg, hnc, hcm, hcs, htake⟩
 ·simp [Builtin.append_, run_underlying ht, sizeOf, typeInfo, hi, Builtin.lenOf, Builtin.firstCells]
 ·simp [Builtin.append_, run_underlying ht, sizeOf, typeInfo, hi, Builtin.lenOf, Builtin.firstCells, hnc, storeCells]
theorem owns_slice {w : World} {base n : Nat} {v : Value} {xs : List Value} (h : w.ownsRow base e size v n xs) : ∃ a c, v = .slice a n c := by
 rcases h.2 with ⟨rfl, rfl⟩ | ⟨g, cap, cur, rfl, _⟩
 ·exact ⟨_, _, rfl⟩
 ·exact ⟨_, _, rfl⟩
theorem grown_refl (w : World) (r : Option Nat) : w.grownBy w r := ⟨rfl, rfl, rfl, Nat.le_refl _, fun _ _ _ => rfl⟩
/-- append of what is read -/
theorem run_app_reads (R : RowT P t e size bytes) {w : World} {base : Nat} {ty : TypeId} {v y : Value} {n m : Nat} {xs ys : List Value} (hown : w.ownsRow base e size v n xs) (hy : Reads w y m size ys) (h1 : ∀ u ∈ ys, u.oneCell' = true)
  (hn : (n + m) * bytes ≤ 140737488355328) (hn2 : n + m ≤ 140737488355328) (hbase : base ≤ w.heap.size) :
  ∃ v' w', (Builtin.append_ #[t, t] ty #[v, y]).run P w = .ok v' w' ∧ w'.ownsRow base e size v' (n + m) (xs ++ ys) ∧ w.grownBy w' v.ownBlock := by
 obtain ⟨ht, hsz, i, z, hi, hz0, hz1, hz2, hz3⟩ := R
 have add : ∀ (b o j : Nat), (⟨b, o, none⟩ : Addr).add j = ⟨b, o + j, none⟩ := fun b o j => by unfold Addr.add; split <;> simp_all
 obtain ⟨hl, _, hy⟩ := hy
 rcases hy with ⟨rfl, a, c, rfl⟩ | ⟨hp, b, o, c, rfl, hc, hlt, hx⟩
 ·have hys : ys = [] := List.eq_nil_of_length_eq_zero (by simpa using hl)
  subst hys
  cases a with
  | none => exact ⟨v, w, run_app_none ht hi hown, by simpa using hown, grown_refl _ _⟩
  | some a =>
   obtain ⟨v', w', h2, h3, h4, _⟩ := run_append_own (P := P) w base t ty e i z size bytes ht hi hz0 hz1 hz2 hz3 hsz v n xs hown a 0 c [] hl (by simp) h1 (by unfold maxLen; omega) hn hbase
   exact ⟨v', w', h2, h3, h4⟩
 ·obtain ⟨v', w', h2, h3, h4, _⟩ := run_append_own (P := P) w base t ty e i z size bytes ht hi hz0 hz1 hz2 hz3 hsz v n xs hown ⟨b, o, none⟩ m c ys hl (fun j u hu => by rw [add]; exact hx j u hu) h1 (by unfold maxLen; omega) hn hbase
  exact ⟨v', w', h2, h3, h4⟩
theorem below_grown {w w' w0 : World} {B base n : Nat} {v : Value} {xs : List Value} (hown : w.ownsRow base e size v n xs) (hB : Below B w0 w) (hBb : B ≤ base) (hbase : base ≤ w.heap.size) (hg : w.grownBy w' v.ownBlock) : Below B w0 w' :=
 hB.grown hg (by omega) (fun k hk => by have := hown.lt k hk; omega)

/-- append of what is read, in a walk -/
theorem list_app_reads (R : RowT P t e size bytes) {ops : Array Oper} {rest : List Oper} {o : Oper} {a : Act} {w : World} {Q : Exit → Act → World → Prop} (hg : o.guard = none) (s x : Operand)
  (hop : o.op = .call { callee := .builtin .append, args := #[s, x], argTypes := #[t, t] }) (base : Nat) (v : Value) (n : Nat) (xs : List Value) (hs : a.eval s = v) (hown : w.ownsRow base e size v n xs)
  (y : Value) (m : Nat) (ys : List Value) (hx : a.eval x = y) (hy : Reads w y m size ys) (h1 : ∀ u ∈ ys, u.oneCell' = true) (hn : (n + m) * bytes ≤ 140737488355328) (hn2 : n + m ≤ 140737488355328) (hbase : base ≤ w.heap.size)
  (B : Nat) (w0 : World) (hB : Below B w0 w) (hBb : B ≤ base)
  (h : ∀ v' w', w'.ownsRow base e size v' (n + m) (xs ++ ys) → Below B w0 w' → wpList P ops Q rest (a.put o.dst v') w') : wpList P ops Q (o :: rest) a w :=
 wpList_plain hg fun _ hK => by
  obtain ⟨v', w', hr, h2, h3⟩ := run_app_reads (ty := o.type) R hown hy h1 hn hn2 hbase
  unfold Oper.wp execOp
  simp only [hop, resolve, invoke, builtin, Sem.run_bind, Sem.run_pure, Result.andThen_ok, List.map_toArray, List.map_cons, List.map_nil, hs, hx, hr]
  exact hK _ _ (h v' w' h2 (below_grown hown hB hBb hbase h3))
/-- the same, with what has turned: the row alone -/
theorem list_app_reads_g (R : RowT P t e size bytes) {ops : Array Oper} {rest : List Oper} {o : Oper} {a : Act} {w : World} {Q : Exit → Act → World → Prop} (hg : o.guard = none) (s x : Operand)
  (hop : o.op = .call { callee := .builtin .append, args := #[s, x], argTypes := #[t, t] }) (base : Nat) (v : Value) (n : Nat) (xs : List Value) (hs : a.eval s = v) (hown : w.ownsRow base e size v n xs)
  (y : Value) (m : Nat) (ys : List Value) (hx : a.eval x = y) (hy : Reads w y m size ys) (h1 : ∀ u ∈ ys, u.oneCell' = true) (hn : (n + m) * bytes ≤ 140737488355328) (hn2 : n + m ≤ 140737488355328) (hbase : base ≤ w.heap.size)
  (h : ∀ v' w', w'.ownsRow base e size v' (n + m) (xs ++ ys) → w.grownBy w' v.ownBlock → wpList P ops Q rest (a.put o.dst v') w') : wpList P ops Q (o :: rest) a w :=
 wpList_plain hg fun _ hK => by
  obtain ⟨v', w', hr, h2, h3⟩ := run_app_reads (ty := o.type) R hown hy h1 hn hn2 hbase
  unfold Oper.wp execOp
  simp only [hop, resolve, invoke, builtin, Sem.run_bind, Sem.run_pure, Result.andThen_ok, List.map_toArray, List.map_cons, List.map_nil, hs, hx, hr]
  exact hK _ _ (h v' w' h2 h3)
theorem step_app_reads_g (R : RowT P t e size bytes) {ops : Array Oper} {o : Oper} {a : Act} {w : World} {K : Act → World → Prop} {Q : Exit → Act → World → Prop} {E : Prop} (hg : o.guard = none) (s x : Operand)
  (hop : o.op = .call { callee := .builtin .append, args := #[s, x], argTypes := #[t, t] }) (base : Nat) (v : Value) (n : Nat) (xs : List Value) (hs : a.eval s = v) (hown : w.ownsRow base e size v n xs)
  (y : Value) (m : Nat) (ys : List Value) (hx : a.eval x = y) (hy : Reads w y m size ys) (h1 : ∀ u ∈ ys, u.oneCell' = true) (hn : (n + m) * bytes ≤ 140737488355328) (hn2 : n + m ≤ 140737488355328) (hbase : base ≤ w.heap.size)
  (h : ∀ v' w', w'.ownsRow base e size v' (n + m) (xs ++ ys) → w.grownBy w' v.ownBlock → K (a.put o.dst v') w') : if Region.wanted o (yielded ops a.tmps) = true then o.wp P a w K Q else E := by
 rw [if_pos (by simp [Region.wanted, hg])]
 obtain ⟨v', w', hr, h2, h3⟩ := run_app_reads (ty := o.type) R hown hy h1 hn hn2 hbase
 unfold Oper.wp execOp
 simp only [hop, resolve, invoke, builtin, Sem.run_bind, Sem.run_pure, Result.andThen_ok, List.map_toArray, List.map_cons, List.map_nil, hs, hx, hr]
 exact h v' w' h2 h3
/-- what is read stays where another row alone has turned -/
theorem Reads.grown {w w' : World} {row : Option Nat} {v : Value} {n size : Nat} {xs : List Value} (h : Reads w v n size xs) (hg : w.grownBy w' row) (hne : ∀ b o c, v = .slice (some ⟨b, o, none⟩) n c → 0 < n → some b ≠ row) : Reads w' v n size xs := by
 obtain ⟨h1, h2, h3⟩ := h
 refine ⟨h1, h2, ?_⟩
 rcases h3 with h3 | ⟨hp, b, o, c, hv, hc, hlt, hx⟩
 ·exact Or.inl h3
 ·refine Or.inr ⟨hp, b, o, c, hv, hc, Nat.lt_of_lt_of_le hlt hg.size, fun j x hj => ?_⟩
  rw [World.cell?_of_block (a := ⟨b, o + j, none⟩) (hg.block b hlt (hne b o c hv hp))]; exact hx j x hj
/-- a thing that a call has just laid into a block of its own -/
theorem reads_one {w : World} {T : TypeId} {size : Nat} {us : List Value} (h : us.length = size) (hs : 0 < size) : Reads (w.alloc (.cells us.toArray T)) (.slice (some ⟨w.heap.size, 0, none⟩) 1 1) 1 size us := by
 refine ⟨by omega, by omega, Or.inr ⟨by omega, w.heap.size, 0, 1, rfl, by omega, by simp, fun j x hj => ?_⟩⟩
 rw [Nat.zero_add]; exact (BlockIs.new w us T).cell hj
end
section
variable {P : Program} {t e : TypeId} {size bytes : Nat}
/-- a block that is a row of the call's own, with so much room -/
def RowBlk (w : World) (e : TypeId) (g cap size : Nat) (cur : List Value) : Prop := w.heap[g]? = some (.cells cur.toArray e (0, 0)) ∧ cur.length = cap * size
theorem owns_blk2 {w : World} {base g n cap : Nat} {xs : List Value} (h : w.ownsRow base e size (.slice (some ⟨g, 0, none⟩) n cap) n xs) : base ≤ g ∧ n ≤ cap ∧ cap ≤ maxLen ∧ ∃ cur, RowBlk w e g cap size cur ∧ cur.take (n * size) = xs := by
 rcases h.2 with ⟨e1, _⟩ | ⟨g', cap', cur, e1, hbg, hg, hnc, hcm, hcs, ht⟩
 ·cases e1
 ·injection e1 with e1 _ e3
  injection e1 with e1
  injection e1 with e4 _
  subst e4 e3
  exact ⟨hbg, hnc, hcm, cur.toList, ⟨by simpa using hg, by simpa using hcs⟩, ht⟩
theorem blk_owns {w : World} {base g n cap : Nat} {cur : List Value} (h : RowBlk w e g cap size cur) (hb : base ≤ g) (hn : n ≤ cap) (hc : cap ≤ maxLen) : w.ownsRow base e size (.slice (some ⟨g, 0, none⟩) n cap) n (cur.take (n * size)) := by
 refine ⟨?_, .inr ⟨g, cap, cur.toArray, rfl, hb, h.1, hn, hc, by simpa using h.2, by simp⟩⟩
 have := Nat.mul_le_mul_right size hn
 rw [List.length_take, h.2]; omega
theorem blk_cell {w : World} {g cap : Nat} {cur : List Value} (h : RowBlk w e g cap size cur) (j : Nat) : w.cell? ⟨g, j, none⟩ = cur[j]? := by
 rw [cell_of_row w g j cur.toArray e (0, 0) h.1]; simp
/-- clear of what stands from k on, in place -/
theorem run_clear2 (R : RowT P t e size bytes) {w : World} {g cap : Nat} {cur : List Value} (h : RowBlk w e g cap size cur) (z : Value) (hz : ∀ w, (zeroValue e).run P w = .ok z w) (h1 : ∀ u ∈ z.cells, u.oneCell' = true) (hzs : z.cells.size = size) (k r : Nat) (hr : 0 < r) (hk : k + r ≤ cap) (ty : TypeId) (c : Nat) :
  ∃ w1 cur1, (Builtin.clear_ #[t] ty #[.slice (some ⟨g, k * size, none⟩) r c]).run P w = .ok (.tuple #[]) w1 ∧ w.grownBy w1 (some g) ∧ RowBlk w1 e g cap size cur1 ∧ cur1.take (k * size) = cur.take (k * size) := by
 obtain ⟨ht, hsz, ii, _, hi, _, hz1, hz2, _⟩ := R
 obtain ⟨news, hnews⟩ : ∃ news, news = (Builtin.zeroCells z.cells r).toList := ⟨_, rfl⟩
 have hlen : news.length = r * size := by rw [hnews]; simp [Builtin.zeroCells, hzs]
 have hks : (k + r) * size ≤ cap * size := Nat.mul_le_mul_right _ hk
 rw [Nat.add_mul] at hks
 have hst := run_storeCells_at P g (k * size) e news 0 cur.toArray w h.1 (by rw [hlen]; simp; rw [h.2]; omega) (by
  intro u hu
  rw [hnews] at hu
  simp only [Builtin.zeroCells, Array.toList_map, List.mem_map] at hu
  obtain ⟨q, hq, rfl⟩ := hu
  refine h1 _ ?_
  rw [getElem!_pos z.cells (q % z.cells.size) (Nat.mod_lt _ (by omega))]
  exact Array.getElem_mem _)
 simp only [Nat.add_zero] at hst
 obtain ⟨m, rfl⟩ : ∃ m, r = m + 1 := ⟨r - 1, by omega⟩
 have hrun : (Builtin.clear_ #[t] ty #[.slice (some ⟨g, k * size, none⟩) (m + 1) c]).run P w = .ok (.tuple #[]) (w.setRow g (cur.take (k * size) ++ news ++ cur.drop (k * size + news.length)).toArray) := by
  simp [Builtin.clear_, run_underlying ht, hz, ← hnews, hst]
 refine ⟨_, (cur.take (k * size) ++ news ++ cur.drop (k * size + news.length)), hrun, ⟨rfl, rfl, rfl, by simp, fun q _ hq => setRow_other w g q _ (fun e => hq (by rw [e]))⟩, ⟨setRow_heap w g cur.toArray _ e _ h.1, ?_⟩, ?_⟩
 ·simp only [List.length_append, List.length_take, List.length_drop, hlen, h.2]
  omega
 ·rw [List.append_assoc, List.take_append_of_le_length (by rw [List.length_take, h.2]; omega), List.take_take, Nat.min_self]
end
section
variable {P : Program} {t e : TypeId} {size bytes : Nat}
theorem addr_add (b o k : Nat) : (⟨b, o, none⟩ : Addr).add k = ⟨b, o + k, none⟩ := by unfold Addr.add; split <;> simp_all
/-- what a copy leaves in the row -/
def cpL (cur cs : List Value) (o : Nat) : List Value := cur.take o ++ cs ++ cur.drop (o + cs.length)
theorem cpL_len {cur cs : List Value} {o : Nat} (h : o + cs.length ≤ cur.length) : (cpL cur cs o).length = cur.length := by
 unfold cpL; simp only [List.length_append, List.length_take, List.length_drop]; omega
theorem run_copy2 (R : RowT P t e size bytes) {w : World} {g cap : Nat} {cur : List Value} (h : RowBlk w e g cap size cur) (k dl dc : Nat) (a : Addr) (sl sc m : Nat) (cs : List Value) (hm : Nat.min sl dl = m) (hcs : cs.length = m * size)
  (hsrc : ∀ j v, cs[j]? = some v → w.cell? (a.add j) = some v) (hfit : k * size + cs.length ≤ cap * size) (h1 : ∀ u ∈ cs, u.oneCell' = true) (ty : TypeId) :
  (Builtin.copy_ #[t, t] ty #[.slice (some ⟨g, k * size, none⟩) dl dc, .slice (some a) sl sc]).run P w = .ok (goInt m) (w.setRow g (cpL cur cs (k * size)).toArray) ∧
   RowBlk (w.setRow g (cpL cur cs (k * size)).toArray) e g cap size (cpL cur cs (k * size)) ∧ w.grownBy (w.setRow g (cpL cur cs (k * size)).toArray) (some g) := by
 obtain ⟨ht, hsz, ii, z, hi, hz0, hz1, hz2, hz3⟩ := R
 have hst := run_storeCells_at P g (k * size) e cs 0 cur.toArray w h.1 (by simp only [Nat.add_zero, List.size_toArray]; rw [h.2]; exact hfit) h1
 simp only [Nat.add_zero] at hst
 have hfc := run_firstCells_some (P := P) w ii.size m a sl sc cs (by rw [hcs, hz1]) hsrc
 refine ⟨?_, ⟨setRow_heap w g cur.toArray _ e _ h.1, by rw [cpL_len (by rw [h.2]; exact hfit)]; exact h.2⟩, ⟨rfl, rfl, rfl, by simp, fun k _ hk => setRow_other w g k _ (fun e => hk (by rw [e]))⟩⟩
 simp [Builtin.copy_, run_underlying ht, Builtin.lenOf, sizeOf, typeInfo, hi, hm, hfc, hst, cpL]
theorem step_copy2 {ops : Array Oper} {o : Oper} {a : Act} {w : World} {K : Act → World → Prop} {Q : Exit → Act → World → Prop} {E : Prop} (hg : o.guard = none) (s x : Operand)
  (hop : o.op = .call { callee := .builtin .copy, args := #[s, x], argTypes := #[t, t] }) {v y r : Value} {w1 : World} (hs : a.eval s = v) (hx : a.eval x = y) (hr : (Builtin.copy_ #[t, t] o.type #[v, y]).run P w = .ok r w1)
  (h : K (a.put o.dst r) w1) : if Region.wanted o (yielded ops a.tmps) = true then o.wp P a w K Q else E := by
 rw [if_pos (by simp [Region.wanted, hg])]
 unfold Oper.wp execOp
 simp only [hop, resolve, invoke, builtin, Sem.run_bind, Sem.run_pure, Result.andThen_ok, List.map_toArray, List.map_cons, List.map_nil, hs, hx, hr]
 exact h
/-- append of k zeros where there is no room: a new row that begins with what was taken -/
theorem run_app_zeros_grow (R : RowT P t e size bytes) {tn ty : TypeId} {kn : IntKind} (htn : P.underlying tn = some (.int kn)) {w : World} {g cap : Nat} {cur : List Value} (h : RowBlk w e g cap size cur) (i k : Nat) (hi : i ≤ cap) (hk : 0 < k) (hc : cap < i + k)
  (hb : (i + k) * bytes ≤ 140737488355328) (h63 : i + k ≤ 140737488355328) :
  ∃ G nw, (Builtin.append_ #[t, tn] ty #[.slice (some ⟨g, 0, none⟩) i cap, .int .i64 k]).run P w = .ok (.slice (some ⟨w.heap.size, 0, none⟩) (i + k) G) (w.drew.alloc (.cells nw.toArray e)) ∧ i + k ≤ G ∧ G ≤ maxLen ∧
   RowBlk (w.drew.alloc (.cells nw.toArray e)) e w.heap.size G size nw ∧ nw.take (i * size) = cur.take (i * size) := by
 obtain ⟨ht, hsz, ii, z, hi', hz0, hz1, hz2, hz3⟩ := R
 subst hz1
 have his : i * ii.size ≤ cap * ii.size := Nat.mul_le_mul_right _ hi
 have hold : (Builtin.firstCells ii.size i (.slice (some ⟨g, 0, none⟩) i cap)).run P w.drew = .ok (cur.take (i * ii.size)).toArray w.drew :=
  run_firstCells_some (P := P) w.drew ii.size i _ i cap _ (by rw [List.length_take, h.2]; omega) (fun j v hj => by
   rw [addr_add]
   have : RowBlk w.drew e g cap ii.size cur := h
   rw [blk_cell this, Nat.zero_add]
   rw [List.getElem?_take] at hj
   split at hj
   ·exact hj
   ·cases hj)
 subst hz2
 have hkb : k * ii.bytes ≤ (i + k) * ii.bytes := Nat.mul_le_mul_right _ (by omega)
 have hr := Lib.run_append_grow_zeros (P := P) w t tn ty e ii z .i64 kn ht htn hi' hz0 (some ⟨g, 0, none⟩) i cap _ hold k hk (by omega) hc (by omega) (by omega) (growslice_fits hc hb)
 have hge := grownCap_ge w (i + k) cap e
 have hcm : grownCap w (i + k) cap e ≤ maxLen := grownCap_le_maxLen w (i + k) cap e (by unfold maxLen; omega)
 obtain ⟨G, hG⟩ : ∃ G, G = grownCap w (i + k) cap e := ⟨_, rfl⟩
 rw [← hG] at hr hge hcm
 obtain ⟨nw, hnw⟩ : ∃ nw : Array Value, nw = (cur.take (i * ii.size)).toArray ++ Builtin.zeroCells z.cells k ++ Builtin.zeroCells z.cells (G - (i + k)) := ⟨_, rfl⟩
 rw [← hnw] at hr
 have hlen : nw.size = G * ii.size := by
  rw [hnw]
  simp only [Array.size_append, List.size_toArray, size_zeroCells, hz3, List.length_take, h.2]
  rw [Nat.min_eq_left (by omega), ← Nat.add_mul, ← Nat.add_mul]; congr 1; omega
 refine ⟨G, nw.toList, by rw [Array.toArray_toList]; exact hr, hge, hcm, ⟨by rw [Array.toArray_toList]; exact heap_alloc_new w.drew _, by rw [Array.length_toList]; exact hlen⟩, ?_⟩
 rw [hnw, Array.append_assoc, Array.toList_append, List.take_append_of_le_length (by simp only [List.length_take, h.2]; omega)]
 simp only [List.take_take, Nat.min_self]
end
end Go.Proofs.YtnplgagaoeckoaaGreat
