/- Texts put together: Blk, BlkQ, InsL, PeSet. No condition. -/
import Derived.Test.YtppmjbnhghaffaaRmpqcngfbip
import Derived.Laws.Rows
import Derived.Laws.Tables
import Derived.Laws.CopyOwn
import Derived.BigQuiet
import Derived.Test.YtppmjbnhghaffaaRrncnnvzmkh
import Derived.Lib.AppendZerosOnto
import Derived.Laws.OwnMore
namespace Go.Proofs.Ytppmjbnhghaffaa
open Go.RowKit

theorem BlockIs.newAt' (w : World) (arr : List Value) (T : TypeId) {n : Nat} (h : n = w.heap.size) : BlockIs (w.alloc (.cells arr.toArray T)) n arr T := h ▸ BlockIs.new w arr T
theorem BlockIs.loadVar {P : Program} {w : World} {B : Nat} {arr : List Value} {T : TypeId} (h : BlockIs w B arr T) {fs : Array Field} (hu : P.underlying T = some (.struct fs)) (hi : (P.info? T).map (·.size) = some arr.length) :
    (Go.loadVar T ⟨B, 0, none⟩).run P w = .ok (.agg arr.toArray) w :=
  run_loadVar_row w B T T arr.toArray (0, 0) _ h hu rfl (by simpa using hi)
section
variable {P : Program} {ops : Array Oper} {rest : List Oper} {o : Oper} {a : Act} {w : World} {Q : Exit → Act → World → Prop}
/-- a whole struct into a block: the new world by a name -/
theorem list_store_blk (hgd : o.guard = none) (ty : TypeId) (x y : Operand) (ho : o.op = .store ty x y) (g : Nat) (old cells : List Value) (t : TypeId) (hB : BlockIs w g old t)
    (hx : a.eval x = .pointer (some ⟨g, 0, none⟩)) (hy : a.eval y = .agg cells.toArray) (hi : (P.info? ty).map (·.size) = some cells.length) (hl : old.length = cells.length) (h1 : cells.all (·.oneCell') = true)
    (B : Nat) (w0 : World) (hbel : Below B w0 w) (hBg : B ≤ g)
    (h : ∀ w', BlockIs w' g cells t → (∀ k arr u, k ≠ g → BlockIs w k arr u → BlockIs w' k arr u) → w'.heap.size = w.heap.size → Below B w0 w' → wpList P ops Q rest (a.put o.dst undef) w') : wpList P ops Q (o :: rest) a w :=
  wpList_store_row hgd ty x y ho g cells.toArray hx hy t old.toArray hB (by simpa using hi) (by simpa using hl) (by simpa using h1)
    (h _ (setRow_heap w g _ _ t _ hB) (fun k arr u hk hb => by unfold BlockIs at *; rw [setRow_other w g k _ hk]; exact hb) (size_setRow _ _ _) (below_setRow hbel hBg _))
end
end Go.Proofs.Ytppmjbnhghaffaa
namespace Go.Proofs.Ytppmjbnhghaffaa
open Go.RowKit

section
variable {P : Program} {ops : Array Oper} {rest : List Oper} {o : Oper} {a : Act} {w : World} {Q : Exit → Act → World → Prop}
end
theorem BlockIs.ext {w : World} {B : Nat} {arr : List Value} {T : TypeId} (h : BlockIs w B arr T) : ∀ w', (∃ x, w' = Go.Proofs.Ytppmjbnhghaffaa.ext w x) → BlockIs w' B arr T := fun w' ⟨x, e⟩ => by subst e; exact h.below (ext_below w x)
end Go.Proofs.Ytppmjbnhghaffaa
namespace Go.Proofs.Ytppmjbnhghaffaa
open Go.RowKit

section
variable {P : Program} {t e : TypeId} {size bytes : Nat}
theorem addr_add (b o k : Nat) : (⟨b, o, none⟩ : Addr).add k = ⟨b, o + k, none⟩ := by unfold Addr.add; split <;> simp_all
/-- what a copy leaves in the row -/
def cpL (cur cs : List Value) (o : Nat) : List Value := cur.take o ++ cs ++ cur.drop (o + cs.length)
theorem cpL_len {cur cs : List Value} {o : Nat} (h : o + cs.length ≤ cur.length) : (cpL cur cs o).length = cur.length := by
  unfold cpL; simp only [List.length_append, List.length_take, List.length_drop]; omega
theorem run_copy2 (R : RowT P t e size bytes) {w : World} {g cap : Nat} {cur : List Value} (h : RowBlk w e g cap size cur) (k dl dc : Nat) (a : Addr) (sl sc m : Nat) (cs : List Value) (hm : Nat.min sl dl = m) (hcs : cs.length = m * size)
    (hsrc : ∀ j v, cs[j]? = some v → w.cell? (a.add j) = some v) (hfit : k * size + cs.length ≤ cap * size) (h1 : ∀ u ∈ cs, u.oneCell' = true) (ty : TypeId) :
    (Builtin.copy_ #[t, t] ty #[.slice (some ⟨g, k * size, none⟩) dl dc, .slice (some a) sl sc]).run P w = .ok (goInt m) (w.setRow g (cpL cur cs (k * size)).toArray) ∧
      RowBlk (w.setRow g (cpL cur cs (k * size)).toArray) e g cap size (cpL cur cs (k * size)) ∧ w.grownBy (w.setRow g (cpL cur cs (k * size)).toArray) (some g) := by
  obtain ⟨ht, hsz, ii, z, hi, hz0, hz1, hz2, hz3⟩ := R
  have hst := run_storeCells_at P g (k * size) e cs 0 cur.toArray w h.1 (by simp only [Nat.add_zero, List.size_toArray]; rw [h.2]; exact hfit) h1
  simp only [Nat.add_zero] at hst
  have hfc := run_firstCells_some (P := P) w ii.size m a sl sc cs (by rw [hcs, hz1]) hsrc
  refine ⟨?_, ⟨setRow_heap w g cur.toArray _ e _ h.1, by rw [cpL_len (by rw [h.2]; exact hfit)]; exact h.2⟩, ⟨rfl, rfl, rfl, by simp, fun k _ hk => setRow_other w g k _ (fun e => hk (by rw [e]))⟩⟩
  simp [Builtin.copy_, run_underlying ht, Builtin.lenOf, sizeOf, typeInfo, hi, hm, hfc, hst, cpL]
theorem step_copy2 {ops : Array Oper} {o : Oper} {a : Act} {w : World} {K : Act → World → Prop} {Q : Exit → Act → World → Prop} {E : Prop} (hg : o.guard = none) (s x : Operand)
    (hop : o.op = .call { callee := .builtin .copy, args := #[s, x], argTypes := #[t, t] }) {v y r : Value} {w1 : World} (hs : a.eval s = v) (hx : a.eval x = y) (hr : (Builtin.copy_ #[t, t] o.type #[v, y]).run P w = .ok r w1)
    (h : K (a.put o.dst r) w1) : if Region.wanted o (yielded ops a.tmps) = true then o.wp P a w K Q else E := by
  rw [if_pos (by simp [Region.wanted, hg])]
  unfold Oper.wp execOp
  simp only [hop, resolve, invoke, builtin, Sem.run_bind, Sem.run_pure, Result.andThen_ok, List.map_toArray, List.map_cons, List.map_nil, hs, hx, hr]
  exact h
/-- append of k zeros where there is no room: a new row that begins with what was taken -/
theorem run_app_zeros_grow (R : RowT P t e size bytes) {tn ty : TypeId} {kn : IntKind} (htn : P.underlying tn = some (.int kn)) {w : World} {g cap : Nat} {cur : List Value} (h : RowBlk w e g cap size cur) (i k : Nat) (hi : i ≤ cap) (hk : 0 < k) (hc : cap < i + k)
    (hb : (i + k) * bytes ≤ 140737488355328) (h63 : i + k ≤ 140737488355328) :
    ∃ G nw, (Builtin.append_ #[t, tn] ty #[.slice (some ⟨g, 0, none⟩) i cap, .int .i64 k]).run P w = .ok (.slice (some ⟨w.heap.size, 0, none⟩) (i + k) G) (w.drew.alloc (.cells nw.toArray e)) ∧ i + k ≤ G ∧ G ≤ maxLen ∧
      RowBlk (w.drew.alloc (.cells nw.toArray e)) e w.heap.size G size nw ∧ nw.take (i * size) = cur.take (i * size) := by
  obtain ⟨ht, hsz, ii, z, hi', hz0, hz1, hz2, hz3⟩ := R
  subst hz1
  have his : i * ii.size ≤ cap * ii.size := Nat.mul_le_mul_right _ hi
  have hold : (Builtin.firstCells ii.size i (.slice (some ⟨g, 0, none⟩) i cap)).run P w.drew = .ok (cur.take (i * ii.size)).toArray w.drew :=
    run_firstCells_some (P := P) w.drew ii.size i _ i cap _ (by rw [List.length_take, h.2]; omega) (fun j v hj => by
      rw [addr_add]
      have : RowBlk w.drew e g cap ii.size cur := h
      rw [blk_cell this, Nat.zero_add]
      rw [List.getElem?_take] at hj
      split at hj
      · exact hj
      · cases hj)
  subst hz2
  have hkb : k * ii.bytes ≤ (i + k) * ii.bytes := Nat.mul_le_mul_right _ (by omega)
  have hr := Lib.run_append_grow_zeros (P := P) w t tn ty e ii z .i64 kn ht htn hi' hz0 (some ⟨g, 0, none⟩) i cap _ hold k hk (by omega) hc (by omega) (by omega) (growslice_fits hc hb)
  have hge := grownCap_ge w (i + k) cap e
  have hcm : grownCap w (i + k) cap e ≤ maxLen := grownCap_le_maxLen w (i + k) cap e (by unfold maxLen; omega)
  obtain ⟨G, hG⟩ : ∃ G, G = grownCap w (i + k) cap e := ⟨_, rfl⟩
  rw [← hG] at hr hge hcm
  obtain ⟨nw, hnw⟩ : ∃ nw : Array Value, nw = (cur.take (i * ii.size)).toArray ++ Builtin.zeroCells z.cells k ++ Builtin.zeroCells z.cells (G - (i + k)) := ⟨_, rfl⟩
  rw [← hnw] at hr
  have hlen : nw.size = G * ii.size := by
    rw [hnw]
    simp only [Array.size_append, List.size_toArray, size_zeroCells, hz3, List.length_take, h.2]
    rw [Nat.min_eq_left (by omega), ← Nat.add_mul, ← Nat.add_mul]; congr 1; omega
  refine ⟨G, nw.toList, by rw [Array.toArray_toList]; exact hr, hge, hcm, ⟨by rw [Array.toArray_toList]; exact heap_alloc_new w.drew _, by rw [Array.length_toList]; exact hlen⟩, ?_⟩
  rw [hnw, Array.append_assoc, Array.toList_append, List.take_append_of_le_length (by simp only [List.length_take, h.2]; omega)]
  simp only [List.take_take, Nat.min_self]
end
end Go.Proofs.Ytppmjbnhghaffaa
namespace Go.Proofs.Ytppmjbnhghaffaa
open Go.RowKit

def setManyP (xs : List Value) (k : Nat) : List Value → List Value
  | [] => xs
  | u :: us => setManyP (xs.set k u) (k + 1) us
theorem setManyP_get (us : List Value) : ∀ (xs : List Value) (k j : Nat), k + us.length ≤ xs.length → (setManyP xs k us)[j]? = if k ≤ j ∧ j < k + us.length then us[j - k]? else xs[j]? := by
  induction us with
  | nil => intro xs k j _; unfold setManyP; rw [if_neg (by simp only [List.length_nil]; omega)]
  | cons u us ih =>
    intro xs k j h
    simp only [List.length_cons] at h ⊢
    unfold setManyP
    rw [ih _ _ _ (by simp; omega)]
    by_cases h1 : k + 1 ≤ j ∧ j < k + 1 + us.length
    · rw [if_pos h1, if_pos (by omega), show j - k = (j - (k + 1)) + 1 from by omega, List.getElem?_cons_succ]
    · rw [if_neg h1]
      by_cases h2 : j = k
      · subst h2; rw [if_pos (by omega), List.getElem?_set_self (by omega)]; simp
      · rw [if_neg (by omega), List.getElem?_set_ne (fun e => h2 e.symm)]
theorem pe_set (l : List Pe) (i : Nat) (x : Pe) (hi : i < l.length) : (l.set i x).flatMap peV = setManyP (l.flatMap peV) (i * 10) (peV x) := by
  apply List.ext_getElem?
  intro j
  have hle : i * 10 + 10 ≤ l.length * 10 := by omega
  rw [setManyP_get _ _ _ _ (by rw [peV_len, pes_len]; exact hle), peV_len]
  have hj : j = (j / 10) * 10 + j % 10 := by omega
  have hm : j % 10 < 10 := Nat.mod_lt _ (by omega)
  by_cases h1 : i * 10 ≤ j ∧ j < i * 10 + 10
  · rw [if_pos h1]
    have hq : j / 10 = i := by omega
    rw [hq] at hj
    conv => lhs; rw [hj]
    rw [flat_get peV 10 peV_len (l.set i x) i x (by simp [hi]) _ hm]
    congr 1; omega
  · rw [if_neg h1]
    have hq : j / 10 ≠ i := by omega
    rcases Nat.lt_or_ge (j / 10) l.length with hl | hl
    · conv => lhs; rw [hj]
      conv => rhs; rw [hj]
      rw [flat_get peV 10 peV_len (l.set i x) (j / 10) (l[j / 10]'hl) (by rw [List.getElem?_set_ne (fun e => hq e.symm)]; exact List.getElem?_eq_getElem hl) _ hm, flat_get peV 10 peV_len l (j / 10) _ (List.getElem?_eq_getElem hl) _ hm]
    · have hge : l.length * 10 ≤ j := by omega
      rw [List.getElem?_eq_none (by rw [pes_len]; simpa using hge), List.getElem?_eq_none (by rw [pes_len]; exact hge)]
theorem own_setP {w : World} {base g n cap : Nat} {e : TypeId} {l : List Pe} (h : w.ownsRow base e 10 (.slice (some ⟨g, 0, none⟩) n cap) n (l.flatMap peV)) (i : Nat) (p : Pe) (hi : i < l.length) :
    ((((((((((w.setCell ⟨g, i * 10, none⟩ (.bool p.en.ad.v6)).setCell ⟨g, i * 10 + 1, none⟩ (.int .u64 p.en.ad.hi)).setCell ⟨g, i * 10 + 2, none⟩ (.int .u64 p.en.ad.lo)).setCell ⟨g, i * 10 + 3, none⟩ (.int .i64 p.en.port)).setCell ⟨g, i * 10 + 4, none⟩ (.bool p.came)).setCell ⟨g, i * 10 + 5, none⟩ (.int .i64 p.since)).setCell ⟨g, i * 10 + 6, none⟩ (.int .i64 p.pts)).setCell ⟨g, i * 10 + 7, none⟩ (.int .i64 p.at_)).setCell ⟨g, i * 10 + 8, none⟩ (.int .i64 p.ping)).setCell ⟨g, i * 10 + 9, none⟩ (.int .i64 p.work)).ownsRow base e 10 (.slice (some ⟨g, 0, none⟩) n cap) n ((l.set i p).flatMap peV) ∧
    w.grownBy ((((((((((w.setCell ⟨g, i * 10, none⟩ (.bool p.en.ad.v6)).setCell ⟨g, i * 10 + 1, none⟩ (.int .u64 p.en.ad.hi)).setCell ⟨g, i * 10 + 2, none⟩ (.int .u64 p.en.ad.lo)).setCell ⟨g, i * 10 + 3, none⟩ (.int .i64 p.en.port)).setCell ⟨g, i * 10 + 4, none⟩ (.bool p.came)).setCell ⟨g, i * 10 + 5, none⟩ (.int .i64 p.since)).setCell ⟨g, i * 10 + 6, none⟩ (.int .i64 p.pts)).setCell ⟨g, i * 10 + 7, none⟩ (.int .i64 p.at_)).setCell ⟨g, i * 10 + 8, none⟩ (.int .i64 p.ping)).setCell ⟨g, i * 10 + 9, none⟩ (.int .i64 p.work)) (some g) := by
  rw [pe_set l i p hi]
  obtain ⟨h0, g0⟩ := h.stored (i * 10) (.bool p.en.ad.v6)
  obtain ⟨h1, g1⟩ := h0.stored (i * 10 + 1) (.int .u64 p.en.ad.hi)
  obtain ⟨h2, g2⟩ := h1.stored (i * 10 + 2) (.int .u64 p.en.ad.lo)
  obtain ⟨h3, g3⟩ := h2.stored (i * 10 + 3) (.int .i64 p.en.port)
  obtain ⟨h4, g4⟩ := h3.stored (i * 10 + 4) (.bool p.came)
  obtain ⟨h5, g5⟩ := h4.stored (i * 10 + 5) (.int .i64 p.since)
  obtain ⟨h6, g6⟩ := h5.stored (i * 10 + 6) (.int .i64 p.pts)
  obtain ⟨h7, g7⟩ := h6.stored (i * 10 + 7) (.int .i64 p.at_)
  obtain ⟨h8, g8⟩ := h7.stored (i * 10 + 8) (.int .i64 p.ping)
  obtain ⟨h9, g9⟩ := h8.stored (i * 10 + 9) (.int .i64 p.work)
  exact ⟨h9, (((((((((g0.trans g1).trans g2).trans g3).trans g4).trans g5).trans g6).trans g7).trans g8).trans g9)⟩
theorem own_pe {w : World} {base g n cap : Nat} {e : TypeId} {l : List Pe} (h : w.ownsRow base e 10 (.slice (some ⟨g, 0, none⟩) n cap) n (l.flatMap peV)) {i : Nat} {x : Pe} (hx : l[i]? = some x) : PeIn w g (i * 10) x := by
  have hn : n * 10 = l.length * 10 := by rw [← h.1, pes_len]
  have hi := (List.getElem?_eq_some_iff.1 hx).1
  have c := fun (j : Nat) (u : Value) (hj : j < 10) (hu : (peV x)[j]? = some u) => (h.cellAt (i * 10 + j) (by omega)).trans ((flat_get peV 10 peV_len l i x hx j hj).trans hu)
  exact ⟨c 0 _ (by omega) rfl, c 1 _ (by omega) rfl, c 2 _ (by omega) rfl, c 3 _ (by omega) rfl, c 4 _ (by omega) rfl, c 5 _ (by omega) rfl, c 6 _ (by omega) rfl, c 7 _ (by omega) rfl, c 8 _ (by omega) rfl, c 9 _ (by omega) rfl⟩
theorem own_blk {w : World} {base g n cap : Nat} {e : TypeId} {size : Nat} {xs : List Value} (h : w.ownsRow base e size (.slice (some ⟨g, 0, none⟩) n cap) n xs) : ∃ arr, BlockIs w g arr e := by
  rcases h.2 with ⟨h1, _⟩ | ⟨g', cap', cur, h1, _, hh, _⟩
  · cases h1
  · injection h1 with e1 _ _
    injection e1 with e1
    injection e1 with e1
    subst e1
    exact ⟨cur.toList, by unfold BlockIs; rw [hh]⟩
theorem below_far {w0 w w' : World} {base g : Nat} (h : Below base w0 w) (hg : w.grownBy w' (some g)) (hb : base ≤ g) (hl : g < w.heap.size) : Below base w0 w' :=
  ⟨hg.os.trans h.os, hg.tape.trans h.tape, hg.output.trans h.output, Nat.le_trans h.size hg.size, fun k hk => by
    rw [hg.block k (by omega) (fun e => by injection e with e; omega)]; exact h.block k hk⟩
end Go.Proofs.Ytppmjbnhghaffaa
