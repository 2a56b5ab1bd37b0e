/- Texts put together: Append. No condition. -/
import Derived.Test.YtdmobgdgeiiicaaGreatRtldwiotdwt
import Derived.WalkKit
import Derived.Lib.AppendZerosOnto
import Derived.Laws.MakeOwn
namespace Go.Proofs.YtdmobgdgeiiicaaGreat
open Go.RowKit

section
variable {P : Program} {t e : TypeId} {size bytes : Nat}
theorem run_app_none {w : World} {base : Nat} {ty : TypeId} (ht : P.underlying t = some (.slice e)) {i : TypeInfo} (hi : P.info? e = some i) {v : Value} {n c : Nat} {xs : List Value} (hown : w.ownsRow base e size v n xs) :
    (Builtin.append_ #[t, t] ty #[v, .slice none 0 c]).run P w = .ok v w := by
  rcases hown.2 with ⟨rfl, rfl⟩ | ⟨g, cap, cur, rfl, hbg, hg, hnc, hcm, hcs, htake⟩
  · simp [Builtin.append_, run_underlying ht, sizeOf, typeInfo, hi, Builtin.lenOf, Builtin.firstCells]
  · simp [Builtin.append_, run_underlying ht, sizeOf, typeInfo, hi, Builtin.lenOf, Builtin.firstCells, hnc, storeCells]
theorem owns_slice {w : World} {base n : Nat} {v : Value} {xs : List Value} (h : w.ownsRow base e size v n xs) : ∃ a c, v = .slice a n c := by
  rcases h.2 with ⟨rfl, rfl⟩ | ⟨g, cap, cur, rfl, _⟩
  · exact ⟨_, _, rfl⟩
  · exact ⟨_, _, rfl⟩
theorem grown_refl (w : World) (r : Option Nat) : w.grownBy w r := ⟨rfl, rfl, rfl, Nat.le_refl _, fun _ _ _ => rfl⟩
/-- append of what is read -/
theorem run_app_reads (R : RowT P t e size bytes) {w : World} {base : Nat} {ty : TypeId} {v y : Value} {n m : Nat} {xs ys : List Value} (hown : w.ownsRow base e size v n xs) (hy : Reads w y m size ys) (h1 : ∀ u ∈ ys, u.oneCell' = true)
    (hn : (n + m) * bytes ≤ 140737488355328) (hn2 : n + m ≤ 140737488355328) (hbase : base ≤ w.heap.size) :
    ∃ v' w', (Builtin.append_ #[t, t] ty #[v, y]).run P w = .ok v' w' ∧ w'.ownsRow base e size v' (n + m) (xs ++ ys) ∧ w.grownBy w' v.ownBlock := by
  obtain ⟨ht, hsz, i, z, hi, hz0, hz1, hz2, hz3⟩ := R
  have add : ∀ (b o j : Nat), (⟨b, o, none⟩ : Addr).add j = ⟨b, o + j, none⟩ := fun b o j => by unfold Addr.add; split <;> simp_all
  obtain ⟨hl, _, hy⟩ := hy
  rcases hy with ⟨rfl, a, c, rfl⟩ | ⟨hp, b, o, c, rfl, hc, hlt, hx⟩
  · have hys : ys = [] := List.eq_nil_of_length_eq_zero (by simpa using hl)
    subst hys
    cases a with
    | none => exact ⟨v, w, run_app_none ht hi hown, by simpa using hown, grown_refl _ _⟩
    | some a =>
      obtain ⟨v', w', h2, h3, h4, _⟩ := run_append_own (P := P) w base t ty e i z size bytes ht hi hz0 hz1 hz2 hz3 hsz v n xs hown a 0 c [] hl (by simp) h1 (by unfold maxLen; omega) hn hbase
      exact ⟨v', w', h2, h3, h4⟩
  · obtain ⟨v', w', h2, h3, h4, _⟩ := run_append_own (P := P) w base t ty e i z size bytes ht hi hz0 hz1 hz2 hz3 hsz v n xs hown ⟨b, o, none⟩ m c ys hl (fun j u hu => by rw [add]; exact hx j u hu) h1 (by unfold maxLen; omega) hn hbase
    exact ⟨v', w', h2, h3, h4⟩
theorem zero_cells {z : Value} (h : z.cells = #[z]) (k : Nat) : (Builtin.zeroCells z.cells k).toList = List.replicate k z := by
  unfold Builtin.zeroCells; rw [h]
  apply List.ext_getElem?
  intro j
  simp only [Array.toList_map, Array.toList_range, List.getElem?_map, List.getElem?_replicate]
  by_cases hj : j < k
  · rw [List.getElem?_range (by simpa using hj), if_pos hj]; simp [Nat.mod_one]
  · rw [if_neg hj, List.getElem?_eq_none (by simp; omega)]; rfl
/-- append of so many zeros -/
theorem run_app_zeros {w : World} {base : Nat} {ty tn : TypeId} {kn : IntKind} (ht : P.underlying t = some (.slice e)) (htn : P.underlying tn = some (.int kn)) {i : TypeInfo} {z : Value} (hi : P.info? e = some i) (hz : i.zero = some z) (hsize : i.size = 1) (hby : i.bytes = bytes) (hzs : z.cells = #[z]) (h1 : z.oneCell' = true)
    {v : Value} {n : Nat} {xs : List Value} (hown : w.ownsRow base e 1 v n xs) (k : Nat) (hk : 0 < k) (hn : (n + k) * bytes ≤ 140737488355328) (hn2 : n + k ≤ 140737488355328) (hbase : base ≤ w.heap.size) :
    ∃ v' w', (Builtin.append_ #[t, tn] ty #[v, .int .i64 k]).run P w = .ok v' w' ∧ w'.ownsRow base e 1 v' (n + k) (xs ++ List.replicate k z) ∧ w.grownBy w' v.ownBlock := by
  subst hby
  have hkb : k * i.bytes ≤ 140737488355328 := Nat.le_trans (Nat.mul_le_mul_right _ (by omega)) hn
  have hlen : (xs ++ List.replicate k z).length = (n + k) * 1 := by simp [hown.1]
  have grown : ∀ (old : Nat), old < n + k → ∀ (row : Option Nat),
      (w.drew.alloc (.cells (xs.toArray ++ Builtin.zeroCells z.cells k ++ Builtin.zeroCells z.cells (grownCap w (n + k) old e - (n + k))) e)).ownsRow base e 1
        (.slice (some ⟨w.heap.size, 0, none⟩) (n + k) (grownCap w (n + k) old e)) (n + k) (xs ++ List.replicate k z) ∧
      w.grownBy (w.drew.alloc (.cells (xs.toArray ++ Builtin.zeroCells z.cells k ++ Builtin.zeroCells z.cells (grownCap w (n + k) old e - (n + k))) e)) row := by
    intro old ho row
    have hge := grownCap_ge w (n + k) old e
    have hcm : grownCap w (n + k) old e ≤ maxLen := grownCap_le_maxLen w (n + k) old e (by unfold maxLen; omega)
    refine ⟨⟨hlen, .inr ⟨w.heap.size, _, _, rfl, hbase, heap_alloc_new w.drew _, hge, hcm, ?_, ?_⟩⟩, ⟨rfl, rfl, rfl, by simp, fun k' hk' _ => heap_alloc_old w.drew _ hk'⟩⟩
    · simp only [Array.size_append, List.size_toArray, size_zeroCells, hzs, hown.1, List.size_toArray, List.length_cons, List.length_nil]
      omega
    · simp only [Array.toList_append, zero_cells hzs]
      rw [← hlen]
      exact List.take_left
  rcases hown.2 with ⟨rfl, rfl⟩ | ⟨g, cap, cur, rfl, hbg, hg, hnc, hcm, hcs, htake⟩
  · have hr := Lib.run_append_grow_zeros (P := P) w t tn ty e i z .i64 kn ht htn hi hz none 0 0 xs (by
      have : xs = [] := List.eq_nil_of_length_eq_zero (by simpa using hown.1)
      subst this; simp [Builtin.firstCells]) k hk (by omega) (by omega) (by omega) (by omega) (growslice_fits (by omega) hn)
    have hgr := grown 0 (by omega) (Value.ownBlock (.slice none 0 0))
    exact ⟨_, _, hr, hgr.1, hgr.2⟩
  · by_cases hroom : n + k ≤ cap
    · have hw : IntKind.i64.wrap (k : Int) = k := by rw [IntKind.wrap_i64]; omega
      have hneg : ¬ ((k : Int) < 0) := by omega
      have h48i : ¬ (281474976710656 < (k : Int) * (i.bytes : Int)) := by rw [← Int.natCast_mul]; omega
      have hk0 : k ≠ 0 := by omega
      have hst := run_storeCells_at P g n e (List.replicate k z) 0 cur w hg (by simp; omega) (by intro u hu; rw [List.eq_of_mem_replicate hu]; exact h1)
      simp only [Nat.add_zero] at hst
      have hr : (Builtin.append_ #[t, tn] ty #[.slice (some ⟨g, 0, none⟩) n cap, .int .i64 k]).run P w = .ok (.slice (some ⟨g, 0, none⟩) (n + k) cap) (w.setRow g (cur.toList.take n ++ List.replicate k z ++ cur.toList.drop (n + (List.replicate k z).length)).toArray) := by
        simp [Builtin.append_, run_underlying ht, run_underlying htn, sizeOf, typeInfo, zeroValue, hi, hz, asInt, asIntOf, hw, hneg, h48i, hk0, hsize, hroom, Addr.add_lit, zero_cells hzs, hst]
      refine ⟨_, _, hr, ⟨hlen, .inr ⟨g, cap, _, rfl, hbg, setRow_heap w g cur _ e _ hg, hroom, hcm, ?_, ?_⟩⟩, ⟨rfl, rfl, rfl, by simp, fun k _ hk => setRow_other w g k _ (fun e => hk (by simp [Value.ownBlock, e]))⟩⟩
      · simp only [List.size_toArray, List.length_append, List.length_take, List.length_drop, Array.length_toList, List.length_replicate]
        omega
      · rw [show cur.toList.take n = xs from by rw [← htake]; simp, ← hlen]
        exact List.take_left
    · have holds : ∀ j u, xs[j]? = some u → w.drew.cell? ((⟨g, 0, none⟩ : Addr).add j) = some u := fun j u h => by
        have := hown.cells (g := g) rfl j u h; simpa using this
      have hr := Lib.run_append_grow_zeros (P := P) w t tn ty e i z .i64 kn ht htn hi hz (some ⟨g, 0, none⟩) n cap xs (run_firstCells_some (P := P) w.drew i.size n ⟨g, 0, none⟩ n cap xs (by rw [hsize]; exact hown.1) holds) k hk (by omega) (by omega) (by omega) (by omega) (growslice_fits (by omega) hn)
      have hgr := grown cap (by omega) (Value.ownBlock (.slice (some ⟨g, 0, none⟩) n cap))
      exact ⟨_, _, hr, hgr.1, hgr.2⟩

theorem below_grown {w w' w0 : World} {B base n : Nat} {v : Value} {xs : List Value} (hown : w.ownsRow base e size v n xs) (hB : Below B w0 w) (hBb : B ≤ base) (hbase : base ≤ w.heap.size) (hg : w.grownBy w' v.ownBlock) : Below B w0 w' :=
  hB.grown hg (by omega) (fun k hk => by have := hown.lt k hk; omega)

/-- append of what is read, in a walk -/
theorem list_app_reads (R : RowT P t e size bytes) {ops : Array Oper} {rest : List Oper} {o : Oper} {a : Act} {w : World} {Q : Exit → Act → World → Prop} (hg : o.guard = none) (s x : Operand)
    (hop : o.op = .call { callee := .builtin .append, args := #[s, x], argTypes := #[t, t] }) (base : Nat) (v : Value) (n : Nat) (xs : List Value) (hs : a.eval s = v) (hown : w.ownsRow base e size v n xs)
    (y : Value) (m : Nat) (ys : List Value) (hx : a.eval x = y) (hy : Reads w y m size ys) (h1 : ∀ u ∈ ys, u.oneCell' = true) (hn : (n + m) * bytes ≤ 140737488355328) (hn2 : n + m ≤ 140737488355328) (hbase : base ≤ w.heap.size)
    (B : Nat) (w0 : World) (hB : Below B w0 w) (hBb : B ≤ base)
    (h : ∀ v' w', w'.ownsRow base e size v' (n + m) (xs ++ ys) → Below B w0 w' → wpList P ops Q rest (a.put o.dst v') w') : wpList P ops Q (o :: rest) a w :=
  wpList_plain hg fun _ hK => by
    obtain ⟨v', w', hr, h2, h3⟩ := run_app_reads (ty := o.type) R hown hy h1 hn hn2 hbase
    unfold Oper.wp execOp
    simp only [hop, resolve, invoke, builtin, Sem.run_bind, Sem.run_pure, Result.andThen_ok, List.map_toArray, List.map_cons, List.map_nil, hs, hx, hr]
    exact hK _ _ (h v' w' h2 (below_grown hown hB hBb hbase h3))
theorem step_app_reads_g (R : RowT P t e size bytes) {ops : Array Oper} {o : Oper} {a : Act} {w : World} {K : Act → World → Prop} {Q : Exit → Act → World → Prop} {E : Prop} (hg : o.guard = none) (s x : Operand)
    (hop : o.op = .call { callee := .builtin .append, args := #[s, x], argTypes := #[t, t] }) (base : Nat) (v : Value) (n : Nat) (xs : List Value) (hs : a.eval s = v) (hown : w.ownsRow base e size v n xs)
    (y : Value) (m : Nat) (ys : List Value) (hx : a.eval x = y) (hy : Reads w y m size ys) (h1 : ∀ u ∈ ys, u.oneCell' = true) (hn : (n + m) * bytes ≤ 140737488355328) (hn2 : n + m ≤ 140737488355328) (hbase : base ≤ w.heap.size)
    (h : ∀ v' w', w'.ownsRow base e size v' (n + m) (xs ++ ys) → w.grownBy w' v.ownBlock → K (a.put o.dst v') w') : if Region.wanted o (yielded ops a.tmps) = true then o.wp P a w K Q else E := by
  rw [if_pos (by simp [Region.wanted, hg])]
  obtain ⟨v', w', hr, h2, h3⟩ := run_app_reads (ty := o.type) R hown hy h1 hn hn2 hbase
  unfold Oper.wp execOp
  simp only [hop, resolve, invoke, builtin, Sem.run_bind, Sem.run_pure, Result.andThen_ok, List.map_toArray, List.map_cons, List.map_nil, hs, hx, hr]
  exact h v' w' h2 h3
/-- what is read stays where another row alone has turned -/
theorem Reads.grown {w w' : World} {row : Option Nat} {v : Value} {n size : Nat} {xs : List Value} (h : Reads w v n size xs) (hg : w.grownBy w' row) (hne : ∀ b o c, v = .slice (some ⟨b, o, none⟩) n c → 0 < n → some b ≠ row) : Reads w' v n size xs := by
  obtain ⟨h1, h2, h3⟩ := h
  refine ⟨h1, h2, ?_⟩
  rcases h3 with h3 | ⟨hp, b, o, c, hv, hc, hlt, hx⟩
  · exact Or.inl h3
  · refine Or.inr ⟨hp, b, o, c, hv, hc, Nat.lt_of_lt_of_le hlt hg.size, fun j x hj => ?_⟩
    rw [World.cell?_of_block (a := ⟨b, o + j, none⟩) (hg.block b hlt (hne b o c hv hp))]; exact hx j x hj
/-- the first k things of what is read; those behind -/
theorem Reads.takeN {w : World} {a : Option Addr} {n c size : Nat} {xs : List Value} (h : Reads w (.slice a n c) n size xs) (k : Nat) (hk : k ≤ n) (d : Nat) : Reads w (.slice a k d) k size (xs.take (k * size)) ∨ d < k := by
  by_cases hd : d < k
  · exact Or.inr hd
  left
  obtain ⟨h1, h2, h3⟩ := h
  have hm : k * size ≤ n * size := Nat.mul_le_mul_right _ hk
  refine ⟨by rw [List.length_take, h1]; omega, by omega, ?_⟩
  by_cases h0 : k = 0
  · exact Or.inl ⟨h0, a, d, by rw [h0]⟩
  rcases h3 with ⟨h3, _⟩ | ⟨hp, b, o, c', hv, hc, hlt, hx⟩
  · omega
  · injection hv with hv _ _
    refine Or.inr ⟨by omega, b, o, d, by rw [hv], by omega, hlt, fun j x hj => hx j x ?_⟩
    rw [List.getElem?_take] at hj
    split at hj
    · exact hj
    · cases hj
/-- append of so many zeros, in a walk -/
theorem list_app_zeros {ops : Array Oper} {rest : List Oper} {o : Oper} {a : Act} {w : World} {Q : Exit → Act → World → Prop} (hg : o.guard = none) {tn : TypeId} {kn : IntKind} (s x : Operand)
    (hop : o.op = .call { callee := .builtin .append, args := #[s, x], argTypes := #[t, tn] }) (ht : P.underlying t = some (.slice e)) (htn : P.underlying tn = some (.int kn)) {z : Value} (hi : (P.info? e).map (fun i => (i.zero, i.size, i.bytes)) = some (some z, 1, bytes)) (hzs : z.cells = #[z]) (h1 : z.oneCell' = true)
    (base : Nat) (v : Value) (n : Nat) (xs : List Value) (hs : a.eval s = v) (hown : w.ownsRow base e 1 v n xs)
    (k : Nat) (hx : a.eval x = .int .i64 k) (hk : 0 < k) (hn : (n + k) * bytes ≤ 140737488355328) (hn2 : n + k ≤ 140737488355328) (hbase : base ≤ w.heap.size)
    (B : Nat) (w0 : World) (hB : Below B w0 w) (hBb : B ≤ base)
    (h : ∀ v' w', w'.ownsRow base e 1 v' (n + k) (xs ++ List.replicate k z) → Below B w0 w' → w.grownBy w' v.ownBlock → wpList P ops Q rest (a.put o.dst v') w') : wpList P ops Q (o :: rest) a w :=
  wpList_plain hg fun _ hK => by
    obtain ⟨i, hi, hz0, hz1, hz2⟩ := info_parts hi
    obtain ⟨v', w', hr, h2, h3⟩ := run_app_zeros (ty := o.type) ht htn hi hz0 hz1 hz2 hzs h1 hown k hk hn hn2 hbase
    unfold Oper.wp execOp
    simp only [hop, resolve, invoke, builtin, Sem.run_bind, Sem.run_pure, Result.andThen_ok, List.map_toArray, List.map_cons, List.map_nil, hs, hx, hr]
    exact hK _ _ (h v' w' h2 (below_grown hown hB hBb hbase h3) h3)
end
end Go.Proofs.YtdmobgdgeiiicaaGreat
