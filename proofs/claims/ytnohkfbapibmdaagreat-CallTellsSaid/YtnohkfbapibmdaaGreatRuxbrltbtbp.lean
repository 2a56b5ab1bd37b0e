/- Texts put together: Append, Ip6. No condition. -/
import Derived.Test.YtnohkfbapibmdaaGreatRctlrhhfaal
import Derived.WalkKit
import Derived.Lib.AppendZerosOnto
import Derived.Laws.MakeOwn
import Derived.Test.YtnohkfbapibmdaaGreatRmlfvpeuuqj
import Derived.Test.YtnohkfbapibmdaaGreatRwqesxugwwq
import Derived.Test.YtnohkfbapibmdaaGreatRows
import Derived.WalkSpells
import Derived.WalkLawsBesides
import Derived.BigGuardPart
import Derived.BigQuiet
import Derived.Deep.QuietTactic
import Derived.Deep.Light
namespace Go.Proofs.YtnohkfbapibmdaaGreat
open Go.RowKit

section
variable {P : Program} {t e : TypeId} {size bytes : Nat}
theorem run_app_none {w : World} {base : Nat} {ty : TypeId} (ht : P.underlying t = some (.slice e)) {i : TypeInfo} (hi : P.info? e = some i) {v : Value} {n c : Nat} {xs : List Value} (hown : w.ownsRow base e size v n xs) :
    (Builtin.append_ #[t, t] ty #[v, .slice none 0 c]).run P w = .ok v w := by
  rcases hown.2 with ⟨rfl, rfl⟩ | ⟨g, cap, cur, rfl, hbg, hg, hnc, hcm, hcs, htake⟩
  · simp [Builtin.append_, run_underlying ht, sizeOf, typeInfo, hi, Builtin.lenOf, Builtin.firstCells]
  · simp [Builtin.append_, run_underlying ht, sizeOf, typeInfo, hi, Builtin.lenOf, Builtin.firstCells, hnc, storeCells]
theorem owns_slice {w : World} {base n : Nat} {v : Value} {xs : List Value} (h : w.ownsRow base e size v n xs) : ∃ a c, v = .slice a n c := by
  rcases h.2 with ⟨rfl, rfl⟩ | ⟨g, cap, cur, rfl, _⟩
  · exact ⟨_, _, rfl⟩
  · exact ⟨_, _, rfl⟩
theorem grown_refl (w : World) (r : Option Nat) : w.grownBy w r := ⟨rfl, rfl, rfl, Nat.le_refl _, fun _ _ _ => rfl⟩
/-- append of what is read -/
theorem run_app_reads (R : RowT P t e size bytes) {w : World} {base : Nat} {ty : TypeId} {v y : Value} {n m : Nat} {xs ys : List Value} (hown : w.ownsRow base e size v n xs) (hy : Reads w y m size ys) (h1 : ∀ u ∈ ys, u.oneCell' = true)
    (hn : (n + m) * bytes ≤ 140737488355328) (hn2 : n + m ≤ 140737488355328) (hbase : base ≤ w.heap.size) :
    ∃ v' w', (Builtin.append_ #[t, t] ty #[v, y]).run P w = .ok v' w' ∧ w'.ownsRow base e size v' (n + m) (xs ++ ys) ∧ w.grownBy w' v.ownBlock := by
  obtain ⟨ht, hsz, i, z, hi, hz0, hz1, hz2, hz3⟩ := R
  have add : ∀ (b o j : Nat), (⟨b, o, none⟩ : Addr).add j = ⟨b, o + j, none⟩ := fun b o j => by unfold Addr.add; split <;> simp_all
  obtain ⟨hl, _, hy⟩ := hy
  rcases hy with ⟨rfl, a, c, rfl⟩ | ⟨hp, b, o, c, rfl, hc, hlt, hx⟩
  · have hys : ys = [] := List.eq_nil_of_length_eq_zero (by simpa using hl)
    subst hys
    cases a with
    | none => exact ⟨v, w, run_app_none ht hi hown, by simpa using hown, grown_refl _ _⟩
    | some a =>
      obtain ⟨v', w', h2, h3, h4, _⟩ := run_append_own (P := P) w base t ty e i z size bytes ht hi hz0 hz1 hz2 hz3 hsz v n xs hown a 0 c [] hl (by simp) h1 (by unfold maxLen; omega) hn hbase
      exact ⟨v', w', h2, h3, h4⟩
  · obtain ⟨v', w', h2, h3, h4, _⟩ := run_append_own (P := P) w base t ty e i z size bytes ht hi hz0 hz1 hz2 hz3 hsz v n xs hown ⟨b, o, none⟩ m c ys hl (fun j u hu => by rw [add]; exact hx j u hu) h1 (by unfold maxLen; omega) hn hbase
    exact ⟨v', w', h2, h3, h4⟩
theorem zero_cells {z : Value} (h : z.cells = #[z]) (k : Nat) : (Builtin.zeroCells z.cells k).toList = List.replicate k z := by
  unfold Builtin.zeroCells; rw [h]
  apply List.ext_getElem?
  intro j
  simp only [Array.toList_map, Array.toList_range, List.getElem?_map, List.getElem?_replicate]
  by_cases hj : j < k
  · rw [List.getElem?_range (by simpa using hj), if_pos hj]; simp [Nat.mod_one]
  · rw [if_neg hj, List.getElem?_eq_none (by simp; omega)]; rfl
/-- append of so many zeros -/
theorem run_app_zeros {w : World} {base : Nat} {ty tn : TypeId} {kn : IntKind} (ht : P.underlying t = some (.slice e)) (htn : P.underlying tn = some (.int kn)) {i : TypeInfo} {z : Value} (hi : P.info? e = some i) (hz : i.zero = some z) (hsize : i.size = 1) (hby : i.bytes = bytes) (hzs : z.cells = #[z]) (h1 : z.oneCell' = true)
    {v : Value} {n : Nat} {xs : List Value} (hown : w.ownsRow base e 1 v n xs) (k : Nat) (hk : 0 < k) (hn : (n + k) * bytes ≤ 140737488355328) (hn2 : n + k ≤ 140737488355328) (hbase : base ≤ w.heap.size) :
    ∃ v' w', (Builtin.append_ #[t, tn] ty #[v, .int .i64 k]).run P w = .ok v' w' ∧ w'.ownsRow base e 1 v' (n + k) (xs ++ List.replicate k z) ∧ w.grownBy w' v.ownBlock := by
  subst hby
  have hkb : k * i.bytes ≤ 140737488355328 := Nat.le_trans (Nat.mul_le_mul_right _ (by omega)) hn
  have hlen : (xs ++ List.replicate k z).length = (n + k) * 1 := by simp [hown.1]
  have grown : ∀ (old : Nat), old < n + k → ∀ (row : Option Nat),
      (w.drew.alloc (.cells (xs.toArray ++ Builtin.zeroCells z.cells k ++ Builtin.zeroCells z.cells (grownCap w (n + k) old e - (n + k))) e)).ownsRow base e 1
        (.slice (some ⟨w.heap.size, 0, none⟩) (n + k) (grownCap w (n + k) old e)) (n + k) (xs ++ List.replicate k z) ∧
      w.grownBy (w.drew.alloc (.cells (xs.toArray ++ Builtin.zeroCells z.cells k ++ Builtin.zeroCells z.cells (grownCap w (n + k) old e - (n + k))) e)) row := by
    intro old ho row
    have hge := grownCap_ge w (n + k) old e
    have hcm : grownCap w (n + k) old e ≤ maxLen := grownCap_le_maxLen w (n + k) old e (by unfold maxLen; omega)
    refine ⟨⟨hlen, .inr ⟨w.heap.size, _, _, rfl, hbase, heap_alloc_new w.drew _, hge, hcm, ?_, ?_⟩⟩, ⟨rfl, rfl, rfl, by simp, fun k' hk' _ => heap_alloc_old w.drew _ hk'⟩⟩
    · simp only [Array.size_append, List.size_toArray, size_zeroCells, hzs, hown.1, List.size_toArray, List.length_cons, List.length_nil]
      omega
    · simp only [Array.toList_append, zero_cells hzs]
      rw [← hlen]
      exact List.take_left
  rcases hown.2 with ⟨rfl, rfl⟩ | ⟨g, cap, cur, rfl, hbg, hg, hnc, hcm, hcs, htake⟩
  · have hr := Lib.run_append_grow_zeros (P := P) w t tn ty e i z .i64 kn ht htn hi hz none 0 0 xs (by
      have : xs = [] := List.eq_nil_of_length_eq_zero (by simpa using hown.1)
      subst this; simp [Builtin.firstCells]) k hk (by omega) (by omega) (by omega) (by omega) (growslice_fits (by omega) hn)
    have hgr := grown 0 (by omega) (Value.ownBlock (.slice none 0 0))
    exact ⟨_, _, hr, hgr.1, hgr.2⟩
  · by_cases hroom : n + k ≤ cap
    · have hw : IntKind.i64.wrap (k : Int) = k := by rw [IntKind.wrap_i64]; omega
      have hneg : ¬ ((k : Int) < 0) := by omega
      have h48i : ¬ (281474976710656 < (k : Int) * (i.bytes : Int)) := by rw [← Int.natCast_mul]; omega
      have hk0 : k ≠ 0 := by omega
      have hst := run_storeCells_at P g n e (List.replicate k z) 0 cur w hg (by simp; omega) (by intro u hu; rw [List.eq_of_mem_replicate hu]; exact h1)
      simp only [Nat.add_zero] at hst
      have hr : (Builtin.append_ #[t, tn] ty #[.slice (some ⟨g, 0, none⟩) n cap, .int .i64 k]).run P w = .ok (.slice (some ⟨g, 0, none⟩) (n + k) cap) (w.setRow g (cur.toList.take n ++ List.replicate k z ++ cur.toList.drop (n + (List.replicate k z).length)).toArray) := by
        simp [Builtin.append_, run_underlying ht, run_underlying htn, sizeOf, typeInfo, zeroValue, hi, hz, asInt, asIntOf, hw, hneg, h48i, hk0, hsize, hroom, Addr.add_lit, zero_cells hzs, hst]
      refine ⟨_, _, hr, ⟨hlen, .inr ⟨g, cap, _, rfl, hbg, setRow_heap w g cur _ e _ hg, hroom, hcm, ?_, ?_⟩⟩, ⟨rfl, rfl, rfl, by simp, fun k _ hk => setRow_other w g k _ (fun e => hk (by simp [Value.ownBlock, e]))⟩⟩
      · simp only [List.size_toArray, List.length_append, List.length_take, List.length_drop, Array.length_toList, List.length_replicate]
        omega
      · rw [show cur.toList.take n = xs from by rw [← htake]; simp, ← hlen]
        exact List.take_left
    · have holds : ∀ j u, xs[j]? = some u → w.drew.cell? ((⟨g, 0, none⟩ : Addr).add j) = some u := fun j u h => by
        have := hown.cells (g := g) rfl j u h; simpa using this
      have hr := Lib.run_append_grow_zeros (P := P) w t tn ty e i z .i64 kn ht htn hi hz (some ⟨g, 0, none⟩) n cap xs (run_firstCells_some (P := P) w.drew i.size n ⟨g, 0, none⟩ n cap xs (by rw [hsize]; exact hown.1) holds) k hk (by omega) (by omega) (by omega) (by omega) (growslice_fits (by omega) hn)
      have hgr := grown cap (by omega) (Value.ownBlock (.slice (some ⟨g, 0, none⟩) n cap))
      exact ⟨_, _, hr, hgr.1, hgr.2⟩

theorem below_grown {w w' w0 : World} {B base n : Nat} {v : Value} {xs : List Value} (hown : w.ownsRow base e size v n xs) (hB : Below B w0 w) (hBb : B ≤ base) (hbase : base ≤ w.heap.size) (hg : w.grownBy w' v.ownBlock) : Below B w0 w' :=
  hB.grown hg (by omega) (fun k hk => by have := hown.lt k hk; omega)

/-- append of what is read, in a walk -/
theorem list_app_reads (R : RowT P t e size bytes) {ops : Array Oper} {rest : List Oper} {o : Oper} {a : Act} {w : World} {Q : Exit → Act → World → Prop} (hg : o.guard = none) (s x : Operand)
    (hop : o.op = .call { callee := .builtin .append, args := #[s, x], argTypes := #[t, t] }) (base : Nat) (v : Value) (n : Nat) (xs : List Value) (hs : a.eval s = v) (hown : w.ownsRow base e size v n xs)
    (y : Value) (m : Nat) (ys : List Value) (hx : a.eval x = y) (hy : Reads w y m size ys) (h1 : ∀ u ∈ ys, u.oneCell' = true) (hn : (n + m) * bytes ≤ 140737488355328) (hn2 : n + m ≤ 140737488355328) (hbase : base ≤ w.heap.size)
    (B : Nat) (w0 : World) (hB : Below B w0 w) (hBb : B ≤ base)
    (h : ∀ v' w', w'.ownsRow base e size v' (n + m) (xs ++ ys) → Below B w0 w' → wpList P ops Q rest (a.put o.dst v') w') : wpList P ops Q (o :: rest) a w :=
  wpList_plain hg fun _ hK => by
    obtain ⟨v', w', hr, h2, h3⟩ := run_app_reads (ty := o.type) R hown hy h1 hn hn2 hbase
    unfold Oper.wp execOp
    simp only [hop, resolve, invoke, builtin, Sem.run_bind, Sem.run_pure, Result.andThen_ok, List.map_toArray, List.map_cons, List.map_nil, hs, hx, hr]
    exact hK _ _ (h v' w' h2 (below_grown hown hB hBb hbase h3))
/-- the same, with what has turned: the row alone -/
theorem list_app_reads_g (R : RowT P t e size bytes) {ops : Array Oper} {rest : List Oper} {o : Oper} {a : Act} {w : World} {Q : Exit → Act → World → Prop} (hg : o.guard = none) (s x : Operand)
    (hop : o.op = .call { callee := .builtin .append, args := #[s, x], argTypes := #[t, t] }) (base : Nat) (v : Value) (n : Nat) (xs : List Value) (hs : a.eval s = v) (hown : w.ownsRow base e size v n xs)
    (y : Value) (m : Nat) (ys : List Value) (hx : a.eval x = y) (hy : Reads w y m size ys) (h1 : ∀ u ∈ ys, u.oneCell' = true) (hn : (n + m) * bytes ≤ 140737488355328) (hn2 : n + m ≤ 140737488355328) (hbase : base ≤ w.heap.size)
    (h : ∀ v' w', w'.ownsRow base e size v' (n + m) (xs ++ ys) → w.grownBy w' v.ownBlock → wpList P ops Q rest (a.put o.dst v') w') : wpList P ops Q (o :: rest) a w :=
  wpList_plain hg fun _ hK => by
    obtain ⟨v', w', hr, h2, h3⟩ := run_app_reads (ty := o.type) R hown hy h1 hn hn2 hbase
    unfold Oper.wp execOp
    simp only [hop, resolve, invoke, builtin, Sem.run_bind, Sem.run_pure, Result.andThen_ok, List.map_toArray, List.map_cons, List.map_nil, hs, hx, hr]
    exact hK _ _ (h v' w' h2 h3)
/-- what is read stays where another row alone has turned -/
theorem Reads.grown {w w' : World} {row : Option Nat} {v : Value} {n size : Nat} {xs : List Value} (h : Reads w v n size xs) (hg : w.grownBy w' row) (hne : ∀ b o c, v = .slice (some ⟨b, o, none⟩) n c → 0 < n → some b ≠ row) : Reads w' v n size xs := by
  obtain ⟨h1, h2, h3⟩ := h
  refine ⟨h1, h2, ?_⟩
  rcases h3 with h3 | ⟨hp, b, o, c, hv, hc, hlt, hx⟩
  · exact Or.inl h3
  · refine Or.inr ⟨hp, b, o, c, hv, hc, Nat.lt_of_lt_of_le hlt hg.size, fun j x hj => ?_⟩
    rw [World.cell?_of_block (a := ⟨b, o + j, none⟩) (hg.block b hlt (hne b o c hv hp))]; exact hx j x hj
/-- a thing that a call has just laid into a block of its own -/
theorem reads_one {w : World} {T : TypeId} {size : Nat} {us : List Value} (h : us.length = size) (hs : 0 < size) : Reads (w.alloc (.cells us.toArray T)) (.slice (some ⟨w.heap.size, 0, none⟩) 1 1) 1 size us := by
  refine ⟨by omega, by omega, Or.inr ⟨by omega, w.heap.size, 0, 1, rfl, by omega, by simp, fun j x hj => ?_⟩⟩
  rw [Nat.zero_add]; exact (BlockIs.new w us T).cell hj
/-- append of so many zeros, in a walk -/
theorem list_app_zeros {ops : Array Oper} {rest : List Oper} {o : Oper} {a : Act} {w : World} {Q : Exit → Act → World → Prop} (hg : o.guard = none) {tn : TypeId} {kn : IntKind} (s x : Operand)
    (hop : o.op = .call { callee := .builtin .append, args := #[s, x], argTypes := #[t, tn] }) (ht : P.underlying t = some (.slice e)) (htn : P.underlying tn = some (.int kn)) {z : Value} (hi : (P.info? e).map (fun i => (i.zero, i.size, i.bytes)) = some (some z, 1, bytes)) (hzs : z.cells = #[z]) (h1 : z.oneCell' = true)
    (base : Nat) (v : Value) (n : Nat) (xs : List Value) (hs : a.eval s = v) (hown : w.ownsRow base e 1 v n xs)
    (k : Nat) (hx : a.eval x = .int .i64 k) (hk : 0 < k) (hn : (n + k) * bytes ≤ 140737488355328) (hn2 : n + k ≤ 140737488355328) (hbase : base ≤ w.heap.size)
    (B : Nat) (w0 : World) (hB : Below B w0 w) (hBb : B ≤ base)
    (h : ∀ v' w', w'.ownsRow base e 1 v' (n + k) (xs ++ List.replicate k z) → Below B w0 w' → w.grownBy w' v.ownBlock → wpList P ops Q rest (a.put o.dst v') w') : wpList P ops Q (o :: rest) a w :=
  wpList_plain hg fun _ hK => by
    obtain ⟨i, hi, hz0, hz1, hz2⟩ := info_parts hi
    obtain ⟨v', w', hr, h2, h3⟩ := run_app_zeros (ty := o.type) ht htn hi hz0 hz1 hz2 hzs h1 hown k hk hn hn2 hbase
    unfold Oper.wp execOp
    simp only [hop, resolve, invoke, builtin, Sem.run_bind, Sem.run_pure, Result.andThen_ok, List.map_toArray, List.map_cons, List.map_nil, hs, hx, hr]
    exact hK _ _ (h v' w' h2 (below_grown hown hB hBb hbase h3) h3)
end
end Go.Proofs.YtnohkfbapibmdaaGreat
namespace Go.Proofs.YtnohkfbapibmdaaGreat
open Go.RowKit

def uv (n : Nat) : Value := .int .u16 n
theorem u16Row : RowT Tryz.prog 107 113 1 2 := RowT.mk (.int .u16 0) Tryz.underlying107 (by kernel_rfl) rfl (by omega)
theorem uv_one (l : List Nat) : ∀ u ∈ l.map uv, Value.oneCell' u = true := by
  intro u hu; obtain ⟨n, _, rfl⟩ := List.mem_map.1 hu; rfl
theorem numL_snoc (L : List Nat) (g : Nat) : numL (L ++ [g]) = numL L * 65536 + g := by simp [numL]
set_option maxRecDepth 100000 in
set_option maxHeartbeats 1000000 in
theorem number_any (v : Value) (L : List Nat) (w : World) (h4 : L.length ≤ 4) (hL : ∀ g ∈ L, g < 65536) (hv : Reads w v L.length 1 (L.map uv)) :
    Calls Tryz.prog 99 #[v] w fun e w' => e = .returned (.int .u64 (numL L)) ∧ w = w' := by
  obtain ⟨_, _, a, c, rfl, hx⟩ := hv.open
  have HX := Lib.hid hx; have HL := Lib.hid hL; clear hx hL
  go_enter Tryz.func99, Tryz.ntmps99
  go_wp2_with fail
  go_loop [8, 3] (fun i n => ∃ k : Nat, k ≤ L.length ∧ i = .int .i64 k ∧ n = .int .u64 (numL (L.take k))) (fun i _ => L.length - (intOf i).toNat)
  case atStart => exact ⟨0, Nat.zero_le _, rfl, rfl⟩
  case round =>
    obtain ⟨k, hk, rfl, rfl⟩ := hrel
    by_cases hk2 : k < L.length
    · obtain ⟨b, o, rfl, h1, h2, h3⟩ := HX.out (by omega)
      have c1 : w.cell? ⟨b, o + k, none⟩ = some (.int .u16 L[k]) := h3 k _ (by rw [List.getElem?_map, List.getElem?_eq_getElem hk2]; rfl)
      have hg := HL.out _ (List.getElem_mem hk2)
      have hm : numL (L.take k) < 281474976710656 := by
        have := numL_lt (L.take k) (fun g hg => HL.out _ (List.mem_of_mem_take hg))
        have h2 : 65536 ^ (L.take k).length ≤ 65536 ^ 3 := Nat.pow_le_pow_right (by omega) (by simp; omega)
        omega
      have hs : Hid (numL (L.take (k + 1)) = numL (L.take k) * 65536 + L[k]) := by
        unfold Hid; rw [List.take_succ_eq_append_getElem hk2, numL_snoc]
      have hor := or16_u64 (numL (L.take k)) L[k] hm (by omega)
      have e1 : (numL (L.take k) : Int) * 65536 % 18446744073709551616 = (numL (L.take k) : Int) * 65536 := by omega
      generalize numL (L.take k) = m at *
      generalize L[k] = g at *
      have H3 := Lib.hid h3; clear h3
      go_wp2_with fail
      go_round
      case rel => exact ⟨k + 1, by omega, by go_num, by rw [hs.out]; go_num⟩
      case measure => simp [intOf]; omega
    · go_wp2_with fail
      go_ret
      rw [List.take_of_length_le (by omega)]
      exact ⟨rfl, rfl⟩

/-- groups, if there are such -/
def GivesU16 (W : World) (r : Option (List Nat)) (en : Ending) (w' : World) : Prop :=
  ∃ v, en = .returned (.tuple #[v, .bool r.isSome]) ∧ w'.ownsRow W.heap.size 113 1 v (r.getD []).length ((r.getD []).map uv) ∧ Below W.heap.size W w'
theorem gives16 {W w' : World} {r : Option (List Nat)} {l : List Nat} {v : Value} (h : r = some l) (ho : w'.ownsRow W.heap.size 113 1 v l.length (l.map uv)) (hb : Below W.heap.size W w') : GivesU16 W r (.returned (.tuple #[v, .bool true])) w' := by
  subst h; exact ⟨v, rfl, ho, hb⟩
theorem gives16_none {W w' : World} {r : Option (List Nat)} (h : r = none) (hb : Below W.heap.size W w') : GivesU16 W r (.returned (.tuple #[.slice none 0 0, .bool false])) w' := by
  subst h; exact ⟨_, rfl, World.ownsRow_nil _ _ _ _, hb⟩
theorem reads_new {w : World} {us : List Value} {e : TypeId} (n c : Nat) (hl : us.length = n) (hc : n ≤ c) (hn : n ≤ 1000) (hp : 0 < n) : Reads (w.alloc (.cells us.toArray e)) (.slice (some ⟨w.heap.size, 0, none⟩) n c) n 1 us := by
  refine ⟨by omega, by omega, Or.inr ⟨hp, _, _, _, rfl, hc, by simp, fun j x hx => ?_⟩⟩
  exact (BlockIs.new w us e).cell (by simpa using hx)
theorem empty_data {s : ByteArray} : s.toList.isEmpty = true ↔ s.data.toList = [] := by
  rw [isE, List.isEmpty_iff]
/-- what is gathered by place k -/
def FourAt (W : World) (may : Bool) (S : List (List UInt8)) (k : Nat) (v : Value) (wr : World) : Prop :=
  ∃ a : List Nat, a.length ≤ 8 ∧ fourP may (S.drop k) a = fourP may S [] ∧ wr.ownsRow W.heap.size 113 1 v a.length (a.map uv)
set_option maxRecDepth 100000 in
set_option maxHeartbeats 2000000 in
theorem four_any (s : ByteArray) (may : Bool) (w : World) (hs : s.size ≤ 8000000000000) :
    Calls Tryz.prog 113 #[.string s, .bool may] w (GivesU16 w (fourL may s.data.toList)) := by
  have hr0 : fourL may s.data.toList = if s.data.toList = [] then some [] else fourP may (splitL 58 s.data.toList) [] := rfl
  by_cases he : s.toList.isEmpty = true
  · have hr : fourL may s.data.toList = some [] := by rw [hr0, if_pos (empty_data.1 he)]
    have HR := Lib.hid hr; clear hr hr0
    go_enter Tryz.func113, Tryz.ntmps113
    go_wp2_with fail
    go_ret2
    exact gives16 HR.out (World.ownsRow_nil _ _ _ _) (Below.refl _ _)
  have he : s.toList.isEmpty = false := by simpa using he
  rw [if_neg (fun h => by rw [empty_data.2 h] at he; cases he)] at hr0
  have hsp := fun w => gives_row (splitL_ne _ _) (split_any s 58 w hs)
  have hpl := fun x (hx : x ∈ splitL 58 s.data.toList) => splitL_part_len 58 s.data.toList x hx
  have hln := splitL_len 58 s.data.toList
  rw [len_data] at hpl hln
  generalize splitL 58 s.data.toList = S at hsp hr0 hpl hln
  have HR := Lib.hid hr0; have HSP := Lib.hid hsp; have HPL := Lib.hid hpl; clear hsp hpl hr0
  go_enter Tryz.func113, Tryz.ntmps113
  go_wp2_with (go_at_call 13; refine (HSP.out _).mono ?_; rintro e w1 ⟨g, cap, hc1, hc2, rfl, hg, hr, b1⟩; have HRR := Lib.hid hr; clear hr)
  go_loopw [20, 6] (fun i v wr => ∃ k : Nat, k ≤ S.length ∧ i = .int .i64 k ∧ Hid (FourAt w1 may S k v wr) ∧ Below w1.heap.size w1 wr) (fun i _ _ => S.length - (intOf i).toNat)
  case atStart => exact ⟨0, Nat.zero_le _, rfl, ⟨[], by simp, by simp, World.ownsRow_nil _ _ _ _⟩, Below.refl _ _⟩
  case round =>
    obtain ⟨k, hk, rfl, HF, hb⟩ := hrel
    obtain ⟨a, ha8, hfa, hown⟩ := HF.out
    obtain ⟨sa, sc, rfl⟩ := owns_slice hown
    have hbw : Below w.heap.size w wr := below2 b1 hb
    have hz := hb.size
    have hz0 := b1.size
    have HFA := Lib.hid hfa; clear hfa
    by_cases hk2 : k < S.length
    · have c1 : wr.cell? ⟨g, k, none⟩ = some (.string (bs S[k])) := keep hb hg (HRR.out k hk2)
      have hsz : (bs S[k]).size ≤ 8000000000000 := by rw [bs_size]; have := HPL.out _ (List.getElem_mem hk2); omega
      have hv4 := fun w => v4Parse_any (bs S[k]) w hsz
      have hhx := fun w => decParseHex_any (bs S[k]) w (by omega)
      simp only [bs_data] at hv4 hhx
      have hdr : S.drop k = S[k] :: S.drop (k + 1) := List.drop_eq_getElem_cons hk2
      have hst : fourP may S [] = if may = true ∧ S.drop (k + 1) = [] ∧ (v4parse S[k]).2 = true then some (a ++ [(v4parse S[k]).1 / 65536, (v4parse S[k]).1 % 65536])
          else if (hexParse S[k]).2 = false ∨ 8 ≤ a.length then none else fourP may (S.drop (k + 1)) (a ++ [(hexParse S[k]).1.toNat]) := by
        rw [← HFA.out, hdr]; rfl
      have hlast : S.drop (k + 1) = [] ↔ k + 1 = S.length := by rw [List.drop_eq_nil_iff]; omega
      simp only [hlast] at hst
      have hb4 : (v4parse S[k]).1 < 4294967296 := by
        cases h : (v4parse S[k]).2 with
        | true => exact (v4parse_true (l := S[k]) (n := (v4parse S[k]).1) (by rw [← h])).1
        | false => rw [v4parse_false h]; decide
      have hbh := hexParse_bd S[k]
      have hdrop : S.drop (k + 1) = S.drop (k + 1) := rfl
      generalize hn4 : (v4parse S[k]).1 = n4 at hst hb4 hv4
      generalize hv : (v4parse S[k]).2 = ok4 at hst hv4
      generalize hnh : (hexParse S[k]).1 = nh at hst hbh hhx
      generalize hvh : (hexParse S[k]).2 = okh at hst hhx
      have HST := Lib.hid hst; have HV4 := Lib.hid hv4; have HHX := Lib.hid hhx
      clear hst hv4 hhx hdr hlast hdrop hn4 hv hnh hvh
      have qb := hln
      by_cases hthree : (may = true ∧ k + 1 = S.length ∧ ok4 = true)
      · obtain ⟨rfl, hl, rfl⟩ := hthree
        have hq : ((k : Int) == (S.length : Int) - 1) = true := by rw [beq_iff_eq]; omega
        have q3 : IntKind.i64.wrap ((S.length : Int) - 1) = (S.length : Int) - 1 := IntWalk.i64_in _ (by omega)
        have ha16 := and16_u32 n4 hb4
        have hres : Hid (fourL true s.data.toList = some (a ++ [n4 / 65536, n4 % 65536])) := by unfold Hid; rw [HR.out, HST.out, if_pos ⟨rfl, hl, rfl⟩]
        clear HST hln
        go_wp2_with (first | (go_at_call 76; refine (HV4.out _).mono ?_; rintro e w2 ⟨rfl, b2⟩) | (at_builtin; refine list_app_reads u16Row rfl (.tmp 41) (.tmp 48) rfl w1.heap.size _ a.length (a.map uv) rfl ((owns_below hown b2).alloc _) _ 2 ([n4 / 65536, n4 % 65536].map uv) rfl (reads_new 2 2 rfl (by omega) (by omega) (by omega)) (uv_one _) (by omega) (by omega) (by have := b2.size; simp; omega) w.heap.size w ((below2 hbw b2).alloc (by have := b2.size; omega) _) b1.size ?_; intro v' w' hown' hb'))
        go_ret2
        exact gives16 hres.out (owns_base (by simpa using hown') b1.size) hb'
      · have h3 : ok4 = false ∨ (ok4 = true ∧ may = false) ∨ (ok4 = true ∧ may = true ∧ ((k : Int) == (S.length : Int) - 1) = false) := by
          cases ok4
          · exact Or.inl rfl
          · cases may
            · exact Or.inr (Or.inl ⟨rfl, rfl⟩)
            · refine Or.inr (Or.inr ⟨rfl, rfl, ?_⟩)
              rw [beq_eq_false_iff_ne]; intro h; exact hthree ⟨rfl, by omega, rfl⟩
        have q3 : IntKind.i64.wrap ((S.length : Int) - 1) = (S.length : Int) - 1 := IntWalk.i64_in _ (by omega)
        by_cases hbad : okh = false ∨ 8 ≤ a.length
        · have hres : Hid (fourL may s.data.toList = none) := by unfold Hid; rw [HR.out, HST.out, if_neg hthree, if_pos hbad]
          have hbad2 : okh = false ∨ (okh = true ∧ 8 ≤ a.length) := by cases okh <;> simp_all
          clear HST hthree hbad
          rcases h3 with rfl | ⟨rfl, rfl⟩ | ⟨rfl, rfl, hq⟩ <;> rcases hbad2 with rfl | ⟨rfl, h8⟩
          all_goals try have h8i : (8 : Int) ≤ (a.length : Int) := by omega
          all_goals
            go_wp2_with (first | (go_at_call 76; refine (HV4.out _).mono ?_; rintro e w2 ⟨rfl, b2⟩) | (go_at_call 123; refine (HHX.out _).mono ?_; rintro e w3 ⟨rfl, rfl⟩))
            go_ret2
            exact gives16_none hres.out (below2 hbw b2)
        · have hst : Hid (fourP may (S.drop (k + 1)) (a ++ [nh.toNat]) = fourP may S []) := by unfold Hid; rw [HST.out, if_neg hthree, if_neg hbad]
          obtain ⟨rfl, h8⟩ : okh = true ∧ a.length < 8 := by cases okh <;> simp_all
          have hcv : nh % 65536 = nh := by omega
          have h8i : ¬ (8 : Int) ≤ (a.length : Int) := by omega
          clear HST hthree hbad
          rcases h3 with rfl | ⟨rfl, rfl⟩ | ⟨rfl, rfl, hq⟩
          all_goals
            go_wp2_with (first | (go_at_call 76; refine (HV4.out _).mono ?_; rintro e w2 ⟨rfl, b2⟩) | (go_at_call 123; refine (HHX.out _).mono ?_; rintro e w3 ⟨rfl, rfl⟩) | (at_builtin; refine list_app u16Row rfl (.tmp 62) (.tmp 65) rfl w1.heap.size _ a.length (a.map uv) rfl (owns_below hown b2) [_] rfl rfl rfl (by omega) (by omega) (by have := b2.size; omega) w1.heap.size w1 (hb.trans (b2.mono hz)) (Nat.le_refl _) ?_; intro v' w' hown' hb'))
            go_roundw
            case rel =>
              refine ⟨k + 1, by omega, by go_num, ⟨a ++ [nh.toNat], by simp; omega, hst.out, ?_⟩, hb'⟩
              have e : [Value.int .u16 nh] = [nh.toNat].map uv := by simp [uv]; omega
              rw [e] at hown'
              simpa using hown'
            case measure => simp [intOf]; omega
    · have hres : Hid (fourL may s.data.toList = some a) := by unfold Hid; rw [HR.out, ← HFA.out, List.drop_eq_nil_of_le (by omega)]; rfl
      go_wp2_with fail
      go_ret2
      exact gives16 hres.out (owns_base hown b1.size) hbw
end Go.Proofs.YtnohkfbapibmdaaGreat
