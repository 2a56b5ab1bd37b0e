/- Texts put together: SortPW. No condition. -/
import Derived.Test.YtppmjbnhghaffaaRmcavooviyn
import Derived.Test.YtppmjbnhghaffaaRucrranjrxo
import Derived.Deep.MidRow
import Derived.RegionTactic
import Derived.Sort.WalkA
import Derived.Sort.WalkB2
import Derived.Sort.WalkB12
namespace Go.Proofs.Ytppmjbnhghaffaa
open Go.RowKit Go.Lib Go.Sort

instance : Inhabited Pe := ⟨⟨⟨⟨false, 0, 0⟩, 0⟩, false, 0, 0, 0, 0, 0⟩⟩
def SP (base : Nat) (w0 : World) (blk cap : Nat) (d : Array Pe) (W : World) : Prop := base ≤ blk ∧ W.ownsRow base 66 10 (.slice (some ⟨blk, 0, none⟩) d.size cap) d.size (d.toList.flatMap peV) ∧ Below base w0 W
theorem get_bang {d : Array Pe} {i : Nat} (hi : i < d.size) : d.toList[i]? = some d[i]! := by
  rw [getElem!_pos d i hi, Array.getElem?_toList, Array.getElem?_eq_getElem hi]
section
variable {base blk cap : Nat} {w0 W : World} {d dk : Array Pe}
theorem SP.pe (h : SP base w0 blk cap d W) {i : Nat} (hi : i < d.size) : PeIn W blk (i * 10) d[i]! := own_pe h.2.1 (get_bang hi)
theorem SP.fz (h : SP base w0 blk cap d W) : ∀ o, W.frozen? ⟨blk, o, none⟩ = false := by
  obtain ⟨arr, hA⟩ := own_blk h.2.1; exact hA.frozen
theorem SP.lt (h : SP base w0 blk cap d W) : blk < W.heap.size := (h.2.1.lt blk rfl).2
theorem SP.below (h : SP base w0 blk cap d W) {w' : World} (hb : Below W.heap.size W w') (hz : base ≤ W.heap.size) : SP base w0 blk cap d w' := ⟨h.1, owns_below h.2.1 hb, h.2.2.trans (hb.mono hz)⟩
theorem SP.ext (h : SP base w0 blk cap d W) (x : Grow) : SP base w0 blk cap d (Go.Proofs.Ytppmjbnhghaffaa.ext W x) := h.below (ext_below W x) (Nat.le_trans h.1 (Nat.le_of_lt h.lt))
theorem SP.drew (h : SP base w0 blk cap d W) : SP base w0 blk cap d W.drew := ⟨h.1, World.ownsRow.drew h.2.1, h.2.2.drew⟩
theorem SP.cl (h : SP base w0 blk cap d W) {i : Nat} (hi : i < d.size) (Y : Grow) : PeIn (Go.Proofs.Ytppmjbnhghaffaa.ext W Y) blk (i * 10) d[i]! := (h.ext Y).pe hi
/-- a peer stored: ten cells -/
def setP (w : World) (g i : Nat) (p : Pe) : World :=
  (((((((((w.setCell ⟨g, i * 10, none⟩ (.bool p.en.ad.v6)).setCell ⟨g, i * 10 + 1, none⟩ (.int .u64 p.en.ad.hi)).setCell ⟨g, i * 10 + 2, none⟩ (.int .u64 p.en.ad.lo)).setCell ⟨g, i * 10 + 3, none⟩ (.int .i64 p.en.port)).setCell ⟨g, i * 10 + 4, none⟩ (.bool p.came)).setCell ⟨g, i * 10 + 5, none⟩ (.int .i64 p.since)).setCell ⟨g, i * 10 + 6, none⟩ (.int .i64 p.pts)).setCell ⟨g, i * 10 + 7, none⟩ (.int .i64 p.at_)).setCell ⟨g, i * 10 + 8, none⟩ (.int .i64 p.ping)).setCell ⟨g, i * 10 + 9, none⟩ (.int .i64 p.work)
theorem SP.set (h : SP base w0 blk cap d W) {i : Nat} (hi : i < d.size) (p : Pe) : SP base w0 blk cap (d.setIfInBounds i p) (setP W blk i p) := by
  obtain ⟨h1, h2⟩ := own_setP h.2.1 i p (by simpa using hi)
  refine ⟨h.1, ?_, below_far h.2.2 h2 h.1 h.lt⟩
  rw [Array.size_setIfInBounds, Array.toList_setIfInBounds]
  exact h1
theorem PeIn.range {w : World} {b o : Nat} {p : Pe} (h : PeIn w b o p) : w.rangeAt b o (peV p) := by
  obtain ⟨a0, a1, a2, a3, a4, a5, a6, a7, a8, a9⟩ := h
  intro j v hj
  have hl := (List.getElem?_eq_some_iff.1 hj).1
  rw [peV_len] at hl
  rcases (show j = 0 ∨ j = 1 ∨ j = 2 ∨ j = 3 ∨ j = 4 ∨ j = 5 ∨ j = 6 ∨ j = 7 ∨ j = 8 ∨ j = 9 by omega) with rfl | rfl | rfl | rfl | rfl | rfl | rfl | rfl | rfl | rfl <;> (injection hj with hj; subst hj; assumption)
theorem SP.range (h : SP base w0 blk cap d W) {i : Nat} (hi : i < d.size) : W.rangeAt blk (i * 10) (peV d[i]!) := (h.pe hi).range
theorem SP.there (h : SP base w0 blk cap d W) {i : Nat} (hi : i < d.size) : W.there blk (i * 10) 10 := fun j hj => by
  have hr := h.range hi
  have hl : j < (peV d[i]!).length := by rw [peV_len]; exact hj
  rw [hr j _ (List.getElem?_eq_getElem hl)]
  exact ⟨rfl, h.fz _⟩
theorem SP.setCells (h : SP base w0 blk cap d W) {i : Nat} (hi : i < d.size) (p : Pe) : SP base w0 blk cap (d.setIfInBounds i p) (W.setCells blk (i * 10) (peV p)) := h.set hi p
theorem SP.swapped2 (h : SP base w0 blk cap d W) {i j : Nat} (hi : i < d.size) (hj : j < d.size) : SP base w0 blk cap (swp d i j) ((W.setCells blk (i * 10) (peV d[j]!)).setCells blk (j * 10) (peV d[i]!)) := by
  unfold swp
  exact ((h.setCells hi _).setCells (by rw [Array.size_setIfInBounds]; exact hj) _)
theorem SP.there2 (h : SP base w0 blk cap d W) {i j : Nat} (hi : i < d.size) (hj : j < d.size) (p : Pe) : (W.setCells blk (i * 10) (peV p)).there blk (j * 10) 10 := (h.setCells hi p).there (by rw [Array.size_setIfInBounds]; exact hj)
end
theorem peV_all (p : Pe) : (peV p).toArray.all (·.oneCell') = true := all_oneCell_toArray (peV_one1 p)
theorem wpOp_load_mid {P : Program} {ops : Array Oper} {Q : Exit → Act → World → Prop} {i : Nat} {o : Oper} {K : Act → World → Prop} {a : Act} {w : World} (ho : ops[i]? = some o) (hgd : o.guard = none)
    (ty : TypeId) (x : Operand) (hop : o.op = .load ty x) (b of : Nat) (hx : a.eval x = .pointer (some ⟨b, of, none⟩)) (cs : List Value) (d : TypeDesc) (hc : w.rangeAt b of cs)
    (hu : P.underlying ty = some d) (hd : d.isRow = true) (hi : (P.info? ty).map (·.size) = some cs.length) (h : K (a.put o.dst (.agg cs.toArray)) w) : wpOp P ops Q i K a w :=
  wpOp_step ho fun K' hK => by
    rw [if_pos (by simp [Region.wanted, hgd])]
    exact wp_load_mid ty x hop b of hx cs d hc hu hd hi (hK _ _ h)
theorem wpOp_store_mid {P : Program} {ops : Array Oper} {Q : Exit → Act → World → Prop} {i : Nat} {o : Oper} {K : Act → World → Prop} {a : Act} {w : World} (ho : ops[i]? = some o) (hgd : o.guard = none)
    (ty : TypeId) (x y : Operand) (hop : o.op = .store ty x y) (b of : Nat) (cells : Array Value) (hx : a.eval x = .pointer (some ⟨b, of, none⟩)) (hy : a.eval y = .agg cells)
    (ht : w.there b of cells.size) (hi : (P.info? ty).map (·.size) = some cells.size) (h1 : cells.all (·.oneCell') = true)
    (h : K (a.put o.dst undef) (w.setCells b of cells.toList)) : wpOp P ops Q i K a w :=
  wpOp_step ho fun K' hK => by
    rw [if_pos (by simp [Region.wanted, hgd])]
    exact wp_store_mid ty x y hop b of cells hx hy ht hi h1 (hK _ _ h)
theorem any_one {P : Program} {md : Region.Mode} {ops : Array Oper} {Q : Exit → Act → World → Prop} {i : Nat} {fuel : Nat} {listed : Array Bool} {a : Act} {w : World} (hr : Region.ready md ops listed = [i])
    (h1 : wpOp P ops Q i (wpAny P md ops Q fuel (listed.setIfInBounds i true)) a w) : wpAny P md ops Q (fuel + 1) listed a w :=
  wpAny_ready hr (by simp) (fun k hk => by rcases List.mem_cons.1 hk with rfl | hk; exact h1; cases hk)
theorem any_two {P : Program} {md : Region.Mode} {ops : Array Oper} {Q : Exit → Act → World → Prop} {i j : Nat} {fuel : Nat} {listed : Array Bool} {a : Act} {w : World} (hr : Region.ready md ops listed = [i, j])
    (h1 : wpOp P ops Q i (wpAny P md ops Q fuel (listed.setIfInBounds i true)) a w) (h2 : wpOp P ops Q j (wpAny P md ops Q fuel (listed.setIfInBounds j true)) a w) : wpAny P md ops Q (fuel + 1) listed a w :=
  wpAny_ready hr (by simp) (fun k hk => by rcases List.mem_cons.1 hk with rfl | hk; exact h1; rcases List.mem_cons.1 hk with rfl | hk; exact h2; cases hk)
theorem any_loads2 {P : Program} {md : Region.Mode} {ops : Array Oper} {Q : Exit → Act → World → Prop} {i j : Nat} {oi oj : Oper} {fuel : Nat} {listed : Array Bool} {a : Act} {w : World}
    (hoi : ops[i]? = some oi) (hoj : ops[j]? = some oj) (hr : Region.ready md ops listed = [i, j]) (hr1 : Region.ready md ops (listed.setIfInBounds i true) = [j]) (hr2 : Region.ready md ops (listed.setIfInBounds j true) = [i])
    (hgi : oi.guard = none) (hgj : oj.guard = none) (ty : TypeId) (xi xj : Operand) (hopi : oi.op = .load ty xi) (hopj : oj.op = .load ty xj) (b fi fj : Nat) (ci cj : List Value) (d : TypeDesc)
    (hxi : a.eval xi = .pointer (some ⟨b, fi, none⟩)) (hxj : a.eval xj = .pointer (some ⟨b, fj, none⟩))
    (hxi' : (a.put oj.dst (.agg cj.toArray)).eval xi = .pointer (some ⟨b, fi, none⟩)) (hxj' : (a.put oi.dst (.agg ci.toArray)).eval xj = .pointer (some ⟨b, fj, none⟩))
    (hci : w.rangeAt b fi ci) (hcj : w.rangeAt b fj cj) (hu : P.underlying ty = some d) (hd : d.isRow = true) (hii : (P.info? ty).map (·.size) = some ci.length) (hij : (P.info? ty).map (·.size) = some cj.length)
    (hne : i ≠ j) (hcom : (a.put oj.dst (.agg cj.toArray)).put oi.dst (.agg ci.toArray) = (a.put oi.dst (.agg ci.toArray)).put oj.dst (.agg cj.toArray))
    (h : wpAny P md ops Q fuel ((listed.setIfInBounds i true).setIfInBounds j true) ((a.put oi.dst (.agg ci.toArray)).put oj.dst (.agg cj.toArray)) w) : wpAny P md ops Q (fuel + 2) listed a w := by
  refine any_two hr ?_ ?_
  · refine wpOp_load_mid hoi hgi ty xi hopi b fi hxi ci d hci hu hd hii ?_
    refine any_one hr1 ?_
    exact wpOp_load_mid hoj hgj ty xj hopj b fj hxj' cj d hcj hu hd hij h
  · refine wpOp_load_mid hoj hgj ty xj hopj b fj hxj cj d hcj hu hd hij ?_
    refine any_one hr2 ?_
    refine wpOp_load_mid hoi hgi ty xi hopi b fi hxi' ci d hci hu hd hii ?_
    rw [hcom, Array.setIfInBounds_comm _ _ (Ne.symm hne)]
    exact h
/-- what is asked of 'cmp' -/
def CmpP (P : Program) (g : Nat) (cb : Array Value) (cf : Pe → Pe → Int) : Prop :=
  ∀ (W : World) (x y : Pe), Calls P g (#[.agg #[.bool x.en.ad.v6, .int .u64 x.en.ad.hi, .int .u64 x.en.ad.lo, .int .i64 x.en.port, .bool x.came, .int .i64 x.since, .int .i64 x.pts, .int .i64 x.at_, .int .i64 x.ping, .int .i64 x.work], .agg #[.bool y.en.ad.v6, .int .u64 y.en.ad.hi, .int .u64 y.en.ad.lo, .int .i64 y.en.port, .bool y.came, .int .i64 y.since, .int .i64 y.pts, .int .i64 y.at_, .int .i64 y.ping, .int .i64 y.work]] ++ cb) W fun e w' => e = .returned (.int .i64 (cf x y)) ∧ Below W.heap.size W w'
end Go.Proofs.Ytppmjbnhghaffaa
