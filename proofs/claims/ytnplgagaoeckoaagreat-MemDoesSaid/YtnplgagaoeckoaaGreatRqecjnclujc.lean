/- Texts put together: SortPW, SortP, SortPA, SortPB, SortPC, SortPD, SortPK. No condition. -/
import Derived.Test.YtnplgagaoeckoaaGreatRqjngbjfvuz
import Derived.Test.YtnplgagaoeckoaaGreatRfnolrsgeod
import Derived.Deep.MidRow
import Derived.RegionTactic
import Derived.Sort.WalkA
import Derived.Sort.WalkB2
import Derived.Sort.WalkB12
import Derived.Test.YtnplgagaoeckoaaGreatRdelfbcrueh
import Derived.Deep.LoopGhost
import Derived.BigRegion
import Derived.WalkSpells
import Derived.WalkLawsBesides
import Derived.Deep.DeepCutAuto
set_option maxRecDepth 100000
set_option linter.unusedSimpArgs false
set_option linter.unusedVariables false
namespace Go.Proofs.YtnplgagaoeckoaaGreat
open Go.RowKit Go.Lib Go.Sort
instance : Inhabited Pe := ⟨⟨⟨⟨false, 0, 0⟩, 0⟩, false, 0, 0, 0, 0, 0⟩⟩
def SP (base : Nat) (w0 : World) (blk cap : Nat) (d : Array Pe) (W : World) : Prop := base ≤ blk ∧ W.ownsRow base 52 10 (.slice (some ⟨blk, 0, none⟩) d.size cap) d.size (d.toList.flatMap peV) ∧ Below base w0 W
theorem get_bang {d : Array Pe} {i : Nat} (hi : i < d.size) : d.toList[i]? = some d[i]! := by
 rw [getElem!_pos d i hi, Array.getElem?_toList, Array.getElem?_eq_getElem hi]
section
variable {base blk cap : Nat} {w0 W : World} {d dk : Array Pe}
theorem SP.pe (h : SP base w0 blk cap d W) {i : Nat} (hi : i < d.size) : PeIn W blk (i * 10) d[i]! := own_pe h.2.1 (get_bang hi)
theorem SP.fz (h : SP base w0 blk cap d W) : ∀ o, W.frozen? ⟨blk, o, none⟩ = false := by
 obtain ⟨arr, hA⟩ := own_blk h.2.1; exact hA.frozen
theorem SP.lt (h : SP base w0 blk cap d W) : blk < W.heap.size := (h.2.1.lt blk rfl).2
theorem SP.below (h : SP base w0 blk cap d W) {w' : World} (hb : Below W.heap.size W w') (hz : base ≤ W.heap.size) : SP base w0 blk cap d w' := ⟨h.1, owns_below h.2.1 hb, h.2.2.trans (hb.mono hz)⟩
theorem SP.ext (h : SP base w0 blk cap d W) (x : Grow) : SP base w0 blk cap d (Go.Proofs.YtnplgagaoeckoaaGreat.ext W x) := h.below (ext_below W x) (Nat.le_trans h.1 (Nat.le_of_lt h.lt))
theorem SP.drew (h : SP base w0 blk cap d W) : SP base w0 blk cap d W.drew := ⟨h.1, World.ownsRow.drew h.2.1, h.2.2.drew⟩
theorem SP.cl (h : SP base w0 blk cap d W) {i : Nat} (hi : i < d.size) (Y : Grow) : PeIn (Go.Proofs.YtnplgagaoeckoaaGreat.ext W Y) blk (i * 10) d[i]! := (h.ext Y).pe hi
/-- a peer stored: ten cells -/
def setP (w : World) (g i : Nat) (p : Pe) : World :=
 (((((((((w.setCell ⟨g, i * 10, none⟩ (.bool p.en.ad.v6)).setCell ⟨g, i * 10 + 1, none⟩ (.int .u64 p.en.ad.hi)).setCell ⟨g, i * 10 + 2, none⟩ (.int .u64 p.en.ad.lo)).setCell ⟨g, i * 10 + 3, none⟩ (.int .i64 p.en.port)).setCell ⟨g, i * 10 + 4, none⟩ (.bool p.came)).setCell ⟨g, i * 10 + 5, none⟩ (.int .i64 p.since)).setCell ⟨g, i * 10 + 6, none⟩ (.int .i64 p.pts)).setCell ⟨g, i * 10 + 7, none⟩ (.int .i64 p.at_)).setCell ⟨g, i * 10 + 8, none⟩ (.int .i64 p.ping)).setCell ⟨g, i * 10 + 9, none⟩ (.int .i64 p.work)
theorem SP.set (h : SP base w0 blk cap d W) {i : Nat} (hi : i < d.size) (p : Pe) : SP base w0 blk cap (d.setIfInBounds i p) (setP W blk i p) := by
 obtain ⟨h1, h2⟩ := own_setP h.2.1 i p (by simpa using hi)
 refine ⟨h.1, ?_, below_far h.2.2 h2 h.1 h.lt⟩
 rw [Array.size_setIfInBounds, Array.toList_setIfInBounds]
 exact h1
theorem PeIn.range {w : World} {b o : Nat} {p : Pe} (h : PeIn w b o p) : w.rangeAt b o (peV p) := by
 obtain ⟨a0, a1, a2, a3, a4, a5, a6, a7, a8, a9⟩ := h
 intro j v hj
 have hl := (List.getElem?_eq_some_iff.1 hj).1
 rw [peV_len] at hl
 rcases (show j = 0 ∨ j = 1 ∨ j = 2 ∨ j = 3 ∨ j = 4 ∨ j = 5 ∨ j = 6 ∨ j = 7 ∨ j = 8 ∨ j = 9 by omega) with rfl | rfl | rfl | rfl | rfl | rfl | rfl | rfl | rfl | rfl <;> (injection hj with hj; subst hj; assumption)
theorem SP.range (h : SP base w0 blk cap d W) {i : Nat} (hi : i < d.size) : W.rangeAt blk (i * 10) (peV d[i]!) := (h.pe hi).range
theorem SP.there (h : SP base w0 blk cap d W) {i : Nat} (hi : i < d.size) : W.there blk (i * 10) 10 := fun j hj => by
 have hr := h.range hi
 have hl : j < (peV d[i]!).length := by rw [peV_len]; exact hj
 rw [hr j _ (List.getElem?_eq_getElem hl)]
 exact ⟨rfl, h.fz _⟩
theorem SP.setCells (h : SP base w0 blk cap d W) {i : Nat} (hi : i < d.size) (p : Pe) : SP base w0 blk cap (d.setIfInBounds i p) (W.setCells blk (i * 10) (peV p)) := h.set hi p
theorem SP.swapped2 (h : SP base w0 blk cap d W) {i j : Nat} (hi : i < d.size) (hj : j < d.size) : SP base w0 blk cap (swp d i j) ((W.setCells blk (i * 10) (peV d[j]!)).setCells blk (j * 10) (peV d[i]!)) := by
 unfold swp
 exact ((h.setCells hi _).setCells (by rw [Array.size_setIfInBounds]; exact hj) _)
theorem SP.there2 (h : SP base w0 blk cap d W) {i j : Nat} (hi : i < d.size) (hj : j < d.size) (p : Pe) : (W.setCells blk (i * 10) (peV p)).there blk (j * 10) 10 := (h.setCells hi p).there (by rw [Array.size_setIfInBounds]; exact hj)
end
theorem peV_all (p : Pe) : (peV p).toArray.all (·.oneCell') = true := all_oneCell_toArray (peV_one1 p)
theorem wpOp_load_mid {P : Program} {ops : Array Oper} {Q : Exit → Act → World → Prop} {i : Nat} {o : Oper} {K : Act → World → Prop} {a : Act} {w : World} (ho : ops[i]? = some o) (hgd : o.guard = none)
  (ty : TypeId) (x : Operand) (hop : o.op = .load ty x) (b of : Nat) (hx : a.eval x = .pointer (some ⟨b, of, none⟩)) (cs : List Value) (d : TypeDesc) (hc : w.rangeAt b of cs)
  (hu : P.underlying ty = some d) (hd : d.isRow = true) (hi : (P.info? ty).map (·.size) = some cs.length) (h : K (a.put o.dst (.agg cs.toArray)) w) : wpOp P ops Q i K a w :=
 wpOp_step ho fun K' hK => by
  rw [if_pos (by simp [Region.wanted, hgd])]
  exact wp_load_mid ty x hop b of hx cs d hc hu hd hi (hK _ _ h)
theorem wpOp_store_mid {P : Program} {ops : Array Oper} {Q : Exit → Act → World → Prop} {i : Nat} {o : Oper} {K : Act → World → Prop} {a : Act} {w : World} (ho : ops[i]? = some o) (hgd : o.guard = none)
  (ty : TypeId) (x y : Operand) (hop : o.op = .store ty x y) (b of : Nat) (cells : Array Value) (hx : a.eval x = .pointer (some ⟨b, of, none⟩)) (hy : a.eval y = .agg cells)
  (ht : w.there b of cells.size) (hi : (P.info? ty).map (·.size) = some cells.size) (h1 : cells.all (·.oneCell') = true)
  (h : K (a.put o.dst undef) (w.setCells b of cells.toList)) : wpOp P ops Q i K a w :=
 wpOp_step ho fun K' hK => by
  rw [if_pos (by simp [Region.wanted, hgd])]
  exact wp_store_mid ty x y hop b of cells hx hy ht hi h1 (hK _ _ h)
theorem any_one {P : Program} {md : Region.Mode} {ops : Array Oper} {Q : Exit → Act → World → Prop} {i : Nat} {fuel : Nat} {listed : Array Bool} {a : Act} {w : World} (hr : Region.ready md ops listed = [i])
  (h1 : wpOp P ops Q i (wpAny P md ops Q fuel (listed.setIfInBounds i true)) a w) : wpAny P md ops Q (fuel + 1) listed a w :=
 wpAny_ready hr (by simp) (fun k hk => by rcases List.mem_cons.1 hk with rfl | hk; exact h1; cases hk)
theorem any_two {P : Program} {md : Region.Mode} {ops : Array Oper} {Q : Exit → Act → World → Prop} {i j : Nat} {fuel : Nat} {listed : Array Bool} {a : Act} {w : World} (hr : Region.ready md ops listed = [i, j])
  (h1 : wpOp P ops Q i (wpAny P md ops Q fuel (listed.setIfInBounds i true)) a w) (h2 : wpOp P ops Q j (wpAny P md ops Q fuel (listed.setIfInBounds j true)) a w) : wpAny P md ops Q (fuel + 1) listed a w :=
 wpAny_ready hr (by simp) (fun k hk => by rcases List.mem_cons.1 hk with rfl | hk; exact h1; rcases List.mem_cons.1 hk with rfl | hk; exact h2; cases hk)
theorem any_loads2 {P : Program} {md : Region.Mode} {ops : Array Oper} {Q : Exit → Act → World → Prop} {i j : Nat} {oi oj : Oper} {fuel : Nat} {listed : Array Bool} {a : Act} {w : World}
  (hoi : ops[i]? = some oi) (hoj : ops[j]? = some oj) (hr : Region.ready md ops listed = [i, j]) (hr1 : Region.ready md ops (listed.setIfInBounds i true) = [j]) (hr2 : Region.ready md ops (listed.setIfInBounds j true) = [i])
  (hgi : oi.guard = none) (hgj : oj.guard = none) (ty : TypeId) (xi xj : Operand) (hopi : oi.op = .load ty xi) (hopj : oj.op = .load ty xj) (b fi fj : Nat) (ci cj : List Value) (d : TypeDesc)
  (hxi : a.eval xi = .pointer (some ⟨b, fi, none⟩)) (hxj : a.eval xj = .pointer (some ⟨b, fj, none⟩))
  (hxi' : (a.put oj.dst (.agg cj.toArray)).eval xi = .pointer (some ⟨b, fi, none⟩)) (hxj' : (a.put oi.dst (.agg ci.toArray)).eval xj = .pointer (some ⟨b, fj, none⟩))
  (hci : w.rangeAt b fi ci) (hcj : w.rangeAt b fj cj) (hu : P.underlying ty = some d) (hd : d.isRow = true) (hii : (P.info? ty).map (·.size) = some ci.length) (hij : (P.info? ty).map (·.size) = some cj.length)
  (hne : i ≠ j) (hcom : (a.put oj.dst (.agg cj.toArray)).put oi.dst (.agg ci.toArray) = (a.put oi.dst (.agg ci.toArray)).put oj.dst (.agg cj.toArray))
  (h : wpAny P md ops Q fuel ((listed.setIfInBounds i true).setIfInBounds j true) ((a.put oi.dst (.agg ci.toArray)).put oj.dst (.agg cj.toArray)) w) : wpAny P md ops Q (fuel + 2) listed a w := by
 refine any_two hr ?_ ?_
 ·refine wpOp_load_mid hoi hgi ty xi hopi b fi hxi ci d hci hu hd hii ?_
  refine any_one hr1 ?_
  exact wpOp_load_mid hoj hgj ty xj hopj b fj hxj' cj d hcj hu hd hij h
 ·refine wpOp_load_mid hoj hgj ty xj hopj b fj hxj cj d hcj hu hd hij ?_
  refine any_one hr2 ?_
  refine wpOp_load_mid hoi hgi ty xi hopi b fi hxi' ci d hci hu hd hii ?_
  rw [hcom, Array.setIfInBounds_comm _ _ (Ne.symm hne)]
  exact h
/-- what is asked of 'cmp' -/
def CmpP (P : Program) (g : Nat) (cb : Array Value) (cf : Pe → Pe → Int) : Prop :=
 ∀ (W : World) (x y : Pe), Calls P g (#[.agg #[.bool x.en.ad.v6, .int .u64 x.en.ad.hi, .int .u64 x.en.ad.lo, .int .i64 x.en.port, .bool x.came, .int .i64 x.since, .int .i64 x.pts, .int .i64 x.at_, .int .i64 x.ping, .int .i64 x.work], .agg #[.bool y.en.ad.v6, .int .u64 y.en.ad.hi, .int .u64 y.en.ad.lo, .int .i64 y.en.port, .bool y.came, .int .i64 y.since, .int .i64 y.pts, .int .i64 y.at_, .int .i64 y.ping, .int .i64 y.work]] ++ cb) W fun e w' => e = .returned (.int .i64 (cf x y)) ∧ Below W.heap.size W w'

set_option maxHeartbeats 4000000 in
theorem swapRange_p (a b n : Nat) (g : Nat) (cb : Array Value) (base blk cap : Nat) (d : Array Pe) (w0 w : World) (S : SP base w0 blk cap d w) (ha : a + n ≤ d.size) (hb : b + n ≤ d.size) (hsz : d.size < 4611686018427387904) :
  Calls Tryz.prog 139 #[.slice (some ⟨blk, 0, none⟩) d.size cap, .int .i64 a, .int .i64 b, .int .i64 n, .func (.func g) #[] cb] w fun e w' => e = .returned (.tuple #[]) ∧ SP base w0 blk cap (swpR a b n 0 d) w' := by
 have mixed : Tryz.prog.follows .mixedOrders = true := by kernel_rfl
 have S0 : Aside _ := S
 clear S
 go_enter Tryz.func139, Tryz.ntmps139
 go_wp2
 go_loopg [10] n (fun g1 vi wr => ∃ (i : Nat) (dk : Array Pe), vi = .int .i64 i ∧ i ≤ n ∧ n - i ≤ g1 ∧ dk.size = d.size ∧ Aside (SP base w0 blk cap dk wr) ∧ Hid (swpR a b (n - i) i dk = swpR a b n 0 d))
 case atStart => exact ⟨0, d, by first | rfl | go_num, by omega, by omega, rfl, S0, rfl⟩
 case round =>
  clear S0
  obtain ⟨i, dk, rfl, hin, hg1, hsk, S1, HO⟩ := hrel
  by_cases hlt : i < n
  ·have hltz : (i : Int) < (n : Int) := by omega
   obtain ⟨iN1, hiN1, jN1, hjN1⟩ := nz2 (a + i) (b + i)
   have ea1 : ((a : Int) + (i : Int)).toNat = iN1 := by omega
   have pa1 : (0 : Int) ≤ (a : Int) + (i : Int) := by omega
   have ba1 : (a : Int) + (i : Int) < (d.size : Int) := by omega
   have ra1 : IntKind.i64.wrap ((a : Int) + (i : Int)) = (a : Int) + (i : Int) := by rw [IntKind.wrap_i64]; omega
   have ec1 : ((b : Int) + (i : Int)).toNat = jN1 := by omega
   have pc1 : (0 : Int) ≤ (b : Int) + (i : Int) := by omega
   have bc1 : (b : Int) + (i : Int) < (d.size : Int) := by omega
   have rc1 : IntKind.i64.wrap ((b : Int) + (i : Int)) = (b : Int) + (i : Int) := by rw [IntKind.wrap_i64]; omega
   obtain ⟨x1, hx1, y1, hy1⟩ := nz2 (dk[a + i]!) (dk[b + i]!)
   have S3 : Aside (SP base w0 blk cap (swp dk (a + i) (b + i)) ((wr.drew.setCells blk (iN1 * 10) (peV y1)).setCells blk (jN1 * 10) (peV x1))) := by rw [hiN1, hjN1, hx1, hy1]; exact S1.out.drew.swapped2 (i := a + i) (j := b + i) (by omega) (by omega)
   have RA1 : Hid (wr.drew.rangeAt blk (iN1 * 10) (peV x1)) := by show World.rangeAt _ _ _ _; rw [hiN1, hx1]; exact S1.out.drew.range (by omega)
   have RB1 : Hid (wr.drew.rangeAt blk (jN1 * 10) (peV y1)) := by show World.rangeAt _ _ _ _; rw [hjN1, hy1]; exact S1.out.drew.range (by omega)
   have TA1 : Hid (wr.drew.there blk (iN1 * 10) 10) := by show World.there _ _ _ _; rw [hiN1]; exact S1.out.drew.there (by omega)
   have TB1 : Hid ((wr.drew.setCells blk (iN1 * 10) (peV y1)).there blk (jN1 * 10) 10) := by show World.there _ _ _ _; rw [hiN1, hjN1]; exact S1.out.drew.there2 (by omega) (by omega) _
   clear S1 hx1 hy1
   clear hiN1
   clear hjN1
   go_wp2_with fail
   refine wp_region_any (by kernel_rfl) ?_
   try (change wpAny _ _ _ _ _ _ _ (World.drew _))
   refine wpAny_take (i := 0) (v := ?_) (by simp only [List.getElem?_toArray, List.getElem?_cons_succ, List.getElem?_cons_zero]; rfl) (by kernel_rfl) (by kernel_rfl) (by kernel_rfl) ?hQ1 (Or.inl ⟨by rfl, ?hy1⟩) ?main1
   case hQ1 => exact fun _ _ _ h => h
   case hy1 => ((intro w; go_simp); try with_reducible rfl)
   simp only [Act.put, zs1, zs2, zs3, List.toList_toArray]
   refine wpAny_take (i := 1) (v := ?_) (by simp only [List.getElem?_toArray, List.getElem?_cons_succ, List.getElem?_cons_zero]; rfl) (by kernel_rfl) (by kernel_rfl) (by kernel_rfl) ?hQ2 (Or.inl ⟨by rfl, ?hy2⟩) ?main2
   case hQ2 => exact fun _ _ _ h => h
   case hy2 => ((intro w; go_simp); try with_reducible rfl)
   simp only [Act.put, zs1, zs2, zs3, List.toList_toArray]
   refine wpAny_take (i := 2) (v := ?_) (by simp only [List.getElem?_toArray, List.getElem?_cons_succ, List.getElem?_cons_zero]; rfl) (by kernel_rfl) (by kernel_rfl) (by kernel_rfl) ?hQ3 (Or.inl ⟨by rfl, ?hy3⟩) ?main3
   case hQ3 => exact fun _ _ _ h => h
   case hy3 => ((intro w; go_simp); try with_reducible rfl)
   simp only [Act.put, zs1, zs2, zs3, List.toList_toArray]
   refine wpAny_take (i := 3) (v := ?_) (by simp only [List.getElem?_toArray, List.getElem?_cons_succ, List.getElem?_cons_zero]; rfl) (by kernel_rfl) (by kernel_rfl) (by kernel_rfl) ?hQ4 (Or.inl ⟨by rfl, ?hy4⟩) ?main4
   case hQ4 => exact fun _ _ _ h => h
   case hy4 => ((intro w; go_simp); try with_reducible rfl)
   simp only [Act.put, zs1, zs2, zs3, List.toList_toArray]
   refine wpAny_take (i := 4) (v := ?_) (by simp only [List.getElem?_toArray, List.getElem?_cons_succ, List.getElem?_cons_zero]; rfl) (by kernel_rfl) (by kernel_rfl) (by kernel_rfl) ?hQ5 (Or.inl ⟨by rfl, ?hy5⟩) ?main5
   case hQ5 => exact fun _ _ _ h => h
   case hy5 => ((intro w; go_simp); try with_reducible rfl)
   simp only [Act.put, zs1, zs2, zs3, List.toList_toArray]
   refine wpAny_take (i := 5) (v := ?_) (by simp only [List.getElem?_toArray, List.getElem?_cons_succ, List.getElem?_cons_zero]; rfl) (by kernel_rfl) (by kernel_rfl) (by kernel_rfl) ?hQ6 (Or.inl ⟨by rfl, ?hy6⟩) ?main6
   case hQ6 => exact fun _ _ _ h => h
   case hy6 => ((intro w; go_simp); try with_reducible rfl)
   simp only [Act.put, zs1, zs2, zs3, List.toList_toArray]
   refine wpAny_take (i := 6) (v := ?_) (by simp only [List.getElem?_toArray, List.getElem?_cons_succ, List.getElem?_cons_zero]; rfl) (by kernel_rfl) (by kernel_rfl) (by kernel_rfl) ?hQ7 (Or.inl ⟨by rfl, ?hy7⟩) ?main7
   case hQ7 => exact fun _ _ _ h => h
   case hy7 => ((intro w; go_simp); try with_reducible rfl)
   simp only [Act.put, zs1, zs2, zs3, List.toList_toArray]
   refine wpAny_take (i := 7) (v := ?_) (by simp only [List.getElem?_toArray, List.getElem?_cons_succ, List.getElem?_cons_zero]; rfl) (by kernel_rfl) (by kernel_rfl) (by kernel_rfl) ?hQ8 (Or.inl ⟨by rfl, ?hy8⟩) ?main8
   case hQ8 => exact fun _ _ _ h => h
   case hy8 => ((intro w; go_simp); try with_reducible rfl)
   simp only [Act.put, zs1, zs2, zs3, List.toList_toArray]
   refine wpAny_take (i := 8) (v := ?_) (by simp only [List.getElem?_toArray, List.getElem?_cons_succ, List.getElem?_cons_zero]; rfl) (by kernel_rfl) (by kernel_rfl) (by kernel_rfl) ?hQ9 (Or.inl ⟨by rfl, ?hy9⟩) ?main9
   case hQ9 => exact fun _ _ _ h => h
   case hy9 => ((intro w; go_simp); try with_reducible rfl)
   simp only [Act.put, zs1, zs2, zs3, List.toList_toArray]
   refine wpAny_take (i := 9) (v := ?_) (by simp only [List.getElem?_toArray, List.getElem?_cons_succ, List.getElem?_cons_zero]; rfl) (by kernel_rfl) (by kernel_rfl) (by kernel_rfl) ?hQ10 (Or.inl ⟨by rfl, ?hy10⟩) ?main10
   case hQ10 => exact fun _ _ _ h => h
   case hy10 => ((intro w; go_simp); try with_reducible rfl)
   simp only [Act.put, zs1, zs2, zs3, List.toList_toArray]
   refine wpAny_take (i := 10) (v := ?_) (by simp only [List.getElem?_toArray, List.getElem?_cons_succ, List.getElem?_cons_zero]; rfl) (by kernel_rfl) (by kernel_rfl) (by kernel_rfl) ?hQ11 (Or.inl ⟨by rfl, ?hy11⟩) ?main11
   case hQ11 => exact fun _ _ _ h => h
   case hy11 => ((intro w; go_simp); try with_reducible rfl)
   simp only [Act.put, zs1, zs2, zs3, List.toList_toArray]
   refine wpAny_take (i := 11) (v := ?_) (by simp only [List.getElem?_toArray, List.getElem?_cons_succ, List.getElem?_cons_zero]; rfl) (by kernel_rfl) (by kernel_rfl) (by kernel_rfl) ?hQ12 (Or.inl ⟨by rfl, ?hy12⟩) ?main12
   case hQ12 => exact fun _ _ _ h => h
   case hy12 => ((intro w; go_simp); try with_reducible rfl)
   simp only [Act.put, zs1, zs2, zs3, List.toList_toArray]
   refine wpAny_take (i := 12) (v := ?_) (by simp only [List.getElem?_toArray, List.getElem?_cons_succ, List.getElem?_cons_zero]; rfl) (by kernel_rfl) (by kernel_rfl) (by kernel_rfl) ?hQ13 (Or.inl ⟨by rfl, ?hy13⟩) ?main13
   case hQ13 => exact fun _ _ _ h => h
   case hy13 => ((intro w; go_simp); try with_reducible rfl)
   simp only [Act.put, zs1, zs2, zs3, List.toList_toArray]
   refine wpAny_take (i := 14) (v := ?_) (by simp only [List.getElem?_toArray, List.getElem?_cons_succ, List.getElem?_cons_zero]; rfl) (by kernel_rfl) (by kernel_rfl) (by kernel_rfl) ?hQ14 (Or.inl ⟨by rfl, ?hy14⟩) ?main14
   case hQ14 => exact fun _ _ _ h => h
   case hy14 => ((intro w; go_simp); try with_reducible rfl)
   simp only [Act.put, zs1, zs2, zs3, List.toList_toArray]
   refine wpAny_take (i := 15) (v := ?_) (by simp only [List.getElem?_toArray, List.getElem?_cons_succ, List.getElem?_cons_zero]; rfl) (by kernel_rfl) (by kernel_rfl) (by kernel_rfl) ?hQ15 (Or.inl ⟨by rfl, ?hy15⟩) ?main15
   case hQ15 => exact fun _ _ _ h => h
   case hy15 => ((intro w; go_simp); try with_reducible rfl)
   simp only [Act.put, zs1, zs2, zs3, List.toList_toArray]
   refine wpAny_take (i := 16) (v := ?_) (by simp only [List.getElem?_toArray, List.getElem?_cons_succ, List.getElem?_cons_zero]; rfl) (by kernel_rfl) (by kernel_rfl) (by kernel_rfl) ?hQ16 (Or.inl ⟨by rfl, ?hy16⟩) ?main16
   case hQ16 => exact fun _ _ _ h => h
   case hy16 => ((intro w; go_simp); try with_reducible rfl)
   simp only [Act.put, zs1, zs2, zs3, List.toList_toArray]
   refine wpAny_take (i := 17) (v := ?_) (by simp only [List.getElem?_toArray, List.getElem?_cons_succ, List.getElem?_cons_zero]; rfl) (by kernel_rfl) (by kernel_rfl) (by kernel_rfl) ?hQ17 (Or.inl ⟨by rfl, ?hy17⟩) ?main17
   case hQ17 => exact fun _ _ _ h => h
   case hy17 => ((intro w; go_simp); try with_reducible rfl)
   simp only [Act.put, zs1, zs2, zs3, List.toList_toArray]
   refine wpAny_take (i := 18) (v := ?_) (by simp only [List.getElem?_toArray, List.getElem?_cons_succ, List.getElem?_cons_zero]; rfl) (by kernel_rfl) (by kernel_rfl) (by kernel_rfl) ?hQ18 (Or.inl ⟨by rfl, ?hy18⟩) ?main18
   case hQ18 => exact fun _ _ _ h => h
   case hy18 => ((intro w; go_simp); try with_reducible rfl)
   simp only [Act.put, zs1, zs2, zs3, List.toList_toArray]
   refine any_loads2 (i := 13) (j := 19) (by simp only [List.getElem?_toArray, List.getElem?_cons_succ, List.getElem?_cons_zero]; rfl) (by simp only [List.getElem?_toArray, List.getElem?_cons_succ, List.getElem?_cons_zero]; rfl) (by kernel_rfl) (by kernel_rfl) (by kernel_rfl) rfl rfl 52 (.tmp 28) (.tmp 34) rfl rfl blk (jN1 * 10) (iN1 * 10) _ _ _ rfl rfl rfl rfl RB1.out RA1.out Tryz.underlying52 rfl (by kernel_rfl) (by kernel_rfl) (by decide) rfl ?_
   simp only [Act.put, zs1, zs2, zs3, List.toList_toArray]
   refine wpAny_take (i := 20) (v := ?_) (by simp only [List.getElem?_toArray, List.getElem?_cons_succ, List.getElem?_cons_zero]; rfl) (by kernel_rfl) (by kernel_rfl) (by kernel_rfl) ?hQ19 (Or.inl ⟨by rfl, ?hy19⟩) ?main19
   case hQ19 => exact fun _ _ _ h => h
   case hy19 => ((intro w; go_simp); try with_reducible rfl)
   simp only [Act.put, zs1, zs2, zs3, List.toList_toArray]
   refine any_one (i := 21) (by kernel_rfl) ?_
   refine wpOp_store_mid (by simp only [List.getElem?_toArray, List.getElem?_cons_succ, List.getElem?_cons_zero]; rfl) rfl 52 (.tmp 36) (.tmp 29) rfl blk (iN1 * 10) (peV y1).toArray rfl rfl TA1.out (by kernel_rfl) (peV_all _) ?_
   simp only [Act.put, zs1, zs2, zs3, List.toList_toArray]
   refine wpAny_take (i := 22) (v := ?_) (by simp only [List.getElem?_toArray, List.getElem?_cons_succ, List.getElem?_cons_zero]; rfl) (by kernel_rfl) (by kernel_rfl) (by kernel_rfl) ?hQ20 (Or.inl ⟨by rfl, ?hy20⟩) ?main20
   case hQ20 => exact fun _ _ _ h => h
   case hy20 => ((intro w; go_simp); try with_reducible rfl)
   simp only [Act.put, zs1, zs2, zs3, List.toList_toArray]
   refine any_one (i := 23) (by kernel_rfl) ?_
   refine wpOp_store_mid (by simp only [List.getElem?_toArray, List.getElem?_cons_succ, List.getElem?_cons_zero]; rfl) rfl 52 (.tmp 37) (.tmp 35) rfl blk (jN1 * 10) (peV x1).toArray rfl rfl TB1.out (by kernel_rfl) (peV_all _) ?_
   simp only [Act.put, zs1, zs2, zs3, List.toList_toArray]
   refine wpAny_done (by kernel_rfl) ?_ _
   clear RA1 RB1 TA1 TB1
   generalize ((wr.drew.setCells blk (iN1 * 10) (peV y1)).setCells blk (jN1 * 10) (peV x1)) = w3 at S3 ⊢
   clear ea1
   clear ec1
   go_wp2
   go_roundg (n - (i + 1))
   case measure => omega
   case rel => exact ⟨i + 1, swp dk (a + i) (b + i), by first | rfl | go_num | (congr 1; omega), by omega, Nat.le_refl _, by rw [size_swp]; exact hsk, S3, (show Hid _ from by rw [← HO.out, show n - i = (n - (i + 1)) + 1 by omega]; exact rfl)⟩
  ·obtain rfl : n = i := by omega
   have HF : Hid (swpR a b n 0 d = dk) := by show _ = _; rw [← HO.out, Nat.sub_self]; rfl
   go_wp2
   go_end0
   exact ⟨rfl, by rw [HF.out]; exact S1.out⟩
set_option maxHeartbeats 4000000 in
theorem rotate_p (a m b : Nat) (g : Nat) (cb : Array Value) (base blk cap : Nat) (d : Array Pe) (w0 w : World) (S : SP base w0 blk cap d w) (ha : a < m) (hm : m < b) (hb : b ≤ d.size) (hsz : d.size < 4611686018427387904) :
  Calls Tryz.prog 135 #[.slice (some ⟨blk, 0, none⟩) d.size cap, .int .i64 a, .int .i64 m, .int .i64 b, .func (.func g) #[] cb] w fun e w' => e = .returned (.tuple #[]) ∧ SP base w0 blk cap (rotA m (b - a) (m - a) (b - m) d) w' := by
 have mixed : Tryz.prog.follows .mixedOrders = true := by kernel_rfl
 have S0 : Aside _ := S
 clear S
 go_enter Tryz.func135, Tryz.ntmps135
 go_wp2
 go_loopg [10, 11] (b - a) (fun g1 vi vj wr => ∃ (i j : Nat) (dk : Array Pe), vi = .int .i64 i ∧ vj = .int .i64 j ∧ 0 < i ∧ 0 < j ∧ a + i ≤ m ∧ m + j ≤ b ∧ i + j ≤ g1 ∧ dk.size = d.size ∧ Aside (SP base w0 blk cap dk wr) ∧ Hid (∀ f, i + j ≤ f → rotA m f i j dk = rotA m (b - a) (m - a) (b - m) d))
 case atStart => exact ⟨m - a, b - m, d, by first | go_num | (congr 1; omega), by first | go_num | (congr 1; omega), by omega, by omega, by omega, by omega, by omega, rfl, S0, fun f hf => rotA_fuel m f (b - a) (m - a) (b - m) d (by omega) (by omega) (by omega) (by omega)⟩
 case round =>
  clear S0
  obtain ⟨i, j, dk, rfl, rfl, hi0, hj0, hai, hjb, hg1, hsk, S1, HO⟩ := hrel
  by_cases hne : i = j
  ·subst hne
   have hsw := swapRange_p (m - i) m i g cb base blk cap dk w0 wr S1.out (by omega) (by omega) (by omega)
   rw [hsk, show ((m - i : Nat) : Int) = (m : Int) - (i : Int) by omega] at hsw
   have HF : Hid (swpR (m - i) m i 0 dk = rotA m (b - a) (m - a) (b - m) d) := by show _ = _; rw [← HO.out (i + i + 1) (by omega)]; unfold rotA; rw [if_pos rfl]
   go_wp2_with (go_at_call 139; refine hsw.mono ?_; rintro e w2 ⟨rfl, S2⟩)
   go_end0
   exact ⟨rfl, by rw [← HF.out]; exact S2⟩
  ·have hnez : ((i : Int) == (j : Int)) = false := beq_eq_false_iff_ne.2 (by omega)
   have hnz : ¬ ((i : Int) = (j : Int)) := by omega
   by_cases hji : j < i
   ·have hjiz : (j : Int) < (i : Int) := by omega
    have hsw := swapRange_p (m - i) m j g cb base blk cap dk w0 wr S1.out (by omega) (by omega) (by omega)
    rw [hsk, show ((m - i : Nat) : Int) = (m : Int) - (i : Int) by omega] at hsw
    go_wp2_with (go_at_call 139; refine hsw.mono ?_; rintro e w2 ⟨rfl, S2⟩)
    have S2' : Aside _ := S2
    clear S2
    go_roundg (i - j + j)
    case measure => omega
    case rel => exact ⟨i - j, j, _, by first | go_num | (congr 1; omega), rfl, by omega, hj0, by omega, hjb, by omega, by rw [size_swpR]; exact hsk, S2', (show Hid _ from fun f hf => by rw [← HO.out (f + j + 1) (by omega)]; (conv => rhs; unfold rotA; rw [if_neg hne, if_pos hji]); exact rotA_fuel m f (f + j) (i - j) j _ (by omega) hj0 (by omega) (by omega))⟩
   ·have hjiz : ¬ ((j : Int) < (i : Int)) := by omega
    have hsw := swapRange_p (m - i) (m + j - i) i g cb base blk cap dk w0 wr S1.out (by omega) (by omega) (by omega)
    rw [hsk, show ((m - i : Nat) : Int) = (m : Int) - (i : Int) by omega, show ((m + j - i : Nat) : Int) = (m : Int) + (j : Int) - (i : Int) by omega] at hsw
    go_wp2_with (go_at_call 139; refine hsw.mono ?_; rintro e w2 ⟨rfl, S2⟩)
    have S2' : Aside _ := S2
    clear S2
    go_roundg (i + (j - i))
    case measure => omega
    case rel => exact ⟨i, j - i, _, rfl, by first | go_num | (congr 1; omega), hi0, by omega, hai, by omega, by omega, by rw [size_swpR]; exact hsk, S2', (show Hid _ from fun f hf => by rw [← HO.out (f + i + 1) (by omega)]; (conv => rhs; unfold rotA; rw [if_neg hne, if_neg hji]); exact rotA_fuel m f (f + i) i (j - i) _ hi0 (by omega) (by omega) (by omega))⟩
set_option maxHeartbeats 4000000 in
theorem insSort_p (a b : Nat) (cf : Pe → Pe → Int) (g : Nat) (cb : Array Value) (base blk cap : Nat) (d : Array Pe) (w0 w : World) (eg : ∀ args w, (callFunc g args).run Tryz.prog w = .ok (.enter g args) w) (hcmp : CmpP Tryz.prog g cb cf) (S : SP base w0 blk cap d w) (hab : a ≤ b) (hb : b ≤ d.size) (hsz : d.size < 4611686018427387904) :
  Calls Tryz.prog 125 #[.slice (some ⟨blk, 0, none⟩) d.size cap, .int .i64 a, .int .i64 b, .func (.func g) #[] cb] w fun e w' => e = .returned (.tuple #[]) ∧ SP base w0 blk cap (Sort.insertionSort (ltOf cf) d a b) w' := by
 have mixed : Tryz.prog.follows .mixedOrders = true := by kernel_rfl
 have HC : Aside _ := hcmp
 have S0 : Aside _ := S
 clear S hcmp
 go_enter Tryz.func125, Tryz.ntmps125
 go_wp2
 go_loopg [8] (b - a) (fun g1 vi wr => ∃ (i : Nat) (dk : Array Pe), vi = .int .i64 i ∧ a < i ∧ i ≤ b + 1 ∧ b + 1 - i ≤ g1 + 1 ∧ dk.size = d.size ∧ Aside (SP base w0 blk cap dk wr) ∧ Hid (insOuter (ltOf cf) a b i dk = insOuter (ltOf cf) a b (a + 1) d))
 case atStart => exact ⟨a + 1, d, by go_num, by omega, by omega, by omega, rfl, S0, rfl⟩
 case round =>
  clear S0
  obtain ⟨i, dk, rfl, hai, hib, hg1, hsk, S1, HO⟩ := hrel
  by_cases hlt : i < b
  ·have hltz : (i : Int) < (b : Int) := by omega
   go_wp2
   go_loopg [9] i (fun g2 vj wr2 => ∃ (j : Nat) (dj : Array Pe), vj = .int .i64 j ∧ a ≤ j ∧ j ≤ i ∧ j ≤ g2 ∧ dj.size = d.size ∧ Aside (SP base w0 blk cap dj wr2) ∧ Hid (insInner (ltOf cf) a j dj = insInner (ltOf cf) a i dk))
   case atStart => exact ⟨i, dk, rfl, by omega, Nat.le_refl _, Nat.le_refl _, hsk, S1, rfl⟩
   case round =>
    clear S1
    obtain ⟨j, dj, rfl, haj, hji, hg2, hsj, SJ, HI⟩ := hrel
    have out : (j ≤ a ∨ (ltOf cf) dj[j]! dj[j - 1]! = false) → Hid (insOuter (ltOf cf) a b (i + 1) dj = insOuter (ltOf cf) a b (a + 1) d) := fun hs => by
     show _ = _
     rw [← HO.out, insOuter_go _ _ _ _ _ hlt, ← HI.out, insInner_stop _ _ _ _ hs]
    have OUT : Aside _ := out
    clear out
    by_cases hja : a < j
    ·have hjaz : (a : Int) < (j : Int) := by omega
     obtain ⟨jp, hjp⟩ : ∃ q, q + 1 = j := ⟨j - 1, by omega⟩
     have zjp : (j : Int) = (jp : Int) + 1 := by omega
     have hjad : decide ((jp : Int) + 1 > (a : Int)) = true := decide_eq_true (by omega)
     have hjaz' : (a : Int) < (jp : Int) + 1 := by omega
     cases hlv : (ltOf cf) dj[j]! dj[j - 1]! with
     | true =>
      obtain ⟨iN2, hiN2, jN2, hjN2⟩ := nz2 j (j - 1)
      have ea2 : ((jp : Int) + 1).toNat = iN2 := by omega
      have pa2 : (0 : Int) ≤ (jp : Int) + 1 := by omega
      have ba2 : (jp : Int) + 1 < (d.size : Int) := by omega
      have ra2 : IntKind.i64.wrap ((jp : Int) + 1) = (jp : Int) + 1 := by rw [IntKind.wrap_i64]; omega
      have ec2 : ((jp : Int)).toNat = jN2 := by omega
      have pc2 : (0 : Int) ≤ (jp : Int) := by omega
      have bc2 : (jp : Int) < (d.size : Int) := by omega
      have rc2 : IntKind.i64.wrap ((jp : Int)) = (jp : Int) := by rw [IntKind.wrap_i64]; omega
      obtain ⟨x2, hx2, y2, hy2⟩ := nz2 (dj[j]!) (dj[j - 1]!)
      have KA2 : ∀ Y, PeIn (Go.Proofs.YtnplgagaoeckoaaGreat.ext wr Y) blk (iN2 * 10) x2 := fun Y => by rw [hiN2, hx2]; exact SJ.out.cl (by omega) Y
      have KB2 : ∀ Y, PeIn (Go.Proofs.YtnplgagaoeckoaaGreat.ext wr Y) blk (jN2 * 10) y2 := fun Y => by rw [hjN2, hy2]; exact SJ.out.cl (by omega) Y
      have la0 := fun y => (KA2 y).1; have la1 := fun y => (KA2 y).2.1; have la2 := fun y => (KA2 y).2.2.1; have la3 := fun y => (KA2 y).2.2.2.1; have la4 := fun y => (KA2 y).2.2.2.2.1; have la5 := fun y => (KA2 y).2.2.2.2.2.1; have la6 := fun y => (KA2 y).2.2.2.2.2.2.1; have la7 := fun y => (KA2 y).2.2.2.2.2.2.2.1; have la8 := fun y => (KA2 y).2.2.2.2.2.2.2.2.1; have la9 := fun y => (KA2 y).2.2.2.2.2.2.2.2.2
      have lb0 := fun y => (KB2 y).1; have lb1 := fun y => (KB2 y).2.1; have lb2 := fun y => (KB2 y).2.2.1; have lb3 := fun y => (KB2 y).2.2.2.1; have lb4 := fun y => (KB2 y).2.2.2.2.1; have lb5 := fun y => (KB2 y).2.2.2.2.2.1; have lb6 := fun y => (KB2 y).2.2.2.2.2.2.1; have lb7 := fun y => (KB2 y).2.2.2.2.2.2.2.1; have lb8 := fun y => (KB2 y).2.2.2.2.2.2.2.2.1; have lb9 := fun y => (KB2 y).2.2.2.2.2.2.2.2.2
      have hc2 := fun Y => HC.out (Go.Proofs.YtnplgagaoeckoaaGreat.ext wr Y) x2 y2
      have hv2 : cf x2 y2 < 0 := by rw [hx2, hy2]; exact of_decide_eq_true hlv
      have hd2 : decide (cf x2 y2 < 0) = true := decide_eq_true hv2
      clear hx2 hy2 hiN2 hjN2 KA2 KB2
      go_wp2_with fail
      refine wp_region_ext (by kernel_rfl) (by kernel_rfl) ?_
      repeat (go_big_quiet_step ((first | (go_at_fn g; with_reducible exact qe (hc2 _)))))
      refine wpQuiet_nil ?_
      intro _ hw'
      obtain ⟨gx, hw''⟩ := hw'
      subst hw''
      have S2 : Aside (SP base w0 blk cap dj (Go.Proofs.YtnplgagaoeckoaaGreat.ext wr gx)) := SJ.out.ext gx
      clear la0 la1 la2 la3 la4 la5 la6 la7 la8 la9 lb0 lb1 lb2 lb3 lb4 lb5 lb6 lb7 lb8 lb9 hc2 SJ
      generalize Go.Proofs.YtnplgagaoeckoaaGreat.ext wr gx = w2 at S2 ⊢
      clear gx
      clear ea2 ec2
      go_wp2_with fail
      obtain ⟨iN3, hiN3, jN3, hjN3⟩ := nz2 j (j - 1)
      have ea3 : ((jp : Int) + 1).toNat = iN3 := by omega
      have pa3 : (0 : Int) ≤ (jp : Int) + 1 := by omega
      have ba3 : (jp : Int) + 1 < (d.size : Int) := by omega
      have ra3 : IntKind.i64.wrap ((jp : Int) + 1) = (jp : Int) + 1 := by rw [IntKind.wrap_i64]; omega
      have ec3 : ((jp : Int)).toNat = jN3 := by omega
      have pc3 : (0 : Int) ≤ (jp : Int) := by omega
      have bc3 : (jp : Int) < (d.size : Int) := by omega
      have rc3 : IntKind.i64.wrap ((jp : Int)) = (jp : Int) := by rw [IntKind.wrap_i64]; omega
      obtain ⟨x3, hx3, y3, hy3⟩ := nz2 (dj[j]!) (dj[j - 1]!)
      have S3 : Aside (SP base w0 blk cap (swp dj (j) (j - 1)) ((w2.drew.setCells blk (iN3 * 10) (peV y3)).setCells blk (jN3 * 10) (peV x3))) := by rw [hiN3, hjN3, hx3, hy3]; exact S2.out.drew.swapped2 (i := j) (j := j - 1) (by omega) (by omega)
      have RA3 : Hid (w2.drew.rangeAt blk (iN3 * 10) (peV x3)) := by show World.rangeAt _ _ _ _; rw [hiN3, hx3]; exact S2.out.drew.range (by omega)
      have RB3 : Hid (w2.drew.rangeAt blk (jN3 * 10) (peV y3)) := by show World.rangeAt _ _ _ _; rw [hjN3, hy3]; exact S2.out.drew.range (by omega)
      have TA3 : Hid (w2.drew.there blk (iN3 * 10) 10) := by show World.there _ _ _ _; rw [hiN3]; exact S2.out.drew.there (by omega)
      have TB3 : Hid ((w2.drew.setCells blk (iN3 * 10) (peV y3)).there blk (jN3 * 10) 10) := by show World.there _ _ _ _; rw [hiN3, hjN3]; exact S2.out.drew.there2 (by omega) (by omega) _
      clear S2 hx3 hy3
      clear hiN3
      have hzJ3 : jp = jN3 := by omega
      clear hjN3 ec3
      subst hzJ3
      go_wp2_with fail
      refine wp_region_any (by kernel_rfl) ?_
      try (change wpAny _ _ _ _ _ _ _ (World.drew _))
      refine wpAny_take (i := 0) (v := ?_) (by simp only [List.getElem?_toArray, List.getElem?_cons_succ, List.getElem?_cons_zero]; rfl) (by kernel_rfl) (by kernel_rfl) (by kernel_rfl) ?hQ21 (Or.inl ⟨by rfl, ?hy21⟩) ?main21
      case hQ21 => exact fun _ _ _ h => h
      case hy21 => ((intro w; go_simp); try with_reducible rfl)
      simp only [Act.put, zs1, zs2, zs3, List.toList_toArray]
      refine wpAny_take (i := 1) (v := ?_) (by simp only [List.getElem?_toArray, List.getElem?_cons_succ, List.getElem?_cons_zero]; rfl) (by kernel_rfl) (by kernel_rfl) (by kernel_rfl) ?hQ22 (Or.inl ⟨by rfl, ?hy22⟩) ?main22
      case hQ22 => exact fun _ _ _ h => h
      case hy22 => ((intro w; go_simp); try with_reducible rfl)
      simp only [Act.put, zs1, zs2, zs3, List.toList_toArray]
      refine wpAny_take (i := 2) (v := ?_) (by simp only [List.getElem?_toArray, List.getElem?_cons_succ, List.getElem?_cons_zero]; rfl) (by kernel_rfl) (by kernel_rfl) (by kernel_rfl) ?hQ23 (Or.inl ⟨by rfl, ?hy23⟩) ?main23
      case hQ23 => exact fun _ _ _ h => h
      case hy23 => ((intro w; go_simp); try with_reducible rfl)
      simp only [Act.put, zs1, zs2, zs3, List.toList_toArray]
      refine wpAny_take (i := 3) (v := ?_) (by simp only [List.getElem?_toArray, List.getElem?_cons_succ, List.getElem?_cons_zero]; rfl) (by kernel_rfl) (by kernel_rfl) (by kernel_rfl) ?hQ24 (Or.inl ⟨by rfl, ?hy24⟩) ?main24
      case hQ24 => exact fun _ _ _ h => h
      case hy24 => ((intro w; go_simp); try with_reducible rfl)
      simp only [Act.put, zs1, zs2, zs3, List.toList_toArray]
      refine wpAny_take (i := 4) (v := ?_) (by simp only [List.getElem?_toArray, List.getElem?_cons_succ, List.getElem?_cons_zero]; rfl) (by kernel_rfl) (by kernel_rfl) (by kernel_rfl) ?hQ25 (Or.inl ⟨by rfl, ?hy25⟩) ?main25
      case hQ25 => exact fun _ _ _ h => h
      case hy25 => ((intro w; go_simp); try with_reducible rfl)
      simp only [Act.put, zs1, zs2, zs3, List.toList_toArray]
      refine wpAny_take (i := 5) (v := ?_) (by simp only [List.getElem?_toArray, List.getElem?_cons_succ, List.getElem?_cons_zero]; rfl) (by kernel_rfl) (by kernel_rfl) (by kernel_rfl) ?hQ26 (Or.inl ⟨by rfl, ?hy26⟩) ?main26
      case hQ26 => exact fun _ _ _ h => h
      case hy26 => ((intro w; go_simp); try with_reducible rfl)
      simp only [Act.put, zs1, zs2, zs3, List.toList_toArray]
      refine wpAny_take (i := 6) (v := ?_) (by simp only [List.getElem?_toArray, List.getElem?_cons_succ, List.getElem?_cons_zero]; rfl) (by kernel_rfl) (by kernel_rfl) (by kernel_rfl) ?hQ27 (Or.inl ⟨by rfl, ?hy27⟩) ?main27
      case hQ27 => exact fun _ _ _ h => h
      case hy27 => ((intro w; go_simp); try with_reducible rfl)
      simp only [Act.put, zs1, zs2, zs3, List.toList_toArray]
      refine wpAny_take (i := 7) (v := ?_) (by simp only [List.getElem?_toArray, List.getElem?_cons_succ, List.getElem?_cons_zero]; rfl) (by kernel_rfl) (by kernel_rfl) (by kernel_rfl) ?hQ28 (Or.inl ⟨by rfl, ?hy28⟩) ?main28
      case hQ28 => exact fun _ _ _ h => h
      case hy28 => ((intro w; go_simp); try with_reducible rfl)
      simp only [Act.put, zs1, zs2, zs3, List.toList_toArray]
      refine wpAny_take (i := 8) (v := ?_) (by simp only [List.getElem?_toArray, List.getElem?_cons_succ, List.getElem?_cons_zero]; rfl) (by kernel_rfl) (by kernel_rfl) (by kernel_rfl) ?hQ29 (Or.inl ⟨by rfl, ?hy29⟩) ?main29
      case hQ29 => exact fun _ _ _ h => h
      case hy29 => ((intro w; go_simp); try with_reducible rfl)
      simp only [Act.put, zs1, zs2, zs3, List.toList_toArray]
      refine wpAny_take (i := 10) (v := ?_) (by simp only [List.getElem?_toArray, List.getElem?_cons_succ, List.getElem?_cons_zero]; rfl) (by kernel_rfl) (by kernel_rfl) (by kernel_rfl) ?hQ30 (Or.inl ⟨by rfl, ?hy30⟩) ?main30
      case hQ30 => exact fun _ _ _ h => h
      case hy30 => ((intro w; go_simp); try with_reducible rfl)
      simp only [Act.put, zs1, zs2, zs3, List.toList_toArray]
      refine wpAny_take (i := 11) (v := ?_) (by simp only [List.getElem?_toArray, List.getElem?_cons_succ, List.getElem?_cons_zero]; rfl) (by kernel_rfl) (by kernel_rfl) (by kernel_rfl) ?hQ31 (Or.inl ⟨by rfl, ?hy31⟩) ?main31
      case hQ31 => exact fun _ _ _ h => h
      case hy31 => ((intro w; go_simp); try with_reducible rfl)
      simp only [Act.put, zs1, zs2, zs3, List.toList_toArray]
      refine wpAny_take (i := 12) (v := ?_) (by simp only [List.getElem?_toArray, List.getElem?_cons_succ, List.getElem?_cons_zero]; rfl) (by kernel_rfl) (by kernel_rfl) (by kernel_rfl) ?hQ32 (Or.inl ⟨by rfl, ?hy32⟩) ?main32
      case hQ32 => exact fun _ _ _ h => h
      case hy32 => ((intro w; go_simp); try with_reducible rfl)
      simp only [Act.put, zs1, zs2, zs3, List.toList_toArray]
      refine any_loads2 (i := 9) (j := 13) (by simp only [List.getElem?_toArray, List.getElem?_cons_succ, List.getElem?_cons_zero]; rfl) (by simp only [List.getElem?_toArray, List.getElem?_cons_succ, List.getElem?_cons_zero]; rfl) (by kernel_rfl) (by kernel_rfl) (by kernel_rfl) rfl rfl 52 (.tmp 45) (.tmp 49) rfl rfl blk (jp * 10) (iN3 * 10) _ _ _ rfl rfl rfl rfl RB3.out RA3.out Tryz.underlying52 rfl (by kernel_rfl) (by kernel_rfl) (by decide) rfl ?_
      simp only [Act.put, zs1, zs2, zs3, List.toList_toArray]
      refine wpAny_take (i := 14) (v := ?_) (by simp only [List.getElem?_toArray, List.getElem?_cons_succ, List.getElem?_cons_zero]; rfl) (by kernel_rfl) (by kernel_rfl) (by kernel_rfl) ?hQ33 (Or.inl ⟨by rfl, ?hy33⟩) ?main33
      case hQ33 => exact fun _ _ _ h => h
      case hy33 => ((intro w; go_simp); try with_reducible rfl)
      simp only [Act.put, zs1, zs2, zs3, List.toList_toArray]
      refine any_one (i := 15) (by kernel_rfl) ?_
      refine wpOp_store_mid (by simp only [List.getElem?_toArray, List.getElem?_cons_succ, List.getElem?_cons_zero]; rfl) rfl 52 (.tmp 51) (.tmp 46) rfl blk (iN3 * 10) (peV y3).toArray rfl rfl TA3.out (by kernel_rfl) (peV_all _) ?_
      simp only [Act.put, zs1, zs2, zs3, List.toList_toArray]
      refine wpAny_take (i := 16) (v := ?_) (by simp only [List.getElem?_toArray, List.getElem?_cons_succ, List.getElem?_cons_zero]; rfl) (by kernel_rfl) (by kernel_rfl) (by kernel_rfl) ?hQ34 (Or.inl ⟨by rfl, ?hy34⟩) ?main34
      case hQ34 => exact fun _ _ _ h => h
      case hy34 => ((intro w; go_simp); try with_reducible rfl)
      simp only [Act.put, zs1, zs2, zs3, List.toList_toArray]
      refine any_one (i := 17) (by kernel_rfl) ?_
      refine wpOp_store_mid (by simp only [List.getElem?_toArray, List.getElem?_cons_succ, List.getElem?_cons_zero]; rfl) rfl 52 (.tmp 52) (.tmp 50) rfl blk (jp * 10) (peV x3).toArray rfl rfl TB3.out (by kernel_rfl) (peV_all _) ?_
      simp only [Act.put, zs1, zs2, zs3, List.toList_toArray]
      refine wpAny_done (by kernel_rfl) ?_ _
      clear RA3 RB3 TA3 TB3
      generalize ((w2.drew.setCells blk (iN3 * 10) (peV y3)).setCells blk (jp * 10) (peV x3)) = w3 at S3 ⊢
      clear ea3
      go_wp2
      go_roundg (j - 1)
      case measure => omega
      case rel => exact ⟨j - 1, swp dj j (j - 1), by first | rfl | go_num | (congr 1; omega), by omega, by omega, Nat.le_refl _, by rw [size_swp]; exact hsj, S3, (show Hid _ from by rw [← HI.out, insInner_go (ltOf cf) a j dj hja hlv]; exact rfl)⟩
     | false =>
      obtain ⟨iN4, hiN4, jN4, hjN4⟩ := nz2 j (j - 1)
      have ea4 : ((jp : Int) + 1).toNat = iN4 := by omega
      have pa4 : (0 : Int) ≤ (jp : Int) + 1 := by omega
      have ba4 : (jp : Int) + 1 < (d.size : Int) := by omega
      have ra4 : IntKind.i64.wrap ((jp : Int) + 1) = (jp : Int) + 1 := by rw [IntKind.wrap_i64]; omega
      have ec4 : ((jp : Int)).toNat = jN4 := by omega
      have pc4 : (0 : Int) ≤ (jp : Int) := by omega
      have bc4 : (jp : Int) < (d.size : Int) := by omega
      have rc4 : IntKind.i64.wrap ((jp : Int)) = (jp : Int) := by rw [IntKind.wrap_i64]; omega
      obtain ⟨x4, hx4, y4, hy4⟩ := nz2 (dj[j]!) (dj[j - 1]!)
      have KA4 : ∀ Y, PeIn (Go.Proofs.YtnplgagaoeckoaaGreat.ext wr Y) blk (iN4 * 10) x4 := fun Y => by rw [hiN4, hx4]; exact SJ.out.cl (by omega) Y
      have KB4 : ∀ Y, PeIn (Go.Proofs.YtnplgagaoeckoaaGreat.ext wr Y) blk (jN4 * 10) y4 := fun Y => by rw [hjN4, hy4]; exact SJ.out.cl (by omega) Y
      have la0 := fun y => (KA4 y).1; have la1 := fun y => (KA4 y).2.1; have la2 := fun y => (KA4 y).2.2.1; have la3 := fun y => (KA4 y).2.2.2.1; have la4 := fun y => (KA4 y).2.2.2.2.1; have la5 := fun y => (KA4 y).2.2.2.2.2.1; have la6 := fun y => (KA4 y).2.2.2.2.2.2.1; have la7 := fun y => (KA4 y).2.2.2.2.2.2.2.1; have la8 := fun y => (KA4 y).2.2.2.2.2.2.2.2.1; have la9 := fun y => (KA4 y).2.2.2.2.2.2.2.2.2
      have lb0 := fun y => (KB4 y).1; have lb1 := fun y => (KB4 y).2.1; have lb2 := fun y => (KB4 y).2.2.1; have lb3 := fun y => (KB4 y).2.2.2.1; have lb4 := fun y => (KB4 y).2.2.2.2.1; have lb5 := fun y => (KB4 y).2.2.2.2.2.1; have lb6 := fun y => (KB4 y).2.2.2.2.2.2.1; have lb7 := fun y => (KB4 y).2.2.2.2.2.2.2.1; have lb8 := fun y => (KB4 y).2.2.2.2.2.2.2.2.1; have lb9 := fun y => (KB4 y).2.2.2.2.2.2.2.2.2
      have hc4 := fun Y => HC.out (Go.Proofs.YtnplgagaoeckoaaGreat.ext wr Y) x4 y4
      have hv4 : ¬ cf x4 y4 < 0 := by rw [hx4, hy4]; exact of_decide_eq_false hlv
      have hd4 : decide (cf x4 y4 < 0) = false := decide_eq_false hv4
      clear hx4 hy4 hiN4 hjN4 KA4 KB4
      go_wp2_with fail
      refine wp_region_ext (by kernel_rfl) (by kernel_rfl) ?_
      repeat (go_big_quiet_step ((first | (go_at_fn g; with_reducible exact qe (hc4 _)))))
      refine wpQuiet_nil ?_
      intro _ hw'
      obtain ⟨gx, hw''⟩ := hw'
      subst hw''
      have S2 : Aside (SP base w0 blk cap dj (Go.Proofs.YtnplgagaoeckoaaGreat.ext wr gx)) := SJ.out.ext gx
      clear la0 la1 la2 la3 la4 la5 la6 la7 la8 la9 lb0 lb1 lb2 lb3 lb4 lb5 lb6 lb7 lb8 lb9 hc4 SJ
      generalize Go.Proofs.YtnplgagaoeckoaaGreat.ext wr gx = w2 at S2 ⊢
      clear gx
      clear ea4 ec4
      go_wp2
      go_roundg (b - (i + 1))
      case measure => omega
      case rel => exact ⟨i + 1, dj, by first | rfl | go_num | (congr 1; omega), by omega, by omega, by omega, hsj, S2, OUT.out (Or.inr hlv)⟩
    ·have hjaz : ¬ ((a : Int) < (j : Int)) := by omega
     have hjad : decide ((j : Int) > (a : Int)) = false := decide_eq_false (by omega)
     go_wp2_with fail
     go_big_region_o
     have S2 : Aside (SP base w0 blk cap dj wr.drew) := SJ.out.drew
     clear SJ
     generalize wr.drew = w2 at S2 ⊢
     go_wp2
     go_roundg (b - (i + 1))
     case measure => omega
     case rel => exact ⟨i + 1, dj, by first | rfl | go_num | (congr 1; omega), by omega, by omega, by omega, hsj, S2, OUT.out (Or.inl (by omega))⟩
  ·have HF : Hid (Sort.insertionSort (ltOf cf) d a b = dk) := by show _ = _; unfold Sort.insertionSort; rw [← HO.out, insOuter_stop _ _ _ _ _ hlt]
   have hltz : ¬ ((i : Int) < (b : Int)) := by omega
   go_wp2
   go_end0
   exact ⟨rfl, by rw [HF.out]; exact S1.out⟩

set_option maxHeartbeats 16000000 in
theorem symMergeA_p (cf : Pe → Pe → Int) (g : Nat) (cb : Array Value) (base blk cap : Nat) (n0 : Nat) (w0 : World) (eg : ∀ args w, (callFunc g args).run Tryz.prog w = .ok (.enter g args) w) (hcmp : CmpP Tryz.prog g cb cf) (hsz : n0 < 1000000000) (f a m b : Nat) (d : Array Pe) (w : World) (IH : ∀ (a m b : Nat) (d : Array Pe) (w : World), n0 = d.size → SP base w0 blk cap d w → a < m → m < b → b ≤ d.size → b - a ≤ f →
  Calls Tryz.prog 126 #[.slice (some ⟨blk, 0, none⟩) d.size cap, .int .i64 a, .int .i64 m, .int .i64 b, .func (.func g) #[] cb] w fun e w' => e = .returned (.tuple #[]) ∧ SP base w0 blk cap (symM (ltOf cf) f a m b d) w')
  (hs : n0 = d.size) (S : SP base w0 blk cap d w) (h1 : a < m) (h2 : m < b) (h3 : b ≤ d.size) (h4 : b - a ≤ f + 1) (c1 : m - a = 1) :
  Calls Tryz.prog 126 #[.slice (some ⟨blk, 0, none⟩) d.size cap, .int .i64 a, .int .i64 m, .int .i64 b, .func (.func g) #[] cb] w fun e w' => e = .returned (.tuple #[]) ∧ SP base w0 blk cap (symM (ltOf cf) (f + 1) a m b d) w' := by
 have mixed : Tryz.prog.follows .mixedOrders = true := by kernel_rfl
 have HC : Aside _ := hcmp
 have S0 : Aside _ := S
 have IH' : Aside _ := IH
 clear S hcmp IH
 have c1z : (m : Int) - (a : Int) = 1 := by omega
 have c1b : ((m : Int) - (a : Int) == 1) = true := beq_iff_eq.2 c1z
 go_enter Tryz.func126, Tryz.ntmps126
 go_wp2
 go_loopg [10, 11] (b - m) (fun g1 vi vj wr => ∃ (i j : Nat), vi = .int .i64 i ∧ vj = .int .i64 j ∧ m ≤ i ∧ i ≤ j ∧ j ≤ b ∧ j - i ≤ g1 ∧ Aside (SP base w0 blk cap d wr) ∧ Hid (∃ q, j - i ≤ q ∧ bsr (fun h => (ltOf cf) d[h]! d[a]!) q i j = bsr (fun h => (ltOf cf) d[h]! d[a]!) (b - a) (m) (b)))
 case atStart => exact ⟨m, b, rfl, rfl, Nat.le_refl _, by omega, Nat.le_refl _, Nat.le_refl _, S0, ⟨_, by omega, rfl⟩⟩
 case round =>
  clear S0
  obtain ⟨i, j, rfl, rfl, hlo, hij, hhi, hg1, S1, HB⟩ := hrel
  by_cases hlt : i < j
  ·have hltz : (i : Int) < (j : Int) := by omega
   obtain ⟨h, hh⟩ : ∃ h, h = (i + j) / 2 := ⟨_, rfl⟩
   have zh : ((i : Int) + (j : Int)) / 2 = (h : Int) := by omega
   have h5 : i ≤ h := by omega
   have h6 : h < j := by omega
   have HH : Hid (h = (i + j) / 2) := hh
   clear hh
   cases hlv : (ltOf cf) d[h]! d[a]! with
   | true =>
    as_aux_lemma =>
     have HB' : Hid (∃ q, j - (h + 1) ≤ q ∧ bsr (fun h => (ltOf cf) d[h]! d[a]!) q (h + 1) j = bsr (fun h => (ltOf cf) d[h]! d[a]!) (b - a) (m) (b)) := by
      obtain ⟨q, hq, hb⟩ := HB.out
      cases q with
      | zero => omega
      | succ q => exact ⟨q, by omega, by rw [← hb]; (conv => rhs; unfold bsr; rw [if_pos hlt, ← HH.out]); exact (if_pos (by simp [hlv])).symm⟩
     clear HB
     obtain ⟨iN5, hiN5, jN5, hjN5⟩ := nz2 h a
     have ea5 : ((h : Int)).toNat = iN5 := by omega
     have pa5 : (0 : Int) ≤ (h : Int) := by omega
     have ba5 : (h : Int) < (d.size : Int) := by omega
     have ra5 : IntKind.i64.wrap ((h : Int)) = (h : Int) := by rw [IntKind.wrap_i64]; omega
     have ec5 : ((a : Int)).toNat = jN5 := by omega
     have pc5 : (0 : Int) ≤ (a : Int) := by omega
     have bc5 : (a : Int) < (d.size : Int) := by omega
     have rc5 : IntKind.i64.wrap ((a : Int)) = (a : Int) := by rw [IntKind.wrap_i64]; omega
     obtain ⟨x5, hx5, y5, hy5⟩ := nz2 (d[h]!) (d[a]!)
     have KA5 : ∀ Y, PeIn (Go.Proofs.YtnplgagaoeckoaaGreat.ext wr Y) blk (iN5 * 10) x5 := fun Y => by rw [hiN5, hx5]; exact S1.out.cl (by omega) Y
     have KB5 : ∀ Y, PeIn (Go.Proofs.YtnplgagaoeckoaaGreat.ext wr Y) blk (jN5 * 10) y5 := fun Y => by rw [hjN5, hy5]; exact S1.out.cl (by omega) Y
     have la0 := fun y => (KA5 y).1; have la1 := fun y => (KA5 y).2.1; have la2 := fun y => (KA5 y).2.2.1; have la3 := fun y => (KA5 y).2.2.2.1; have la4 := fun y => (KA5 y).2.2.2.2.1; have la5 := fun y => (KA5 y).2.2.2.2.2.1; have la6 := fun y => (KA5 y).2.2.2.2.2.2.1; have la7 := fun y => (KA5 y).2.2.2.2.2.2.2.1; have la8 := fun y => (KA5 y).2.2.2.2.2.2.2.2.1; have la9 := fun y => (KA5 y).2.2.2.2.2.2.2.2.2
     have lb0 := fun y => (KB5 y).1; have lb1 := fun y => (KB5 y).2.1; have lb2 := fun y => (KB5 y).2.2.1; have lb3 := fun y => (KB5 y).2.2.2.1; have lb4 := fun y => (KB5 y).2.2.2.2.1; have lb5 := fun y => (KB5 y).2.2.2.2.2.1; have lb6 := fun y => (KB5 y).2.2.2.2.2.2.1; have lb7 := fun y => (KB5 y).2.2.2.2.2.2.2.1; have lb8 := fun y => (KB5 y).2.2.2.2.2.2.2.2.1; have lb9 := fun y => (KB5 y).2.2.2.2.2.2.2.2.2
     have hc5 := fun Y => HC.out (Go.Proofs.YtnplgagaoeckoaaGreat.ext wr Y) x5 y5
     have hv5 : cf x5 y5 < 0 := by rw [hx5, hy5]; exact of_decide_eq_true hlv
     have hd5 : decide (cf x5 y5 < 0) = true := decide_eq_true hv5
     clear hx5 hy5 hiN5 hjN5 KA5 KB5
     go_wp2_with fail
     refine wp_region_ext (by kernel_rfl) (by kernel_rfl) ?_
     repeat (go_big_quiet_step ((first | (go_at_fn g; with_reducible exact qe (hc5 _)))))
     refine wpQuiet_nil ?_
     intro _ hw'
     obtain ⟨gx, hw''⟩ := hw'
     subst hw''
     have S2 : Aside (SP base w0 blk cap d (Go.Proofs.YtnplgagaoeckoaaGreat.ext wr gx)) := S1.out.ext gx
     clear la0 la1 la2 la3 la4 la5 la6 la7 la8 la9 lb0 lb1 lb2 lb3 lb4 lb5 lb6 lb7 lb8 lb9 hc5 S1
     generalize Go.Proofs.YtnplgagaoeckoaaGreat.ext wr gx = w2 at S2 ⊢
     clear gx
     clear ea5 ec5
     go_wp2
     go_roundg (j - (h + 1))
     case measure => omega
     case rel => exact ⟨h + 1, j, by first | rfl | go_num | (congr 1; omega), rfl, by omega, by omega, by omega, Nat.le_refl _, S2, HB'⟩
   | false =>
    as_aux_lemma =>
     have HB' : Hid (∃ q, h - i ≤ q ∧ bsr (fun h => (ltOf cf) d[h]! d[a]!) q i h = bsr (fun h => (ltOf cf) d[h]! d[a]!) (b - a) (m) (b)) := by
      obtain ⟨q, hq, hb⟩ := HB.out
      cases q with
      | zero => omega
      | succ q => exact ⟨q, by omega, by rw [← hb]; (conv => rhs; unfold bsr; rw [if_pos hlt, ← HH.out]); exact (if_neg (by simp [hlv])).symm⟩
     clear HB
     obtain ⟨iN6, hiN6, jN6, hjN6⟩ := nz2 h a
     have ea6 : ((h : Int)).toNat = iN6 := by omega
     have pa6 : (0 : Int) ≤ (h : Int) := by omega
     have ba6 : (h : Int) < (d.size : Int) := by omega
     have ra6 : IntKind.i64.wrap ((h : Int)) = (h : Int) := by rw [IntKind.wrap_i64]; omega
     have ec6 : ((a : Int)).toNat = jN6 := by omega
     have pc6 : (0 : Int) ≤ (a : Int) := by omega
     have bc6 : (a : Int) < (d.size : Int) := by omega
     have rc6 : IntKind.i64.wrap ((a : Int)) = (a : Int) := by rw [IntKind.wrap_i64]; omega
     obtain ⟨x6, hx6, y6, hy6⟩ := nz2 (d[h]!) (d[a]!)
     have KA6 : ∀ Y, PeIn (Go.Proofs.YtnplgagaoeckoaaGreat.ext wr Y) blk (iN6 * 10) x6 := fun Y => by rw [hiN6, hx6]; exact S1.out.cl (by omega) Y
     have KB6 : ∀ Y, PeIn (Go.Proofs.YtnplgagaoeckoaaGreat.ext wr Y) blk (jN6 * 10) y6 := fun Y => by rw [hjN6, hy6]; exact S1.out.cl (by omega) Y
     have la0 := fun y => (KA6 y).1; have la1 := fun y => (KA6 y).2.1; have la2 := fun y => (KA6 y).2.2.1; have la3 := fun y => (KA6 y).2.2.2.1; have la4 := fun y => (KA6 y).2.2.2.2.1; have la5 := fun y => (KA6 y).2.2.2.2.2.1; have la6 := fun y => (KA6 y).2.2.2.2.2.2.1; have la7 := fun y => (KA6 y).2.2.2.2.2.2.2.1; have la8 := fun y => (KA6 y).2.2.2.2.2.2.2.2.1; have la9 := fun y => (KA6 y).2.2.2.2.2.2.2.2.2
     have lb0 := fun y => (KB6 y).1; have lb1 := fun y => (KB6 y).2.1; have lb2 := fun y => (KB6 y).2.2.1; have lb3 := fun y => (KB6 y).2.2.2.1; have lb4 := fun y => (KB6 y).2.2.2.2.1; have lb5 := fun y => (KB6 y).2.2.2.2.2.1; have lb6 := fun y => (KB6 y).2.2.2.2.2.2.1; have lb7 := fun y => (KB6 y).2.2.2.2.2.2.2.1; have lb8 := fun y => (KB6 y).2.2.2.2.2.2.2.2.1; have lb9 := fun y => (KB6 y).2.2.2.2.2.2.2.2.2
     have hc6 := fun Y => HC.out (Go.Proofs.YtnplgagaoeckoaaGreat.ext wr Y) x6 y6
     have hv6 : ¬ cf x6 y6 < 0 := by rw [hx6, hy6]; exact of_decide_eq_false hlv
     have hd6 : decide (cf x6 y6 < 0) = false := decide_eq_false hv6
     clear hx6 hy6 hiN6 hjN6 KA6 KB6
     go_wp2_with fail
     refine wp_region_ext (by kernel_rfl) (by kernel_rfl) ?_
     repeat (go_big_quiet_step ((first | (go_at_fn g; with_reducible exact qe (hc6 _)))))
     refine wpQuiet_nil ?_
     intro _ hw'
     obtain ⟨gx, hw''⟩ := hw'
     subst hw''
     have S2 : Aside (SP base w0 blk cap d (Go.Proofs.YtnplgagaoeckoaaGreat.ext wr gx)) := S1.out.ext gx
     clear la0 la1 la2 la3 la4 la5 la6 la7 la8 la9 lb0 lb1 lb2 lb3 lb4 lb5 lb6 lb7 lb8 lb9 hc6 S1
     generalize Go.Proofs.YtnplgagaoeckoaaGreat.ext wr gx = w2 at S2 ⊢
     clear gx
     clear ea6 ec6
     go_wp2
     go_roundg (h - i)
     case measure => omega
     case rel => exact ⟨i, h, rfl, by first | rfl | go_num | (congr 1; omega), by omega, by omega, by omega, Nat.le_refl _, S2, HB'⟩
  ·obtain rfl : i = j := by omega
   have HR : Hid (bsr (fun h => (ltOf cf) d[h]! d[a]!) (b - a) (m) (b) = i) := by
    obtain ⟨q, hq, hb⟩ := HB.out
    show _ = _
    rw [← hb]; cases q with
    | zero => rfl
    | succ q => unfold bsr; rw [if_neg (by omega)]
   clear HB
   go_wp2
   go_loopg [13] (i - 1 - a) (fun g1 vk wr => ∃ (k : Nat) (dk : Array Pe), vk = .int .i64 k ∧ a ≤ k ∧ k ≤ i - 1 ∧ i - 1 - k ≤ g1 ∧ dk.size = d.size ∧ Aside (SP base w0 blk cap dk wr) ∧ Hid (upA (i - 1 - k) k dk = upA (i - 1 - a) a d))
   case atStart => exact ⟨a, d, rfl, Nat.le_refl _, by omega, Nat.le_refl _, rfl, S1, rfl⟩
   case round =>
    clear S1
    obtain ⟨k, dk, rfl, hak, hki, hg1, hsk, S1, HO⟩ := hrel
    by_cases hkl : k < i - 1
    ·have hklz : (k : Int) < (i : Int) - 1 := by omega
     obtain ⟨iN7, hiN7, jN7, hjN7⟩ := nz2 k (k + 1)
     have ea7 : ((k : Int)).toNat = iN7 := by omega
     have pa7 : (0 : Int) ≤ (k : Int) := by omega
     have ba7 : (k : Int) < (d.size : Int) := by omega
     have ra7 : IntKind.i64.wrap ((k : Int)) = (k : Int) := by rw [IntKind.wrap_i64]; omega
     have ec7 : ((k : Int) + 1).toNat = jN7 := by omega
     have pc7 : (0 : Int) ≤ (k : Int) + 1 := by omega
     have bc7 : (k : Int) + 1 < (d.size : Int) := by omega
     have rc7 : IntKind.i64.wrap ((k : Int) + 1) = (k : Int) + 1 := by rw [IntKind.wrap_i64]; omega
     obtain ⟨x7, hx7, y7, hy7⟩ := nz2 (dk[k]!) (dk[k + 1]!)
     have S3 : Aside (SP base w0 blk cap (swp dk (k) (k + 1)) ((wr.drew.setCells blk (iN7 * 10) (peV y7)).setCells blk (jN7 * 10) (peV x7))) := by rw [hiN7, hjN7, hx7, hy7]; exact S1.out.drew.swapped2 (i := k) (j := k + 1) (by omega) (by omega)
     have RA7 : Hid (wr.drew.rangeAt blk (iN7 * 10) (peV x7)) := by show World.rangeAt _ _ _ _; rw [hiN7, hx7]; exact S1.out.drew.range (by omega)
     have RB7 : Hid (wr.drew.rangeAt blk (jN7 * 10) (peV y7)) := by show World.rangeAt _ _ _ _; rw [hjN7, hy7]; exact S1.out.drew.range (by omega)
     have TA7 : Hid (wr.drew.there blk (iN7 * 10) 10) := by show World.there _ _ _ _; rw [hiN7]; exact S1.out.drew.there (by omega)
     have TB7 : Hid ((wr.drew.setCells blk (iN7 * 10) (peV y7)).there blk (jN7 * 10) 10) := by show World.there _ _ _ _; rw [hiN7, hjN7]; exact S1.out.drew.there2 (by omega) (by omega) _
     clear S1 hx7 hy7
     have hzI7 : k = iN7 := by omega
     clear hiN7 ea7
     subst hzI7
     clear hjN7
     go_wp2_with fail
     refine wp_region_any (by kernel_rfl) ?_
     try (change wpAny _ _ _ _ _ _ _ (World.drew _))
     refine wpAny_take (i := 0) (v := ?_) (by simp only [List.getElem?_toArray, List.getElem?_cons_succ, List.getElem?_cons_zero]; rfl) (by kernel_rfl) (by kernel_rfl) (by kernel_rfl) ?hQ35 (Or.inl ⟨by rfl, ?hy35⟩) ?main35
     case hQ35 => exact fun _ _ _ h => h
     case hy35 => ((intro w; go_simp); try with_reducible rfl)
     simp only [Act.put, zs1, zs2, zs3, List.toList_toArray]
     refine wpAny_take (i := 1) (v := ?_) (by simp only [List.getElem?_toArray, List.getElem?_cons_succ, List.getElem?_cons_zero]; rfl) (by kernel_rfl) (by kernel_rfl) (by kernel_rfl) ?hQ36 (Or.inl ⟨by rfl, ?hy36⟩) ?main36
     case hQ36 => exact fun _ _ _ h => h
     case hy36 => ((intro w; go_simp); try with_reducible rfl)
     simp only [Act.put, zs1, zs2, zs3, List.toList_toArray]
     refine wpAny_take (i := 2) (v := ?_) (by simp only [List.getElem?_toArray, List.getElem?_cons_succ, List.getElem?_cons_zero]; rfl) (by kernel_rfl) (by kernel_rfl) (by kernel_rfl) ?hQ37 (Or.inl ⟨by rfl, ?hy37⟩) ?main37
     case hQ37 => exact fun _ _ _ h => h
     case hy37 => ((intro w; go_simp); try with_reducible rfl)
     simp only [Act.put, zs1, zs2, zs3, List.toList_toArray]
     refine wpAny_take (i := 3) (v := ?_) (by simp only [List.getElem?_toArray, List.getElem?_cons_succ, List.getElem?_cons_zero]; rfl) (by kernel_rfl) (by kernel_rfl) (by kernel_rfl) ?hQ38 (Or.inl ⟨by rfl, ?hy38⟩) ?main38
     case hQ38 => exact fun _ _ _ h => h
     case hy38 => ((intro w; go_simp); try with_reducible rfl)
     simp only [Act.put, zs1, zs2, zs3, List.toList_toArray]
     refine wpAny_take (i := 4) (v := ?_) (by simp only [List.getElem?_toArray, List.getElem?_cons_succ, List.getElem?_cons_zero]; rfl) (by kernel_rfl) (by kernel_rfl) (by kernel_rfl) ?hQ39 (Or.inl ⟨by rfl, ?hy39⟩) ?main39
     case hQ39 => exact fun _ _ _ h => h
     case hy39 => ((intro w; go_simp); try with_reducible rfl)
     simp only [Act.put, zs1, zs2, zs3, List.toList_toArray]
     refine wpAny_take (i := 5) (v := ?_) (by simp only [List.getElem?_toArray, List.getElem?_cons_succ, List.getElem?_cons_zero]; rfl) (by kernel_rfl) (by kernel_rfl) (by kernel_rfl) ?hQ40 (Or.inl ⟨by rfl, ?hy40⟩) ?main40
     case hQ40 => exact fun _ _ _ h => h
     case hy40 => ((intro w; go_simp); try with_reducible rfl)
     simp only [Act.put, zs1, zs2, zs3, List.toList_toArray]
     refine wpAny_take (i := 6) (v := ?_) (by simp only [List.getElem?_toArray, List.getElem?_cons_succ, List.getElem?_cons_zero]; rfl) (by kernel_rfl) (by kernel_rfl) (by kernel_rfl) ?hQ41 (Or.inl ⟨by rfl, ?hy41⟩) ?main41
     case hQ41 => exact fun _ _ _ h => h
     case hy41 => ((intro w; go_simp); try with_reducible rfl)
     simp only [Act.put, zs1, zs2, zs3, List.toList_toArray]
     refine wpAny_take (i := 7) (v := ?_) (by simp only [List.getElem?_toArray, List.getElem?_cons_succ, List.getElem?_cons_zero]; rfl) (by kernel_rfl) (by kernel_rfl) (by kernel_rfl) ?hQ42 (Or.inl ⟨by rfl, ?hy42⟩) ?main42
     case hQ42 => exact fun _ _ _ h => h
     case hy42 => ((intro w; go_simp); try with_reducible rfl)
     simp only [Act.put, zs1, zs2, zs3, List.toList_toArray]
     refine wpAny_take (i := 8) (v := ?_) (by simp only [List.getElem?_toArray, List.getElem?_cons_succ, List.getElem?_cons_zero]; rfl) (by kernel_rfl) (by kernel_rfl) (by kernel_rfl) ?hQ43 (Or.inl ⟨by rfl, ?hy43⟩) ?main43
     case hQ43 => exact fun _ _ _ h => h
     case hy43 => ((intro w; go_simp); try with_reducible rfl)
     simp only [Act.put, zs1, zs2, zs3, List.toList_toArray]
     refine wpAny_take (i := 10) (v := ?_) (by simp only [List.getElem?_toArray, List.getElem?_cons_succ, List.getElem?_cons_zero]; rfl) (by kernel_rfl) (by kernel_rfl) (by kernel_rfl) ?hQ44 (Or.inl ⟨by rfl, ?hy44⟩) ?main44
     case hQ44 => exact fun _ _ _ h => h
     case hy44 => ((intro w; go_simp); try with_reducible rfl)
     simp only [Act.put, zs1, zs2, zs3, List.toList_toArray]
     refine wpAny_take (i := 11) (v := ?_) (by simp only [List.getElem?_toArray, List.getElem?_cons_succ, List.getElem?_cons_zero]; rfl) (by kernel_rfl) (by kernel_rfl) (by kernel_rfl) ?hQ45 (Or.inl ⟨by rfl, ?hy45⟩) ?main45
     case hQ45 => exact fun _ _ _ h => h
     case hy45 => ((intro w; go_simp); try with_reducible rfl)
     simp only [Act.put, zs1, zs2, zs3, List.toList_toArray]
     refine wpAny_take (i := 12) (v := ?_) (by simp only [List.getElem?_toArray, List.getElem?_cons_succ, List.getElem?_cons_zero]; rfl) (by kernel_rfl) (by kernel_rfl) (by kernel_rfl) ?hQ46 (Or.inl ⟨by rfl, ?hy46⟩) ?main46
     case hQ46 => exact fun _ _ _ h => h
     case hy46 => ((intro w; go_simp); try with_reducible rfl)
     simp only [Act.put, zs1, zs2, zs3, List.toList_toArray]
     refine any_loads2 (i := 9) (j := 13) (by simp only [List.getElem?_toArray, List.getElem?_cons_succ, List.getElem?_cons_zero]; rfl) (by simp only [List.getElem?_toArray, List.getElem?_cons_succ, List.getElem?_cons_zero]; rfl) (by kernel_rfl) (by kernel_rfl) (by kernel_rfl) rfl rfl 52 (.tmp 69) (.tmp 73) rfl rfl blk (jN7 * 10) (k * 10) _ _ _ rfl rfl rfl rfl RB7.out RA7.out Tryz.underlying52 rfl (by kernel_rfl) (by kernel_rfl) (by decide) rfl ?_
     simp only [Act.put, zs1, zs2, zs3, List.toList_toArray]
     refine wpAny_take (i := 14) (v := ?_) (by simp only [List.getElem?_toArray, List.getElem?_cons_succ, List.getElem?_cons_zero]; rfl) (by kernel_rfl) (by kernel_rfl) (by kernel_rfl) ?hQ47 (Or.inl ⟨by rfl, ?hy47⟩) ?main47
     case hQ47 => exact fun _ _ _ h => h
     case hy47 => ((intro w; go_simp); try with_reducible rfl)
     simp only [Act.put, zs1, zs2, zs3, List.toList_toArray]
     refine any_one (i := 15) (by kernel_rfl) ?_
     refine wpOp_store_mid (by simp only [List.getElem?_toArray, List.getElem?_cons_succ, List.getElem?_cons_zero]; rfl) rfl 52 (.tmp 75) (.tmp 70) rfl blk (k * 10) (peV y7).toArray rfl rfl TA7.out (by kernel_rfl) (peV_all _) ?_
     simp only [Act.put, zs1, zs2, zs3, List.toList_toArray]
     refine wpAny_take (i := 16) (v := ?_) (by simp only [List.getElem?_toArray, List.getElem?_cons_succ, List.getElem?_cons_zero]; rfl) (by kernel_rfl) (by kernel_rfl) (by kernel_rfl) ?hQ48 (Or.inl ⟨by rfl, ?hy48⟩) ?main48
     case hQ48 => exact fun _ _ _ h => h
     case hy48 => ((intro w; go_simp); try with_reducible rfl)
     simp only [Act.put, zs1, zs2, zs3, List.toList_toArray]
     refine any_one (i := 17) (by kernel_rfl) ?_
     refine wpOp_store_mid (by simp only [List.getElem?_toArray, List.getElem?_cons_succ, List.getElem?_cons_zero]; rfl) rfl 52 (.tmp 76) (.tmp 74) rfl blk (jN7 * 10) (peV x7).toArray rfl rfl TB7.out (by kernel_rfl) (peV_all _) ?_
     simp only [Act.put, zs1, zs2, zs3, List.toList_toArray]
     refine wpAny_done (by kernel_rfl) ?_ _
     clear RA7 RB7 TA7 TB7
     generalize ((wr.drew.setCells blk (k * 10) (peV y7)).setCells blk (jN7 * 10) (peV x7)) = w3 at S3 ⊢
     clear ec7
     go_wp2
     go_roundg (i - 1 - (k + 1))
     case measure => omega
     case rel => exact ⟨k + 1, swp dk k (k + 1), by first | rfl | go_num | (congr 1; omega), by omega, by omega, Nat.le_refl _, by rw [size_swp]; exact hsk, S3, (show Hid _ from by rw [← HO.out, show i - 1 - k = (i - 1 - (k + 1)) + 1 by omega]; exact rfl)⟩
    ·have hklz : ¬ ((k : Int) < (i : Int) - 1) := by omega
     have HF : Hid (symM (ltOf cf) (f + 1) a m b d = dk) := by show _ = _; unfold symM; rw [if_pos c1, HR.out, ← HO.out, show i - 1 - k = 0 by omega]; rfl
     go_wp2
     ((try simp only [Exit.inBlock, Exit.then]); first | refine bodyPost_end (results_none rfl _ _ _) rfl ?_ | refine bodyPost_ret (results_none rfl _ _ _) rfl ?_)
     exact ⟨rfl, by rw [HF.out]; exact S1.out⟩

set_option maxHeartbeats 16000000 in
theorem symMergeB_p (cf : Pe → Pe → Int) (g : Nat) (cb : Array Value) (base blk cap : Nat) (n0 : Nat) (w0 : World) (eg : ∀ args w, (callFunc g args).run Tryz.prog w = .ok (.enter g args) w) (hcmp : CmpP Tryz.prog g cb cf) (hsz : n0 < 1000000000) (f a m b : Nat) (d : Array Pe) (w : World) (IH : ∀ (a m b : Nat) (d : Array Pe) (w : World), n0 = d.size → SP base w0 blk cap d w → a < m → m < b → b ≤ d.size → b - a ≤ f →
  Calls Tryz.prog 126 #[.slice (some ⟨blk, 0, none⟩) d.size cap, .int .i64 a, .int .i64 m, .int .i64 b, .func (.func g) #[] cb] w fun e w' => e = .returned (.tuple #[]) ∧ SP base w0 blk cap (symM (ltOf cf) f a m b d) w')
  (hs : n0 = d.size) (S : SP base w0 blk cap d w) (h1 : a < m) (h2 : m < b) (h3 : b ≤ d.size) (h4 : b - a ≤ f + 1) (c1 : ¬ m - a = 1) (c2 : b - m = 1) :
  Calls Tryz.prog 126 #[.slice (some ⟨blk, 0, none⟩) d.size cap, .int .i64 a, .int .i64 m, .int .i64 b, .func (.func g) #[] cb] w fun e w' => e = .returned (.tuple #[]) ∧ SP base w0 blk cap (symM (ltOf cf) (f + 1) a m b d) w' := by
 have mixed : Tryz.prog.follows .mixedOrders = true := by kernel_rfl
 have HC : Aside _ := hcmp
 have S0 : Aside _ := S
 have IH' : Aside _ := IH
 clear S hcmp IH
 have c1z : ¬ ((m : Int) - (a : Int) = 1) := by omega
 have c1b : ((m : Int) - (a : Int) == 1) = false := beq_eq_false_iff_ne.2 c1z
 have c2z : (b : Int) - (m : Int) = 1 := by omega
 have c2b : ((b : Int) - (m : Int) == 1) = true := beq_iff_eq.2 c2z
 go_enter Tryz.func126, Tryz.ntmps126
 go_wp2
 go_loopg [14, 15] (m - a) (fun g1 vi vj wr => ∃ (i j : Nat), vi = .int .i64 i ∧ vj = .int .i64 j ∧ a ≤ i ∧ i ≤ j ∧ j ≤ m ∧ j - i ≤ g1 ∧ Aside (SP base w0 blk cap d wr) ∧ Hid (∃ q, j - i ≤ q ∧ bsr (fun h => !(ltOf cf) d[m]! d[h]!) q i j = bsr (fun h => !(ltOf cf) d[m]! d[h]!) (b - a) (a) (m)))
 case atStart => exact ⟨a, m, rfl, rfl, Nat.le_refl _, by omega, Nat.le_refl _, Nat.le_refl _, S0, ⟨_, by omega, rfl⟩⟩
 case round =>
  clear S0
  obtain ⟨i, j, rfl, rfl, hlo, hij, hhi, hg1, S1, HB⟩ := hrel
  by_cases hlt : i < j
  ·have hltz : (i : Int) < (j : Int) := by omega
   obtain ⟨h, hh⟩ : ∃ h, h = (i + j) / 2 := ⟨_, rfl⟩
   have zh : ((i : Int) + (j : Int)) / 2 = (h : Int) := by omega
   have h5 : i ≤ h := by omega
   have h6 : h < j := by omega
   have HH : Hid (h = (i + j) / 2) := hh
   clear hh
   cases hlv : (ltOf cf) d[m]! d[h]! with
   | true =>
    as_aux_lemma =>
     have HB' : Hid (∃ q, h - i ≤ q ∧ bsr (fun h => !(ltOf cf) d[m]! d[h]!) q i h = bsr (fun h => !(ltOf cf) d[m]! d[h]!) (b - a) (a) (m)) := by
      obtain ⟨q, hq, hb⟩ := HB.out
      cases q with
      | zero => omega
      | succ q => exact ⟨q, by omega, by rw [← hb]; (conv => rhs; unfold bsr; rw [if_pos hlt, ← HH.out]); exact (if_neg (by simp [hlv])).symm⟩
     clear HB
     obtain ⟨iN8, hiN8, jN8, hjN8⟩ := nz2 m h
     have ea8 : ((m : Int)).toNat = iN8 := by omega
     have pa8 : (0 : Int) ≤ (m : Int) := by omega
     have ba8 : (m : Int) < (d.size : Int) := by omega
     have ra8 : IntKind.i64.wrap ((m : Int)) = (m : Int) := by rw [IntKind.wrap_i64]; omega
     have ec8 : ((h : Int)).toNat = jN8 := by omega
     have pc8 : (0 : Int) ≤ (h : Int) := by omega
     have bc8 : (h : Int) < (d.size : Int) := by omega
     have rc8 : IntKind.i64.wrap ((h : Int)) = (h : Int) := by rw [IntKind.wrap_i64]; omega
     obtain ⟨x8, hx8, y8, hy8⟩ := nz2 (d[m]!) (d[h]!)
     have KA8 : ∀ Y, PeIn (Go.Proofs.YtnplgagaoeckoaaGreat.ext wr Y) blk (iN8 * 10) x8 := fun Y => by rw [hiN8, hx8]; exact S1.out.cl (by omega) Y
     have KB8 : ∀ Y, PeIn (Go.Proofs.YtnplgagaoeckoaaGreat.ext wr Y) blk (jN8 * 10) y8 := fun Y => by rw [hjN8, hy8]; exact S1.out.cl (by omega) Y
     have la0 := fun y => (KA8 y).1; have la1 := fun y => (KA8 y).2.1; have la2 := fun y => (KA8 y).2.2.1; have la3 := fun y => (KA8 y).2.2.2.1; have la4 := fun y => (KA8 y).2.2.2.2.1; have la5 := fun y => (KA8 y).2.2.2.2.2.1; have la6 := fun y => (KA8 y).2.2.2.2.2.2.1; have la7 := fun y => (KA8 y).2.2.2.2.2.2.2.1; have la8 := fun y => (KA8 y).2.2.2.2.2.2.2.2.1; have la9 := fun y => (KA8 y).2.2.2.2.2.2.2.2.2
     have lb0 := fun y => (KB8 y).1; have lb1 := fun y => (KB8 y).2.1; have lb2 := fun y => (KB8 y).2.2.1; have lb3 := fun y => (KB8 y).2.2.2.1; have lb4 := fun y => (KB8 y).2.2.2.2.1; have lb5 := fun y => (KB8 y).2.2.2.2.2.1; have lb6 := fun y => (KB8 y).2.2.2.2.2.2.1; have lb7 := fun y => (KB8 y).2.2.2.2.2.2.2.1; have lb8 := fun y => (KB8 y).2.2.2.2.2.2.2.2.1; have lb9 := fun y => (KB8 y).2.2.2.2.2.2.2.2.2
     have hc8 := fun Y => HC.out (Go.Proofs.YtnplgagaoeckoaaGreat.ext wr Y) x8 y8
     have hv8 : cf x8 y8 < 0 := by rw [hx8, hy8]; exact of_decide_eq_true hlv
     have hd8 : decide (cf x8 y8 < 0) = true := decide_eq_true hv8
     clear hx8 hy8 hiN8 hjN8 KA8 KB8
     go_wp2_with fail
     refine wp_region_ext (by kernel_rfl) (by kernel_rfl) ?_
     repeat (go_big_quiet_step ((first | (go_at_fn g; with_reducible exact qe (hc8 _)))))
     refine wpQuiet_nil ?_
     intro _ hw'
     obtain ⟨gx, hw''⟩ := hw'
     subst hw''
     have S2 : Aside (SP base w0 blk cap d (Go.Proofs.YtnplgagaoeckoaaGreat.ext wr gx)) := S1.out.ext gx
     clear la0 la1 la2 la3 la4 la5 la6 la7 la8 la9 lb0 lb1 lb2 lb3 lb4 lb5 lb6 lb7 lb8 lb9 hc8 S1
     generalize Go.Proofs.YtnplgagaoeckoaaGreat.ext wr gx = w2 at S2 ⊢
     clear gx
     clear ea8 ec8
     go_wp2
     go_roundg (h - i)
     case measure => omega
     case rel => exact ⟨i, h, rfl, by first | rfl | go_num | (congr 1; omega), by omega, by omega, by omega, Nat.le_refl _, S2, HB'⟩
   | false =>
    as_aux_lemma =>
     have HB' : Hid (∃ q, j - (h + 1) ≤ q ∧ bsr (fun h => !(ltOf cf) d[m]! d[h]!) q (h + 1) j = bsr (fun h => !(ltOf cf) d[m]! d[h]!) (b - a) (a) (m)) := by
      obtain ⟨q, hq, hb⟩ := HB.out
      cases q with
      | zero => omega
      | succ q => exact ⟨q, by omega, by rw [← hb]; (conv => rhs; unfold bsr; rw [if_pos hlt, ← HH.out]); exact (if_pos (by simp [hlv])).symm⟩
     clear HB
     obtain ⟨iN9, hiN9, jN9, hjN9⟩ := nz2 m h
     have ea9 : ((m : Int)).toNat = iN9 := by omega
     have pa9 : (0 : Int) ≤ (m : Int) := by omega
     have ba9 : (m : Int) < (d.size : Int) := by omega
     have ra9 : IntKind.i64.wrap ((m : Int)) = (m : Int) := by rw [IntKind.wrap_i64]; omega
     have ec9 : ((h : Int)).toNat = jN9 := by omega
     have pc9 : (0 : Int) ≤ (h : Int) := by omega
     have bc9 : (h : Int) < (d.size : Int) := by omega
     have rc9 : IntKind.i64.wrap ((h : Int)) = (h : Int) := by rw [IntKind.wrap_i64]; omega
     obtain ⟨x9, hx9, y9, hy9⟩ := nz2 (d[m]!) (d[h]!)
     have KA9 : ∀ Y, PeIn (Go.Proofs.YtnplgagaoeckoaaGreat.ext wr Y) blk (iN9 * 10) x9 := fun Y => by rw [hiN9, hx9]; exact S1.out.cl (by omega) Y
     have KB9 : ∀ Y, PeIn (Go.Proofs.YtnplgagaoeckoaaGreat.ext wr Y) blk (jN9 * 10) y9 := fun Y => by rw [hjN9, hy9]; exact S1.out.cl (by omega) Y
     have la0 := fun y => (KA9 y).1; have la1 := fun y => (KA9 y).2.1; have la2 := fun y => (KA9 y).2.2.1; have la3 := fun y => (KA9 y).2.2.2.1; have la4 := fun y => (KA9 y).2.2.2.2.1; have la5 := fun y => (KA9 y).2.2.2.2.2.1; have la6 := fun y => (KA9 y).2.2.2.2.2.2.1; have la7 := fun y => (KA9 y).2.2.2.2.2.2.2.1; have la8 := fun y => (KA9 y).2.2.2.2.2.2.2.2.1; have la9 := fun y => (KA9 y).2.2.2.2.2.2.2.2.2
     have lb0 := fun y => (KB9 y).1; have lb1 := fun y => (KB9 y).2.1; have lb2 := fun y => (KB9 y).2.2.1; have lb3 := fun y => (KB9 y).2.2.2.1; have lb4 := fun y => (KB9 y).2.2.2.2.1; have lb5 := fun y => (KB9 y).2.2.2.2.2.1; have lb6 := fun y => (KB9 y).2.2.2.2.2.2.1; have lb7 := fun y => (KB9 y).2.2.2.2.2.2.2.1; have lb8 := fun y => (KB9 y).2.2.2.2.2.2.2.2.1; have lb9 := fun y => (KB9 y).2.2.2.2.2.2.2.2.2
     have hc9 := fun Y => HC.out (Go.Proofs.YtnplgagaoeckoaaGreat.ext wr Y) x9 y9
     have hv9 : ¬ cf x9 y9 < 0 := by rw [hx9, hy9]; exact of_decide_eq_false hlv
     have hd9 : decide (cf x9 y9 < 0) = false := decide_eq_false hv9
     clear hx9 hy9 hiN9 hjN9 KA9 KB9
     go_wp2_with fail
     refine wp_region_ext (by kernel_rfl) (by kernel_rfl) ?_
     repeat (go_big_quiet_step ((first | (go_at_fn g; with_reducible exact qe (hc9 _)))))
     refine wpQuiet_nil ?_
     intro _ hw'
     obtain ⟨gx, hw''⟩ := hw'
     subst hw''
     have S2 : Aside (SP base w0 blk cap d (Go.Proofs.YtnplgagaoeckoaaGreat.ext wr gx)) := S1.out.ext gx
     clear la0 la1 la2 la3 la4 la5 la6 la7 la8 la9 lb0 lb1 lb2 lb3 lb4 lb5 lb6 lb7 lb8 lb9 hc9 S1
     generalize Go.Proofs.YtnplgagaoeckoaaGreat.ext wr gx = w2 at S2 ⊢
     clear gx
     clear ea9 ec9
     go_wp2
     go_roundg (j - (h + 1))
     case measure => omega
     case rel => exact ⟨h + 1, j, by first | rfl | go_num | (congr 1; omega), rfl, by omega, by omega, by omega, Nat.le_refl _, S2, HB'⟩
  ·obtain rfl : i = j := by omega
   have HR : Hid (bsr (fun h => !(ltOf cf) d[m]! d[h]!) (b - a) (a) (m) = i) := by
    obtain ⟨q, hq, hb⟩ := HB.out
    show _ = _
    rw [← hb]; cases q with
    | zero => rfl
    | succ q => unfold bsr; rw [if_neg (by omega)]
   clear HB
   go_wp2
   go_loopg [17] (m - i) (fun g1 vk wr => ∃ (k : Nat) (dk : Array Pe), vk = .int .i64 k ∧ i ≤ k ∧ k ≤ m ∧ k - i ≤ g1 ∧ dk.size = d.size ∧ Aside (SP base w0 blk cap dk wr) ∧ Hid (downA (k - i) k dk = downA (m - i) m d))
   case atStart => exact ⟨m, d, rfl, by omega, Nat.le_refl _, Nat.le_refl _, rfl, S1, rfl⟩
   case round =>
    clear S1
    obtain ⟨k, dk, rfl, hik, hkm, hg1, hsk, S1, HO⟩ := hrel
    by_cases hkl : i < k
    ·have hklz : (i : Int) < (k : Int) := by omega
     obtain ⟨kp, hkp⟩ : ∃ q, q + 1 = k := ⟨k - 1, by omega⟩
     have zkp : (k : Int) = (kp : Int) + 1 := by omega
     have hklz' : (i : Int) < (kp : Int) + 1 := by omega
     obtain ⟨iN10, hiN10, jN10, hjN10⟩ := nz2 k (k - 1)
     have ea10 : ((kp : Int) + 1).toNat = iN10 := by omega
     have pa10 : (0 : Int) ≤ (kp : Int) + 1 := by omega
     have ba10 : (kp : Int) + 1 < (d.size : Int) := by omega
     have ra10 : IntKind.i64.wrap ((kp : Int) + 1) = (kp : Int) + 1 := by rw [IntKind.wrap_i64]; omega
     have ec10 : ((kp : Int)).toNat = jN10 := by omega
     have pc10 : (0 : Int) ≤ (kp : Int) := by omega
     have bc10 : (kp : Int) < (d.size : Int) := by omega
     have rc10 : IntKind.i64.wrap ((kp : Int)) = (kp : Int) := by rw [IntKind.wrap_i64]; omega
     obtain ⟨x10, hx10, y10, hy10⟩ := nz2 (dk[k]!) (dk[k - 1]!)
     have S3 : Aside (SP base w0 blk cap (swp dk (k) (k - 1)) ((wr.drew.setCells blk (iN10 * 10) (peV y10)).setCells blk (jN10 * 10) (peV x10))) := by rw [hiN10, hjN10, hx10, hy10]; exact S1.out.drew.swapped2 (i := k) (j := k - 1) (by omega) (by omega)
     have RA10 : Hid (wr.drew.rangeAt blk (iN10 * 10) (peV x10)) := by show World.rangeAt _ _ _ _; rw [hiN10, hx10]; exact S1.out.drew.range (by omega)
     have RB10 : Hid (wr.drew.rangeAt blk (jN10 * 10) (peV y10)) := by show World.rangeAt _ _ _ _; rw [hjN10, hy10]; exact S1.out.drew.range (by omega)
     have TA10 : Hid (wr.drew.there blk (iN10 * 10) 10) := by show World.there _ _ _ _; rw [hiN10]; exact S1.out.drew.there (by omega)
     have TB10 : Hid ((wr.drew.setCells blk (iN10 * 10) (peV y10)).there blk (jN10 * 10) 10) := by show World.there _ _ _ _; rw [hiN10, hjN10]; exact S1.out.drew.there2 (by omega) (by omega) _
     clear S1 hx10 hy10
     clear hiN10
     have hzJ10 : kp = jN10 := by omega
     clear hjN10 ec10
     subst hzJ10
     go_wp2_with fail
     refine wp_region_any (by kernel_rfl) ?_
     try (change wpAny _ _ _ _ _ _ _ (World.drew _))
     refine wpAny_take (i := 0) (v := ?_) (by simp only [List.getElem?_toArray, List.getElem?_cons_succ, List.getElem?_cons_zero]; rfl) (by kernel_rfl) (by kernel_rfl) (by kernel_rfl) ?hQ49 (Or.inl ⟨by rfl, ?hy49⟩) ?main49
     case hQ49 => exact fun _ _ _ h => h
     case hy49 => ((intro w; go_simp); try with_reducible rfl)
     simp only [Act.put, zs1, zs2, zs3, List.toList_toArray]
     refine wpAny_take (i := 1) (v := ?_) (by simp only [List.getElem?_toArray, List.getElem?_cons_succ, List.getElem?_cons_zero]; rfl) (by kernel_rfl) (by kernel_rfl) (by kernel_rfl) ?hQ50 (Or.inl ⟨by rfl, ?hy50⟩) ?main50
     case hQ50 => exact fun _ _ _ h => h
     case hy50 => ((intro w; go_simp); try with_reducible rfl)
     simp only [Act.put, zs1, zs2, zs3, List.toList_toArray]
     refine wpAny_take (i := 2) (v := ?_) (by simp only [List.getElem?_toArray, List.getElem?_cons_succ, List.getElem?_cons_zero]; rfl) (by kernel_rfl) (by kernel_rfl) (by kernel_rfl) ?hQ51 (Or.inl ⟨by rfl, ?hy51⟩) ?main51
     case hQ51 => exact fun _ _ _ h => h
     case hy51 => ((intro w; go_simp); try with_reducible rfl)
     simp only [Act.put, zs1, zs2, zs3, List.toList_toArray]
     refine wpAny_take (i := 3) (v := ?_) (by simp only [List.getElem?_toArray, List.getElem?_cons_succ, List.getElem?_cons_zero]; rfl) (by kernel_rfl) (by kernel_rfl) (by kernel_rfl) ?hQ52 (Or.inl ⟨by rfl, ?hy52⟩) ?main52
     case hQ52 => exact fun _ _ _ h => h
     case hy52 => ((intro w; go_simp); try with_reducible rfl)
     simp only [Act.put, zs1, zs2, zs3, List.toList_toArray]
     refine wpAny_take (i := 4) (v := ?_) (by simp only [List.getElem?_toArray, List.getElem?_cons_succ, List.getElem?_cons_zero]; rfl) (by kernel_rfl) (by kernel_rfl) (by kernel_rfl) ?hQ53 (Or.inl ⟨by rfl, ?hy53⟩) ?main53
     case hQ53 => exact fun _ _ _ h => h
     case hy53 => ((intro w; go_simp); try with_reducible rfl)
     simp only [Act.put, zs1, zs2, zs3, List.toList_toArray]
     refine wpAny_take (i := 5) (v := ?_) (by simp only [List.getElem?_toArray, List.getElem?_cons_succ, List.getElem?_cons_zero]; rfl) (by kernel_rfl) (by kernel_rfl) (by kernel_rfl) ?hQ54 (Or.inl ⟨by rfl, ?hy54⟩) ?main54
     case hQ54 => exact fun _ _ _ h => h
     case hy54 => ((intro w; go_simp); try with_reducible rfl)
     simp only [Act.put, zs1, zs2, zs3, List.toList_toArray]
     refine wpAny_take (i := 6) (v := ?_) (by simp only [List.getElem?_toArray, List.getElem?_cons_succ, List.getElem?_cons_zero]; rfl) (by kernel_rfl) (by kernel_rfl) (by kernel_rfl) ?hQ55 (Or.inl ⟨by rfl, ?hy55⟩) ?main55
     case hQ55 => exact fun _ _ _ h => h
     case hy55 => ((intro w; go_simp); try with_reducible rfl)
     simp only [Act.put, zs1, zs2, zs3, List.toList_toArray]
     refine wpAny_take (i := 7) (v := ?_) (by simp only [List.getElem?_toArray, List.getElem?_cons_succ, List.getElem?_cons_zero]; rfl) (by kernel_rfl) (by kernel_rfl) (by kernel_rfl) ?hQ56 (Or.inl ⟨by rfl, ?hy56⟩) ?main56
     case hQ56 => exact fun _ _ _ h => h
     case hy56 => ((intro w; go_simp); try with_reducible rfl)
     simp only [Act.put, zs1, zs2, zs3, List.toList_toArray]
     refine wpAny_take (i := 8) (v := ?_) (by simp only [List.getElem?_toArray, List.getElem?_cons_succ, List.getElem?_cons_zero]; rfl) (by kernel_rfl) (by kernel_rfl) (by kernel_rfl) ?hQ57 (Or.inl ⟨by rfl, ?hy57⟩) ?main57
     case hQ57 => exact fun _ _ _ h => h
     case hy57 => ((intro w; go_simp); try with_reducible rfl)
     simp only [Act.put, zs1, zs2, zs3, List.toList_toArray]
     refine wpAny_take (i := 10) (v := ?_) (by simp only [List.getElem?_toArray, List.getElem?_cons_succ, List.getElem?_cons_zero]; rfl) (by kernel_rfl) (by kernel_rfl) (by kernel_rfl) ?hQ58 (Or.inl ⟨by rfl, ?hy58⟩) ?main58
     case hQ58 => exact fun _ _ _ h => h
     case hy58 => ((intro w; go_simp); try with_reducible rfl)
     simp only [Act.put, zs1, zs2, zs3, List.toList_toArray]
     refine wpAny_take (i := 11) (v := ?_) (by simp only [List.getElem?_toArray, List.getElem?_cons_succ, List.getElem?_cons_zero]; rfl) (by kernel_rfl) (by kernel_rfl) (by kernel_rfl) ?hQ59 (Or.inl ⟨by rfl, ?hy59⟩) ?main59
     case hQ59 => exact fun _ _ _ h => h
     case hy59 => ((intro w; go_simp); try with_reducible rfl)
     simp only [Act.put, zs1, zs2, zs3, List.toList_toArray]
     refine wpAny_take (i := 12) (v := ?_) (by simp only [List.getElem?_toArray, List.getElem?_cons_succ, List.getElem?_cons_zero]; rfl) (by kernel_rfl) (by kernel_rfl) (by kernel_rfl) ?hQ60 (Or.inl ⟨by rfl, ?hy60⟩) ?main60
     case hQ60 => exact fun _ _ _ h => h
     case hy60 => ((intro w; go_simp); try with_reducible rfl)
     simp only [Act.put, zs1, zs2, zs3, List.toList_toArray]
     refine any_loads2 (i := 9) (j := 13) (by simp only [List.getElem?_toArray, List.getElem?_cons_succ, List.getElem?_cons_zero]; rfl) (by simp only [List.getElem?_toArray, List.getElem?_cons_succ, List.getElem?_cons_zero]; rfl) (by kernel_rfl) (by kernel_rfl) (by kernel_rfl) rfl rfl 52 (.tmp 121) (.tmp 125) rfl rfl blk (kp * 10) (iN10 * 10) _ _ _ rfl rfl rfl rfl RB10.out RA10.out Tryz.underlying52 rfl (by kernel_rfl) (by kernel_rfl) (by decide) rfl ?_
     simp only [Act.put, zs1, zs2, zs3, List.toList_toArray]
     refine wpAny_take (i := 14) (v := ?_) (by simp only [List.getElem?_toArray, List.getElem?_cons_succ, List.getElem?_cons_zero]; rfl) (by kernel_rfl) (by kernel_rfl) (by kernel_rfl) ?hQ61 (Or.inl ⟨by rfl, ?hy61⟩) ?main61
     case hQ61 => exact fun _ _ _ h => h
     case hy61 => ((intro w; go_simp); try with_reducible rfl)
     simp only [Act.put, zs1, zs2, zs3, List.toList_toArray]
     refine any_one (i := 15) (by kernel_rfl) ?_
     refine wpOp_store_mid (by simp only [List.getElem?_toArray, List.getElem?_cons_succ, List.getElem?_cons_zero]; rfl) rfl 52 (.tmp 127) (.tmp 122) rfl blk (iN10 * 10) (peV y10).toArray rfl rfl TA10.out (by kernel_rfl) (peV_all _) ?_
     simp only [Act.put, zs1, zs2, zs3, List.toList_toArray]
     refine wpAny_take (i := 16) (v := ?_) (by simp only [List.getElem?_toArray, List.getElem?_cons_succ, List.getElem?_cons_zero]; rfl) (by kernel_rfl) (by kernel_rfl) (by kernel_rfl) ?hQ62 (Or.inl ⟨by rfl, ?hy62⟩) ?main62
     case hQ62 => exact fun _ _ _ h => h
     case hy62 => ((intro w; go_simp); try with_reducible rfl)
     simp only [Act.put, zs1, zs2, zs3, List.toList_toArray]
     refine any_one (i := 17) (by kernel_rfl) ?_
     refine wpOp_store_mid (by simp only [List.getElem?_toArray, List.getElem?_cons_succ, List.getElem?_cons_zero]; rfl) rfl 52 (.tmp 128) (.tmp 126) rfl blk (kp * 10) (peV x10).toArray rfl rfl TB10.out (by kernel_rfl) (peV_all _) ?_
     simp only [Act.put, zs1, zs2, zs3, List.toList_toArray]
     refine wpAny_done (by kernel_rfl) ?_ _
     clear RA10 RB10 TA10 TB10
     generalize ((wr.drew.setCells blk (iN10 * 10) (peV y10)).setCells blk (kp * 10) (peV x10)) = w3 at S3 ⊢
     clear ea10
     go_wp2
     go_roundg (k - 1 - i)
     case measure => omega
     case rel => exact ⟨k - 1, swp dk k (k - 1), by first | rfl | go_num | (congr 1; omega), by omega, by omega, Nat.le_refl _, by rw [size_swp]; exact hsk, S3, (show Hid _ from by rw [← HO.out, show k - i = (k - 1 - i) + 1 by omega]; exact rfl)⟩
    ·have hklz : ¬ ((i : Int) < (k : Int)) := by omega
     have HF : Hid (symM (ltOf cf) (f + 1) a m b d = dk) := by show _ = _; unfold symM; rw [if_neg c1, if_pos c2, HR.out, ← HO.out, show k - i = 0 by omega]; rfl
     go_wp2
     ((try simp only [Exit.inBlock, Exit.then]); first | refine bodyPost_end (results_none rfl _ _ _) rfl ?_ | refine bodyPost_ret (results_none rfl _ _ _) rfl ?_)
     exact ⟨rfl, by rw [HF.out]; exact S1.out⟩

set_option maxHeartbeats 16000000 in
theorem symMergeC_p (cf : Pe → Pe → Int) (g : Nat) (cb : Array Value) (base blk cap : Nat) (n0 : Nat) (w0 : World) (eg : ∀ args w, (callFunc g args).run Tryz.prog w = .ok (.enter g args) w) (hcmp : CmpP Tryz.prog g cb cf) (hsz : n0 < 1000000000) (f a m b : Nat) (d : Array Pe) (w : World) (IH : ∀ (a m b : Nat) (d : Array Pe) (w : World), n0 = d.size → SP base w0 blk cap d w → a < m → m < b → b ≤ d.size → b - a ≤ f →
  Calls Tryz.prog 126 #[.slice (some ⟨blk, 0, none⟩) d.size cap, .int .i64 a, .int .i64 m, .int .i64 b, .func (.func g) #[] cb] w fun e w' => e = .returned (.tuple #[]) ∧ SP base w0 blk cap (symM (ltOf cf) f a m b d) w')
  (hs : n0 = d.size) (S : SP base w0 blk cap d w) (h1 : a < m) (h2 : m < b) (h3 : b ≤ d.size) (h4 : b - a ≤ f + 1) (c1 : ¬ m - a = 1) (c2 : ¬ b - m = 1) :
  Calls Tryz.prog 126 #[.slice (some ⟨blk, 0, none⟩) d.size cap, .int .i64 a, .int .i64 m, .int .i64 b, .func (.func g) #[] cb] w fun e w' => e = .returned (.tuple #[]) ∧ SP base w0 blk cap (symM (ltOf cf) (f + 1) a m b d) w' := by
 have mixed : Tryz.prog.follows .mixedOrders = true := by kernel_rfl
 have HC : Aside _ := hcmp
 have S0 : Aside _ := S
 have IH' : Aside _ := IH
 clear S hcmp IH
 have c1z : ¬ ((m : Int) - (a : Int) = 1) := by omega
 have c1b : ((m : Int) - (a : Int) == 1) = false := beq_eq_false_iff_ne.2 c1z
 have c2z : ¬ ((b : Int) - (m : Int) = 1) := by omega
 have c2b : ((b : Int) - (m : Int) == 1) = false := beq_eq_false_iff_ne.2 c2z
 obtain ⟨mid, hmid⟩ : ∃ q, q = (a + b) / 2 := ⟨_, rfl⟩
 have zmid : ((a : Int) + (b : Int)) / 2 = (mid : Int) := by omega
 obtain ⟨s0, hs0, r0, hr0⟩ := nz2 (symS0 a m b) (symR0 a m b)
 have q0 : s0 = (if mid < m then mid + m - b else a) := by rw [hs0]; unfold symS0; rw [hmid]
 have q1 : r0 = (if mid < m then mid else m) := by rw [hr0]; unfold symR0; rw [hmid]
 have q2 : a ≤ s0 ∧ s0 ≤ r0 ∧ r0 ≤ m ∧ r0 ≤ mid ∧ mid + m - b ≤ s0 := by rw [q0, q1]; split <;> omega
 have q3 : (mid : Int) < (m : Int) ∧ (s0 : Int) = (mid : Int) + (m : Int) - (b : Int) ∧ r0 = mid ∨ ¬ (mid : Int) < (m : Int) ∧ s0 = a ∧ r0 = m := by
  by_cases hc : mid < m
  ·rw [if_pos hc] at q0 q1; left; refine ⟨by omega, by omega, q1⟩
  ·rw [if_neg hc] at q0 q1; right; exact ⟨by omega, q0, q1⟩
 obtain ⟨q4, q5, q6, q7, q8⟩ := q2
 clear q0 q1
 have HSt : Hid (symSt (ltOf cf) d a m b = bsr (fun c => !(ltOf cf) d[mid + m - 1 - c]! d[c]!) (b - a) s0 r0) := by show _ = _; unfold symSt; rw [← hs0, ← hr0, ← hmid]
 clear hs0 hr0
 have HM : Hid (mid = (a + b) / 2) := hmid
 clear hmid
 go_enter Tryz.func126, Tryz.ntmps126
 go_upto_if 140 with fail
 go_cut [20, 21] (fun s r wx => s = .int .i64 s0 ∧ r = .int .i64 r0 ∧ wx = w)
 case first =>
  as_aux_lemma =>
   rcases q3 with ⟨d1, d2, d3⟩ | ⟨d1, d2, d3⟩
   ·go_wp2_with fail
    all_goals (go_meet; exact ⟨by first | rfl | (congr 1; omega), by first | rfl | (congr 1; omega), rfl⟩)
   ·go_wp2_with fail
    all_goals (go_meet; exact ⟨by first | rfl | (congr 1; omega), by first | rfl | (congr 1; omega), rfl⟩)
 case rest =>
 clear q3
 obtain ⟨rfl, rfl, rfl⟩ := hcut
 go_at_K
 go_wp2
 go_loopg [20, 21] (r0 - s0) (fun g1 vi vj wr => ∃ (i j : Nat), vi = .int .i64 i ∧ vj = .int .i64 j ∧ s0 ≤ i ∧ i ≤ j ∧ j ≤ r0 ∧ j - i ≤ g1 ∧ Aside (SP base w0 blk cap d wr) ∧ Hid (∃ q, j - i ≤ q ∧ bsr (fun c => !(ltOf cf) d[mid + m - 1 - c]! d[c]!) q i j = bsr (fun c => !(ltOf cf) d[mid + m - 1 - c]! d[c]!) (b - a) (s0) (r0)))
 case atStart => exact ⟨s0, r0, rfl, rfl, Nat.le_refl _, by omega, Nat.le_refl _, Nat.le_refl _, S0, ⟨_, by omega, rfl⟩⟩
 case round =>
  clear S0
  obtain ⟨i, j, rfl, rfl, hlo, hij, hhi, hg1, S1, HB⟩ := hrel
  by_cases hlt : i < j
  ·have hltz : (i : Int) < (j : Int) := by omega
   obtain ⟨h, hh⟩ : ∃ h, h = (i + j) / 2 := ⟨_, rfl⟩
   have zh : ((i : Int) + (j : Int)) / 2 = (h : Int) := by omega
   have h5 : i ≤ h := by omega
   have h6 : h < j := by omega
   have HH : Hid (h = (i + j) / 2) := hh
   clear hh
   cases hlv : (ltOf cf) d[mid + m - 1 - h]! d[h]! with
   | true =>
    as_aux_lemma =>
     have HB' : Hid (∃ q, h - i ≤ q ∧ bsr (fun c => !(ltOf cf) d[mid + m - 1 - c]! d[c]!) q i h = bsr (fun c => !(ltOf cf) d[mid + m - 1 - c]! d[c]!) (b - a) (s0) (r0)) := by
      obtain ⟨q, hq, hb⟩ := HB.out
      cases q with
      | zero => omega
      | succ q => exact ⟨q, by omega, by rw [← hb]; (conv => rhs; unfold bsr; rw [if_pos hlt, ← HH.out]); exact (if_neg (by simp [hlv])).symm⟩
     clear HB
     obtain ⟨iN11, hiN11, jN11, hjN11⟩ := nz2 (mid + m - 1 - h) h
     have ea11 : ((mid : Int) + (m : Int) - 1 - (h : Int)).toNat = iN11 := by omega
     have pa11 : (0 : Int) ≤ (mid : Int) + (m : Int) - 1 - (h : Int) := by omega
     have ba11 : (mid : Int) + (m : Int) - 1 - (h : Int) < (d.size : Int) := by omega
     have ra11 : IntKind.i64.wrap ((mid : Int) + (m : Int) - 1 - (h : Int)) = (mid : Int) + (m : Int) - 1 - (h : Int) := by rw [IntKind.wrap_i64]; omega
     have ec11 : ((h : Int)).toNat = jN11 := by omega
     have pc11 : (0 : Int) ≤ (h : Int) := by omega
     have bc11 : (h : Int) < (d.size : Int) := by omega
     have rc11 : IntKind.i64.wrap ((h : Int)) = (h : Int) := by rw [IntKind.wrap_i64]; omega
     obtain ⟨x11, hx11, y11, hy11⟩ := nz2 (d[mid + m - 1 - h]!) (d[h]!)
     have KA11 : ∀ Y, PeIn (Go.Proofs.YtnplgagaoeckoaaGreat.ext wr Y) blk (iN11 * 10) x11 := fun Y => by rw [hiN11, hx11]; exact S1.out.cl (by omega) Y
     have KB11 : ∀ Y, PeIn (Go.Proofs.YtnplgagaoeckoaaGreat.ext wr Y) blk (jN11 * 10) y11 := fun Y => by rw [hjN11, hy11]; exact S1.out.cl (by omega) Y
     have la0 := fun y => (KA11 y).1; have la1 := fun y => (KA11 y).2.1; have la2 := fun y => (KA11 y).2.2.1; have la3 := fun y => (KA11 y).2.2.2.1; have la4 := fun y => (KA11 y).2.2.2.2.1; have la5 := fun y => (KA11 y).2.2.2.2.2.1; have la6 := fun y => (KA11 y).2.2.2.2.2.2.1; have la7 := fun y => (KA11 y).2.2.2.2.2.2.2.1; have la8 := fun y => (KA11 y).2.2.2.2.2.2.2.2.1; have la9 := fun y => (KA11 y).2.2.2.2.2.2.2.2.2
     have lb0 := fun y => (KB11 y).1; have lb1 := fun y => (KB11 y).2.1; have lb2 := fun y => (KB11 y).2.2.1; have lb3 := fun y => (KB11 y).2.2.2.1; have lb4 := fun y => (KB11 y).2.2.2.2.1; have lb5 := fun y => (KB11 y).2.2.2.2.2.1; have lb6 := fun y => (KB11 y).2.2.2.2.2.2.1; have lb7 := fun y => (KB11 y).2.2.2.2.2.2.2.1; have lb8 := fun y => (KB11 y).2.2.2.2.2.2.2.2.1; have lb9 := fun y => (KB11 y).2.2.2.2.2.2.2.2.2
     have hc11 := fun Y => HC.out (Go.Proofs.YtnplgagaoeckoaaGreat.ext wr Y) x11 y11
     have hv11 : cf x11 y11 < 0 := by rw [hx11, hy11]; exact of_decide_eq_true hlv
     have hd11 : decide (cf x11 y11 < 0) = true := decide_eq_true hv11
     clear hx11 hy11 hiN11 hjN11 KA11 KB11
     go_wp2_with fail
     refine wp_region_ext (by kernel_rfl) (by kernel_rfl) ?_
     repeat (go_big_quiet_step ((first | (go_at_fn g; with_reducible exact qe (hc11 _)))))
     refine wpQuiet_nil ?_
     intro _ hw'
     obtain ⟨gx, hw''⟩ := hw'
     subst hw''
     have S2 : Aside (SP base w0 blk cap d (Go.Proofs.YtnplgagaoeckoaaGreat.ext wr gx)) := S1.out.ext gx
     clear la0 la1 la2 la3 la4 la5 la6 la7 la8 la9 lb0 lb1 lb2 lb3 lb4 lb5 lb6 lb7 lb8 lb9 hc11 S1
     generalize Go.Proofs.YtnplgagaoeckoaaGreat.ext wr gx = w2 at S2 ⊢
     clear gx
     clear ea11 ec11
     go_wp2
     go_roundg (h - i)
     case measure => omega
     case rel => exact ⟨i, h, rfl, by first | rfl | go_num | (congr 1; omega), by omega, by omega, by omega, Nat.le_refl _, S2, HB'⟩
   | false =>
    as_aux_lemma =>
     have HB' : Hid (∃ q, j - (h + 1) ≤ q ∧ bsr (fun c => !(ltOf cf) d[mid + m - 1 - c]! d[c]!) q (h + 1) j = bsr (fun c => !(ltOf cf) d[mid + m - 1 - c]! d[c]!) (b - a) (s0) (r0)) := by
      obtain ⟨q, hq, hb⟩ := HB.out
      cases q with
      | zero => omega
      | succ q => exact ⟨q, by omega, by rw [← hb]; (conv => rhs; unfold bsr; rw [if_pos hlt, ← HH.out]); exact (if_pos (by simp [hlv])).symm⟩
     clear HB
     obtain ⟨iN12, hiN12, jN12, hjN12⟩ := nz2 (mid + m - 1 - h) h
     have ea12 : ((mid : Int) + (m : Int) - 1 - (h : Int)).toNat = iN12 := by omega
     have pa12 : (0 : Int) ≤ (mid : Int) + (m : Int) - 1 - (h : Int) := by omega
     have ba12 : (mid : Int) + (m : Int) - 1 - (h : Int) < (d.size : Int) := by omega
     have ra12 : IntKind.i64.wrap ((mid : Int) + (m : Int) - 1 - (h : Int)) = (mid : Int) + (m : Int) - 1 - (h : Int) := by rw [IntKind.wrap_i64]; omega
     have ec12 : ((h : Int)).toNat = jN12 := by omega
     have pc12 : (0 : Int) ≤ (h : Int) := by omega
     have bc12 : (h : Int) < (d.size : Int) := by omega
     have rc12 : IntKind.i64.wrap ((h : Int)) = (h : Int) := by rw [IntKind.wrap_i64]; omega
     obtain ⟨x12, hx12, y12, hy12⟩ := nz2 (d[mid + m - 1 - h]!) (d[h]!)
     have KA12 : ∀ Y, PeIn (Go.Proofs.YtnplgagaoeckoaaGreat.ext wr Y) blk (iN12 * 10) x12 := fun Y => by rw [hiN12, hx12]; exact S1.out.cl (by omega) Y
     have KB12 : ∀ Y, PeIn (Go.Proofs.YtnplgagaoeckoaaGreat.ext wr Y) blk (jN12 * 10) y12 := fun Y => by rw [hjN12, hy12]; exact S1.out.cl (by omega) Y
     have la0 := fun y => (KA12 y).1; have la1 := fun y => (KA12 y).2.1; have la2 := fun y => (KA12 y).2.2.1; have la3 := fun y => (KA12 y).2.2.2.1; have la4 := fun y => (KA12 y).2.2.2.2.1; have la5 := fun y => (KA12 y).2.2.2.2.2.1; have la6 := fun y => (KA12 y).2.2.2.2.2.2.1; have la7 := fun y => (KA12 y).2.2.2.2.2.2.2.1; have la8 := fun y => (KA12 y).2.2.2.2.2.2.2.2.1; have la9 := fun y => (KA12 y).2.2.2.2.2.2.2.2.2
     have lb0 := fun y => (KB12 y).1; have lb1 := fun y => (KB12 y).2.1; have lb2 := fun y => (KB12 y).2.2.1; have lb3 := fun y => (KB12 y).2.2.2.1; have lb4 := fun y => (KB12 y).2.2.2.2.1; have lb5 := fun y => (KB12 y).2.2.2.2.2.1; have lb6 := fun y => (KB12 y).2.2.2.2.2.2.1; have lb7 := fun y => (KB12 y).2.2.2.2.2.2.2.1; have lb8 := fun y => (KB12 y).2.2.2.2.2.2.2.2.1; have lb9 := fun y => (KB12 y).2.2.2.2.2.2.2.2.2
     have hc12 := fun Y => HC.out (Go.Proofs.YtnplgagaoeckoaaGreat.ext wr Y) x12 y12
     have hv12 : ¬ cf x12 y12 < 0 := by rw [hx12, hy12]; exact of_decide_eq_false hlv
     have hd12 : decide (cf x12 y12 < 0) = false := decide_eq_false hv12
     clear hx12 hy12 hiN12 hjN12 KA12 KB12
     go_wp2_with fail
     refine wp_region_ext (by kernel_rfl) (by kernel_rfl) ?_
     repeat (go_big_quiet_step ((first | (go_at_fn g; with_reducible exact qe (hc12 _)))))
     refine wpQuiet_nil ?_
     intro _ hw'
     obtain ⟨gx, hw''⟩ := hw'
     subst hw''
     have S2 : Aside (SP base w0 blk cap d (Go.Proofs.YtnplgagaoeckoaaGreat.ext wr gx)) := S1.out.ext gx
     clear la0 la1 la2 la3 la4 la5 la6 la7 la8 la9 lb0 lb1 lb2 lb3 lb4 lb5 lb6 lb7 lb8 lb9 hc12 S1
     generalize Go.Proofs.YtnplgagaoeckoaaGreat.ext wr gx = w2 at S2 ⊢
     clear gx
     clear ea12 ec12
     go_wp2
     go_roundg (j - (h + 1))
     case measure => omega
     case rel => exact ⟨h + 1, j, by first | rfl | go_num | (congr 1; omega), rfl, by omega, by omega, by omega, Nat.le_refl _, S2, HB'⟩
  ·obtain rfl : i = j := by omega
   have HR : Hid (bsr (fun c => !(ltOf cf) d[mid + m - 1 - c]! d[c]!) (b - a) (s0) (r0) = i) := by
    obtain ⟨q, hq, hb⟩ := HB.out
    show _ = _
    rw [← hb]; cases q with
    | zero => rfl
    | succ q => unfold bsr; rw [if_neg (by omega)]
   clear HB
   obtain ⟨e, he⟩ : ∃ e, e = mid + m - i := ⟨_, rfl⟩
   have ze : (mid : Int) + (m : Int) - (i : Int) = (e : Int) := by omega
   have HG := symM_gen (ltOf cf) f a m b d mid i e c1 c2 HM.out (HSt.out.trans HR.out) he
   have HE : Hid (e = mid + m - i) := he
   have q9 : m ≤ e ∧ e ≤ b := by omega
   obtain ⟨q10, q11⟩ := q9
   clear HSt HR hg1 he
   obtain ⟨D1, hD1⟩ : ∃ D, D = (if i < m ∧ m < e then rotA m (e - i) (m - i) (e - m) d else d) := ⟨_, rfl⟩
   obtain ⟨D2, hD2⟩ : ∃ D, D = (if a < i ∧ i < mid then symM (ltOf cf) f a i mid D1 else D1) := ⟨_, rfl⟩
   have sD1 : D1.size = d.size := by rw [hD1]; split <;> simp only [size_rotA]
   have sD2 : D2.size = d.size := by rw [hD2]; split <;> simp only [size_symM, sD1]
   rw [← hD1, ← hD2] at HG
   have HG' : Hid _ := HG
   have HD1 : Hid _ := hD1
   have HD2 : Hid _ := hD2
   clear HG hD1 hD2
   go_upto_region 39 with fail
   obtain ⟨y1, hy1⟩ : ∃ y, y = decide (i < m ∧ m < e) := ⟨_, rfl⟩
   have HY1 := zh hy1
   clear hy1
   go_cut [185] (fun s wx => s = .bool y1 ∧ wx = wr)
   case first =>
    as_aux_lemma =>
     by_cases u1 : (i : Int) < (m : Int)
     ·go_wp2_with fail
      all_goals (go_meet; exact ⟨by rw [HY1.out]; first | (rw [decide_eq_true (by omega)]; done) | (rw [decide_eq_false (by omega)]; done) | (congr 1; rw [decide_eq_decide]; omega), rfl⟩)
     ·go_wp2_with fail
      all_goals (go_meet; exact ⟨by rw [HY1.out, decide_eq_false (by omega)], rfl⟩)
   case rest =>
   obtain ⟨rfl, rfl⟩ := hcut
   go_at_K
   go_upto_if 185 with fail
   go_cut [] (fun wx => Aside (SP base w0 blk cap D1 wx))
   case first =>
    as_aux_lemma =>
     cases hyy : y1 with
     | true =>
      have b1 : i < m ∧ m < e := of_decide_eq_true (by rw [← HY1.out, hyy])
      have hr := rotate_p i m e g cb base blk cap d w0 wc S1.out b1.1 b1.2 (by omega) (by omega)
      have HD : Hid (D1 = rotA m (e - i) (m - i) (e - m) d) := by show _ = _; rw [HD1.out, if_pos b1]
      go_wp2_with (go_at_call 135; refine hr.mono ?_; rintro e1 w2 ⟨rfl, S2⟩)
      all_goals (go_meet; rw [HD.out]; exact S2)
     | false =>
      have b1 : ¬ (i < m ∧ m < e) := of_decide_eq_false (by rw [← HY1.out, hyy])
      have HD : Hid (D1 = d) := by show _ = _; rw [HD1.out, if_neg b1]
      go_wp2_with fail
      all_goals (go_meet; rw [HD.out]; exact S1)
   case rest =>
   clear S1
   have S1' := hcut
   clear hcut
   go_at_K
   go_upto_region 41 with fail
   obtain ⟨y2, hy2⟩ : ∃ y, y = decide (a < i ∧ i < mid) := ⟨_, rfl⟩
   have HY2 := zh hy2
   clear hy2
   go_cut [199] (fun s wx => s = .bool y2 ∧ wx = wc)
   case first =>
    as_aux_lemma =>
     by_cases u1 : (a : Int) < (i : Int)
     ·go_wp2_with fail
      all_goals (go_meet; exact ⟨by rw [HY2.out]; first | (rw [decide_eq_true (by omega)]; done) | (rw [decide_eq_false (by omega)]; done) | (congr 1; rw [decide_eq_decide]; omega), rfl⟩)
     ·go_wp2_with fail
      all_goals (go_meet; exact ⟨by rw [HY2.out, decide_eq_false (by omega)], rfl⟩)
   case rest =>
   obtain ⟨rfl, rfl⟩ := hcut
   go_at_K
   go_upto_if 199 with fail
   go_cut [] (fun wx => Aside (SP base w0 blk cap D2 wx))
   case first =>
    as_aux_lemma =>
     cases hyy : y2 with
     | true =>
      have b1 : a < i ∧ i < mid := of_decide_eq_true (by rw [← HY2.out, hyy])
      have hr := IH'.out a i mid D1 wc (by omega) S1'.out b1.1 b1.2 (by omega) (by omega)
      rw [sD1] at hr
      have HD : Hid (D2 = symM (ltOf cf) f a i mid D1) := by show _ = _; rw [HD2.out, if_pos b1]
      go_wp2_with (go_at_call 126; refine hr.mono ?_; rintro e1 w2 ⟨rfl, S2⟩)
      all_goals (go_meet; rw [HD.out]; exact S2)
     | false =>
      have b1 : ¬ (a < i ∧ i < mid) := of_decide_eq_false (by rw [← HY2.out, hyy])
      have HD : Hid (D2 = D1) := by show _ = _; rw [HD2.out, if_neg b1]
      go_wp2_with fail
      all_goals (go_meet; rw [HD.out]; exact S1')
   case rest =>
   clear S1'
   have S2' := hcut
   clear hcut
   go_at_K
   go_upto_region 43 with fail
   obtain ⟨y3, hy3⟩ : ∃ y, y = decide (mid < e ∧ e < b) := ⟨_, rfl⟩
   have HY3 := zh hy3
   clear hy3
   go_cut [213] (fun s wx => s = .bool y3 ∧ wx = wc)
   case first =>
    as_aux_lemma =>
     by_cases u1 : (mid : Int) < (e : Int)
     ·go_wp2_with fail
      all_goals (go_meet; exact ⟨by rw [HY3.out]; first | (rw [decide_eq_true (by omega)]; done) | (rw [decide_eq_false (by omega)]; done) | (congr 1; rw [decide_eq_decide]; omega), rfl⟩)
     ·go_wp2_with fail
      all_goals (go_meet; exact ⟨by rw [HY3.out, decide_eq_false (by omega)], rfl⟩)
   case rest =>
   obtain ⟨rfl, rfl⟩ := hcut
   go_at_K
   go_upto_if 213 with fail
   cases hyy : y3 with
   | true =>
    have b1 : mid < e ∧ e < b := of_decide_eq_true (by rw [← HY3.out, hyy])
    have hr := IH'.out mid e b D2 wc (by omega) S2'.out b1.1 b1.2 (by omega) (by omega)
    rw [sD2] at hr
    go_wp2_with (go_at_call 126; refine hr.mono ?_; rintro e1 w2 ⟨rfl, S3⟩)
    ((try simp only [Exit.inBlock, Exit.then]); first | refine bodyPost_end (results_none rfl _ _ _) rfl ?_ | refine bodyPost_ret (results_none rfl _ _ _) rfl ?_)
    exact ⟨rfl, by rw [HG'.out, if_pos b1]; exact S3⟩
   | false =>
    have b1 : ¬ (mid < e ∧ e < b) := of_decide_eq_false (by rw [← HY3.out, hyy])
    go_wp2_with fail
    ((try simp only [Exit.inBlock, Exit.then]); first | refine bodyPost_end (results_none rfl _ _ _) rfl ?_ | refine bodyPost_ret (results_none rfl _ _ _) rfl ?_)
    exact ⟨rfl, by rw [HG'.out, if_neg b1]; exact S2'.out⟩
theorem symMerge_p (cf : Pe → Pe → Int) (g : Nat) (cb : Array Value) (base blk cap : Nat) (n0 : Nat) (w0 : World) (eg : ∀ args w, (callFunc g args).run Tryz.prog w = .ok (.enter g args) w) (hcmp : CmpP Tryz.prog g cb cf) (hsz : n0 < 1000000000) : ∀ (f a m b : Nat) (d : Array Pe) (w : World),
  n0 = d.size → SP base w0 blk cap d w → a < m → m < b → b ≤ d.size → b - a ≤ f →
  Calls Tryz.prog 126 #[.slice (some ⟨blk, 0, none⟩) d.size cap, .int .i64 a, .int .i64 m, .int .i64 b, .func (.func g) #[] cb] w fun e w' => e = .returned (.tuple #[]) ∧ SP base w0 blk cap (symM (ltOf cf) f a m b d) w'
 | 0, a, m, b, d, w, hs, S, h1, h2, h3, h4 => by omega
 | f + 1, a, m, b, d, w, hs, S, h1, h2, h3, h4 => by
  have IH := symMerge_p cf g cb base blk cap n0 w0 eg hcmp hsz f
  by_cases c1 : m - a = 1
  ·exact symMergeA_p cf g cb base blk cap n0 w0 eg hcmp hsz f a m b d w IH hs S h1 h2 h3 h4 c1
  by_cases c2 : b - m = 1
  ·exact symMergeB_p cf g cb base blk cap n0 w0 eg hcmp hsz f a m b d w IH hs S h1 h2 h3 h4 c1 c2
  ·exact symMergeC_p cf g cb base blk cap n0 w0 eg hcmp hsz f a m b d w IH hs S h1 h2 h3 h4 c1 c2
set_option maxHeartbeats 8000000 in
theorem stable_p (cf : Pe → Pe → Int) (g : Nat) (cb : Array Value) (base blk cap : Nat) (d : Array Pe) (w0 w : World) (eg : ∀ args w, (callFunc g args).run Tryz.prog w = .ok (.enter g args) w) (hcmp : CmpP Tryz.prog g cb cf) (S : SP base w0 blk cap d w) (hsz : d.size < 1000000000) :
  Calls Tryz.prog 114 #[.slice (some ⟨blk, 0, none⟩) d.size cap, .int .i64 d.size, .func (.func g) #[] cb] w fun e w' => e = .returned (.tuple #[]) ∧ SP base w0 blk cap (stableA (ltOf cf) d) w' := by
 have INS : Aside (∀ (a b : Nat) (dk : Array Pe) (wk : World), d.size = dk.size → SP base w0 blk cap dk wk → a ≤ b → b ≤ dk.size → Calls Tryz.prog 125 #[.slice (some ⟨blk, 0, none⟩) dk.size cap, .int .i64 a, .int .i64 b, .func (.func g) #[] cb] wk fun e w' => e = .returned (.tuple #[]) ∧ SP base w0 blk cap (Sort.insertionSort (ltOf cf) dk a b) w') :=
  fun a b dk wk h1 h2 h3 h4 => insSort_p a b cf g cb base blk cap dk w0 wk eg hcmp h2 h3 h4 (by omega)
 have SYM : Aside _ := symMerge_p cf g cb base blk cap d.size w0 eg hcmp hsz
 have S0 : Aside _ := S
 clear S hcmp
 obtain ⟨n, hn⟩ : ∃ n, d.size = n := ⟨_, rfl⟩
 have hn9 : n < 1000000000 := by omega
 have HS : Hid (stableA (ltOf cf) d = passA (ltOf cf) n (n + 1) 20 (insB (ltOf cf) n (n + 1) 0 d)) := by show _ = _; unfold stableA; rw [hn]
 rw [hn]
 go_enter Tryz.func114, Tryz.ntmps114
 go_wp2
 go_loopg [7, 8] n (fun g1 va vb wr => ∃ (a : Nat) (dk : Array Pe), va = .int .i64 a ∧ vb = .int .i64 ((a : Int) + 20) ∧ a ≤ n ∧ n - a ≤ g1 ∧ dk.size = n ∧ Aside (SP base w0 blk cap dk wr) ∧ Hid (∃ f, n < a + f ∧ insB (ltOf cf) n f a dk = insB (ltOf cf) n (n + 1) 0 d))
 case atStart => exact ⟨0, d, rfl, by first | rfl | (congr 1; omega), by omega, by omega, hn, S0, ⟨n + 1, by omega, rfl⟩⟩
 case round =>
  clear S0
  obtain ⟨a, dk, rfl, rfl, han, hg1, hsk, S1, HI⟩ := hrel
  by_cases hc : a + 20 ≤ n
  ·have hcz : (a : Int) + 20 ≤ (n : Int) := by omega
   have hi := INS.out a (a + 20) dk wr (by omega) S1.out (by omega) (by omega)
   rw [hsk, show ((a + 20 : Nat) : Int) = (a : Int) + 20 by omega] at hi
   have HI' : Hid (∃ f, n < a + 20 + f ∧ insB (ltOf cf) n f (a + 20) (Sort.insertionSort (ltOf cf) dk a (a + 20)) = insB (ltOf cf) n (n + 1) 0 d) := by
    obtain ⟨f, hf, he⟩ := HI.out
    cases f with
    | zero => omega
    | succ f => exact ⟨f, by omega, by rw [← he]; conv => rhs; unfold insB; rw [if_pos hc]⟩
   clear HI
   go_wp2_with (go_at_call 125; refine hi.mono ?_; rintro e w2 ⟨rfl, S2⟩)
   have S2' : Aside _ := S2
   clear S2
   go_roundg (n - (a + 20))
   case measure => omega
   case rel => exact ⟨a + 20, _, by first | rfl | go_num | (congr 1; omega), by first | rfl | go_num | (congr 1; omega), by omega, by omega, by rw [size_insertionSort]; exact hsk, S2', HI'⟩
  ·have hcz : ¬ ((a : Int) + 20 ≤ (n : Int)) := by omega
   have hi := INS.out a n dk wr (by omega) S1.out (by omega) (by omega)
   rw [hsk] at hi
   obtain ⟨D, hD⟩ : ∃ D, D = insB (ltOf cf) n (n + 1) 0 d := ⟨_, rfl⟩
   have HD : Hid (Sort.insertionSort (ltOf cf) dk a n = D) := by
    obtain ⟨f, hf, he⟩ := HI.out
    cases f with
    | zero => omega
    | succ f => show _ = _; rw [hD, ← he]; conv => rhs; unfold insB; rw [if_neg hc]
   rw [← hD] at HS
   have sD : D.size = n := by rw [← HD.out, size_insertionSort]; exact hsk
   clear HI hD
   go_upto_region 7 with (go_at_call 125; refine hi.mono ?_; rintro e w2 ⟨rfl, S2⟩)
   have S2' : Aside (SP base w0 blk cap D w2) := by rw [← HD.out]; exact S2
   clear S2 S1 hi HD
   go_loopg [6] n (fun g2 vk wr => ∃ (k : Nat) (dk : Array Pe), vk = .int .i64 k ∧ 20 ≤ k ∧ n - k ≤ g2 ∧ dk.size = n ∧ Aside (SP base w0 blk cap dk wr) ∧ Hid (∃ f, n < k + f ∧ passA (ltOf cf) n f k dk = passA (ltOf cf) n (n + 1) 20 D))
   case atStart => exact ⟨20, D, by first | rfl | go_num, by omega, by omega, sD, S2', ⟨n + 1, by omega, rfl⟩⟩
   case round =>
    clear S2'
    obtain ⟨k, dk, rfl, hk20, hg2, hsk, S1, HP⟩ := hrel
    by_cases hkn : k < n
    ·have hknz : (k : Int) < (n : Int) := by omega
     go_wp2
     go_loopg [7, 8] n (fun g3 va vb wr => ∃ (a : Nat) (dj : Array Pe), va = .int .i64 a ∧ vb = .int .i64 ((a : Int) + 2 * (k : Int)) ∧ a ≤ n ∧ n - a ≤ g3 ∧ dj.size = n ∧ Aside (SP base w0 blk cap dj wr) ∧ Hid (∃ f, n < a + f ∧ mrgB (ltOf cf) n k f a dj = mrgB (ltOf cf) n k (n + 1) 0 dk))
     case atStart => exact ⟨0, dk, rfl, by first | rfl | (congr 1; omega), by omega, by omega, hsk, S1, ⟨n + 1, by omega, rfl⟩⟩
     case round =>
      clear S1
      obtain ⟨a, dj, rfl, rfl, han, hg3, hsj, S1, HM⟩ := hrel
      by_cases hc : a + 2 * k ≤ n
      ·have hcz : (a : Int) + 2 * (k : Int) ≤ (n : Int) := by omega
       have hi := SYM.out (2 * k) a (a + k) (a + 2 * k) dj wr (by omega) S1.out (by omega) (by omega) (by omega) (by omega)
       rw [hsj, show ((a + k : Nat) : Int) = (a : Int) + (k : Int) by omega, show ((a + 2 * k : Nat) : Int) = (a : Int) + 2 * (k : Int) by omega] at hi
       have HM' : Hid (∃ f, n < a + 2 * k + f ∧ mrgB (ltOf cf) n k f (a + 2 * k) (symM (ltOf cf) (2 * k) a (a + k) (a + 2 * k) dj) = mrgB (ltOf cf) n k (n + 1) 0 dk) := by
        obtain ⟨f, hf, he⟩ := HM.out
        cases f with
        | zero => omega
        | succ f => exact ⟨f, by omega, by rw [← he]; conv => rhs; unfold mrgB; rw [if_pos hc]⟩
       clear HM
       go_wp2_with (go_at_call 126; refine hi.mono ?_; rintro e w2 ⟨rfl, S2⟩)
       have S2' : Aside _ := S2
       clear S2
       go_roundg (n - (a + 2 * k))
       case measure => omega
       case rel => exact ⟨a + 2 * k, _, by first | rfl | go_num | (congr 1; omega), by first | rfl | go_num | (congr 1; omega), by omega, by omega, by rw [size_symM]; exact hsj, S2', HM'⟩
      ·have hcz : ¬ ((a : Int) + 2 * (k : Int) ≤ (n : Int)) := by omega
       by_cases hm : a + k < n
       ·have hmz : (a : Int) + (k : Int) < (n : Int) := by omega
        have hi := SYM.out (2 * k) a (a + k) n dj wr (by omega) S1.out (by omega) (by omega) (by omega) (by omega)
        rw [hsj, show ((a + k : Nat) : Int) = (a : Int) + (k : Int) by omega] at hi
        have HD : Hid (∃ f, n < 2 * k + f ∧ passA (ltOf cf) n f (2 * k) (symM (ltOf cf) (2 * k) a (a + k) n dj) = passA (ltOf cf) n (n + 1) 20 D) := by
         obtain ⟨f, hf, he⟩ := HM.out
         obtain ⟨f2, hf2, he2⟩ := HP.out
         cases f with
         | zero => omega
         | succ f =>
          cases f2 with
          | zero => omega
          | succ f2 => exact ⟨f2, by omega, by
           rw [← he2]
           conv => rhs; unfold passA; rw [if_pos hkn, ← he]; unfold mrgB; rw [if_neg hc, if_pos hm]⟩
        clear HM HP
        go_wp2_with (go_at_call 126; refine hi.mono ?_; rintro e w2 ⟨rfl, S2⟩)
        have S2' : Aside _ := S2
        clear S2
        go_roundg (n - 2 * k)
        case measure => omega
        case rel => exact ⟨2 * k, _, by first | rfl | go_num | (congr 1; omega), by omega, by omega, by rw [size_symM]; exact hsj, S2', HD⟩
       ·have hmz : ¬ ((a : Int) + (k : Int) < (n : Int)) := by omega
        have HD : Hid (∃ f, n < 2 * k + f ∧ passA (ltOf cf) n f (2 * k) dj = passA (ltOf cf) n (n + 1) 20 D) := by
         obtain ⟨f, hf, he⟩ := HM.out
         obtain ⟨f2, hf2, he2⟩ := HP.out
         cases f with
         | zero => omega
         | succ f =>
          cases f2 with
          | zero => omega
          | succ f2 => exact ⟨f2, by omega, by
           rw [← he2]
           conv => rhs; unfold passA; rw [if_pos hkn, ← he]; unfold mrgB; rw [if_neg hc, if_neg hm]⟩
        clear HM HP
        go_wp2
        go_roundg (n - 2 * k)
        case measure => omega
        case rel => exact ⟨2 * k, dj, by first | rfl | go_num | (congr 1; omega), by omega, by omega, hsj, S1, HD⟩
    ·have hknz : ¬ ((k : Int) < (n : Int)) := by omega
     have HF : Hid (stableA (ltOf cf) d = dk) := by
      obtain ⟨f, hf, he⟩ := HP.out
      show _ = _
      rw [HS.out, ← he]
      cases f with
      | zero => rfl
      | succ f => unfold passA; rw [if_neg hkn]
     go_wp2
     ((try simp only [Exit.inBlock, Exit.then]); first | refine bodyPost_end (results_none rfl _ _ _) rfl ?_ | refine bodyPost_ret (results_none rfl _ _ _) rfl ?_)
     exact ⟨rfl, by rw [HF.out]; exact S1.out⟩
/-- slices.SortStableFunc OF A ROW OF ITS OWN -/
theorem sortStable_p (cf : Pe → Pe → Int) (g : Nat) (cb : Array Value) (base blk cap : Nat) (d : Array Pe) (w0 w : World) (eg : ∀ args w, (callFunc g args).run Tryz.prog w = .ok (.enter g args) w) (hcmp : CmpP Tryz.prog g cb cf) (S : SP base w0 blk cap d w) (hsz : d.size < 1000000000) :
  Calls Tryz.prog 100 #[.slice (some ⟨blk, 0, none⟩) d.size cap, .func (.func g) #[] cb] w fun e w' => e = .returned (.tuple #[]) ∧ SP base w0 blk cap (stableA (ltOf cf) d) w' := by
 have h := stable_p cf g cb base blk cap d w0 w eg hcmp S hsz
 clear hcmp eg S
 go_enter Tryz.func100, Tryz.ntmps100
 go_wp2_with (go_at_call 114; refine h.mono ?_; rintro e w2 ⟨rfl, S2⟩)
 ((try simp only [Exit.inBlock, Exit.then]); first | refine bodyPost_end (results_none rfl _ _ _) rfl ?_ | refine bodyPost_ret (results_none rfl _ _ _) rfl ?_)
 exact ⟨rfl, S2⟩
end Go.Proofs.YtnplgagaoeckoaaGreat
