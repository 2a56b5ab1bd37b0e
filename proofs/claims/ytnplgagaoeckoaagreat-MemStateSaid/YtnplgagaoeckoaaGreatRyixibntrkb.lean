/- Texts put together: ShI, ShJ. No condition. -/
import Derived.Test.YtnplgagaoeckoaaGreatRnpousohjol
import Derived.Test.YtnplgagaoeckoaaGreatRypywmygvkt
import Derived.Test.YtnplgagaoeckoaaGreatRrwpejfwmem
import Derived.Test.YtnplgagaoeckoaaGreatRbgqzudrjhq
import Derived.Test.YtnplgagaoeckoaaGreatRwziyrduvnt
import Derived.Deep.RegionLaw
namespace Go.Proofs.YtnplgagaoeckoaaGreat
open Go.RowKit Go.Lib

def zSh : Sh := ⟨0, .slice none 0 0, []⟩
/-- every part's row is the call's own, and no two lie in one block -/
def ShState (w : World) (base : Nat) (ss : List Sh) : Prop := (∀ s ∈ ss, w.ownsRow base 52 10 s.v s.l.length (s.l.flatMap peV)) ∧ ∀ (i j : Nat) (s t : Sh), i ≠ j → ss[i]? = some s → ss[j]? = some t → ApartV s.v t.v
theorem ShState.below {w w' : World} {base : Nat} {ss : List Sh} (h : ShState w base ss) (hb : Below w.heap.size w w') : ShState w' base ss := ⟨fun s hs => owns_below (h.1 s hs) hb, h.2⟩
theorem ShState.grow {w w7 : World} {base j k : Nat} {ss : List Sh} {s : Sh} {z : Int} {v7 : Value} {l7 : List Pe} (h : ShState w base ss) (hj : ss[j]? = some s) (hg : w.grownBy w7 s.v.ownBlock)
    (ho : w7.ownsRow base 52 10 v7 l7.length (l7.flatMap peV)) (hk : w.heap.size ≤ k) (ha : v7.ownBlock = s.v.ownBlock ∨ v7.ownBlock = some k) : ShState w7 base (ss.set j ⟨z, v7, l7⟩) := by
  have hjl := (List.getElem?_eq_some_iff.1 hj).1
  have old : ∀ i t, i ≠ j → (ss.set j ⟨z, v7, l7⟩)[i]? = some t → ss[i]? = some t := fun i t hne hi => by rwa [List.getElem?_set_ne (fun e => hne e.symm)] at hi
  have new : ∀ t, (ss.set j ⟨z, v7, l7⟩)[j]? = some t → t = ⟨z, v7, l7⟩ := fun t hi => by rw [List.getElem?_set_self hjl] at hi; injection hi with hi; exact hi.symm
  have far : ∀ i t, i ≠ j → ss[i]? = some t → ApartV v7 t.v := fun i t hne hi => apart_new (h.2 j i s t (fun e => hne e.symm) hj hi) (h.1 t (List.mem_of_getElem? hi)) hk ha
  refine ⟨fun t ht => ?_, fun a b s1 t1 hab h1 h2 => ?_⟩
  · obtain ⟨i, hi⟩ := List.mem_iff_getElem?.1 ht
    by_cases e : i = j
    · subst e; rw [new t hi]; exact ho
    · have hi' := old i t e hi
      exact owns_apart (h.1 t (List.mem_of_getElem? hi')) hg fun g a b => h.2 i j t s e hi' hj g a b
  · by_cases e1 : a = j
    · subst e1
      rw [new s1 h1]
      exact far b t1 (fun e => hab e.symm) (old b t1 (fun e => hab e.symm) h2)
    · by_cases e2 : b = j
      · subst e2
        rw [new t1 h2]
        exact (far a s1 e1 (old a s1 e1 h1)).symm
      · exact h.2 a b s1 t1 hab (old a s1 e1 h1) (old b t1 e2 h2)
theorem owns_neB {w : World} {base n size g : Nat} {e : TypeId} {v : Value} {xs : List Value} (h : w.ownsRow base e size v n xs) (hg : g < base) : v.ownBlock ≠ some g := by
  intro he
  have := (h.lt g he).1
  omega
theorem ShState.set {w : World} {base U i : Nat} {ss : List Sh} {us : List Value} {T : TypeId} (h : ShState w base ss) (hb : BlockIs w U us T) (hU : U < base) (x : Value) : ShState (w.setCell ⟨U, i, none⟩ x) base ss :=
  ⟨fun s hs => owns_setB (h.1 s hs) hb (owns_neB (h.1 s hs) hU), h.2⟩
theorem ShState.resize {w : World} {base j : Nat} {ss : List Sh} {s : Sh} (h : ShState w base ss) (hj : ss[j]? = some s) (z : Int) : ShState w base (ss.set j ⟨z, s.v, s.l⟩) :=
  h.grow hj ⟨rfl, rfl, rfl, Nat.le_refl _, fun _ _ _ => rfl⟩ (h.1 s (List.mem_of_getElem? hj)) (Nat.le_refl _) (Or.inl rfl)
theorem sh_set_v : ∀ (ss : List Sh) (j : Nat) (s : Sh) (v : Value), ss[j]? = some s → (ss.flatMap shV).set (j * 2 + 1) v = (ss.set j ⟨s.size, v, s.l⟩).flatMap shV
  | a :: r, 0, s, v, h => by
    simp only [List.getElem?_cons_zero, Option.some.injEq] at h
    subst h; rfl
  | a :: r, j + 1, s, v, h => by
    have ih := sh_set_v r j s v (by simpa using h)
    rw [List.set_cons_succ, List.flatMap_cons, List.flatMap_cons, ← ih, show (j + 1) * 2 + 1 = (j * 2 + 1) + 1 + 1 by omega]
    rfl
theorem sh_set_z : ∀ (ss : List Sh) (j : Nat) (s : Sh) (z : Int), ss[j]? = some s → (ss.flatMap shV).set (j * 2) (.int .i64 z) = (ss.set j ⟨z, s.v, s.l⟩).flatMap shV
  | a :: r, 0, s, z, h => by
    simp only [List.getElem?_cons_zero, Option.some.injEq] at h
    subst h; rfl
  | a :: r, j + 1, s, z, h => by
    have ih := sh_set_z r j s z (by simpa using h)
    rw [List.set_cons_succ, List.flatMap_cons, List.flatMap_cons, ← ih, show (j + 1) * 2 = j * 2 + 1 + 1 by omega]
    rfl
theorem sh_cell : ∀ (ss : List Sh) (j : Nat) (s : Sh), ss[j]? = some s → (ss.flatMap shV)[j * 2]? = some (.int .i64 s.size) ∧ (ss.flatMap shV)[j * 2 + 1]? = some s.v
  | a :: r, 0, s, h => by
    simp only [List.getElem?_cons_zero, Option.some.injEq] at h
    subst h; exact ⟨rfl, rfl⟩
  | a :: r, j + 1, s, h => by
    have ih := sh_cell r j s (by simpa using h)
    rw [List.flatMap_cons, show (j + 1) * 2 = (j * 2) + 1 + 1 by omega]
    exact ih
theorem sh_flat_l : ∀ (ss : List Sh) (j : Nat) (z : Int) (v : Value) (l1 l2 : List Pe), (ss.set j ⟨z, v, l1⟩).flatMap shV = (ss.set j ⟨z, v, l2⟩).flatMap shV
  | [], _, _, _, _, _ => rfl
  | a :: r, 0, z, v, l1, l2 => rfl
  | a :: r, j + 1, z, v, l1, l2 => by rw [List.set_cons_succ, List.set_cons_succ, List.flatMap_cons, List.flatMap_cons, sh_flat_l r j z v l1 l2]
/-- the peers of a part -/
def partL (l : List Pe) (s : Nat) (n : Int) (i : Nat) : List Pe := l.filter fun p => decide (ofN p.en.ad s n = i)
def PartsOf (ss : List Sh) (l : List Pe) (s : Nat) (n : Int) : Prop := ss.length = partsN n ∧ ∀ (i : Nat) (x : Sh), ss[i]? = some x → x.size = ((partL l s n i).length : Int) ∧ x.l = partL l s n i
theorem partL_snoc {l : List Pe} {s : Nat} {n : Int} {i k : Nat} {x : Pe} (hx : l[k]? = some x) : partL (l.take (k + 1)) s n i = if ofN x.en.ad s n = i then partL (l.take k) s n i ++ [x] else partL (l.take k) s n i := by
  unfold partL
  rw [filt_snoc _ _ _ _ hx]
  by_cases h : ofN x.en.ad s n = i <;> simp [h]
theorem partL_len (l : List Pe) (s : Nat) (n : Int) (i : Nat) : (partL l s n i).length ≤ l.length := List.length_filter_le _ _
theorem parts_step {ss : List Sh} {l : List Pe} {s : Nat} {n : Int} {k j : Nat} {x : Pe} {v : Value} {y : Sh} (h : PartsOf ss (l.take k) s n) (hx : l[k]? = some x) (hj : j = ofN x.en.ad s n) (hy : ss[j]? = some y) :
    PartsOf (ss.set j ⟨y.size + 1, v, y.l ++ [x]⟩) (l.take (k + 1)) s n := by
  have hjl := (List.getElem?_eq_some_iff.1 hy).1
  refine ⟨by simpa using h.1, fun i t hi => ?_⟩
  rw [partL_snoc hx]
  by_cases e : i = j
  · subst e
    rw [List.getElem?_set_self hjl] at hi
    injection hi with hi
    subst hi
    obtain ⟨h1, h2⟩ := h.2 i y hy
    rw [if_pos hj.symm]
    refine ⟨?_, by rw [h2]⟩
    simp only [List.length_append, List.length_singleton]
    omega
  · rw [List.getElem?_set_ne (fun e' => e e'.symm)] at hi
    rw [if_neg (fun e' => e (by omega))]
    exact h.2 i t hi
theorem parts_none (s : Nat) (n : Int) : PartsOf (List.replicate (partsN n) zSh) [] s n := by
  refine ⟨by simp, fun i x hx => ?_⟩
  rw [List.getElem?_replicate] at hx
  split at hx
  · injection hx with hx; subst hx; exact ⟨rfl, rfl⟩
  · cases hx
theorem state_none (w : World) (base m : Nat) : ShState w base (List.replicate m zSh) := by
  refine ⟨fun s hs => ?_, fun i j s t _ h1 _ => ?_⟩
  · rw [List.eq_of_mem_replicate hs]; exact World.ownsRow_nil _ _ _ _
  · rw [List.eq_of_mem_replicate (List.mem_of_getElem? h1)]; exact apart_nil _
theorem made_pair (x y : Value) (hx : x.cells = #[x]) (hy : y.cells = #[y]) (m : Nat) : madeCells (Value.agg #[x, y]).cells (m * 2) = ((List.replicate m [x, y]).flatten).toArray := by
  have hc : (Value.agg #[x, y]).cells = #[x, y] := by simp [Value.cells, hx, hy]
  rw [hc]
  apply Array.ext'
  apply List.ext_getElem?
  intro j
  have hflat : ∀ m j : Nat, ((List.replicate m [x, y]).flatten)[j]? = if j < m * 2 then some (if j % 2 = 0 then x else y) else none := by
    intro m
    induction m with
    | zero => intro j; simp
    | succ m ih =>
      intro j
      rw [List.replicate_succ, List.flatten_cons]
      match j with
      | 0 => rw [if_pos (by omega)]; rfl
      | 1 => rw [if_pos (by omega)]; rfl
      | j + 2 =>
        show ((List.replicate m [x, y]).flatten)[j]? = _
        rw [ih, Nat.add_mod_right]
        by_cases h : j < m * 2
        · have h' : j + 2 < (m + 1) * 2 := by omega
          rw [if_pos h, if_pos h']
        · have h' : ¬ j + 2 < (m + 1) * 2 := by omega
          rw [if_neg h, if_neg h']
  rw [hflat]
  by_cases h : j < m * 2
  · rw [if_pos h]
    simp only [madeCells, Array.toList_map, Array.toList_range, List.getElem?_map, List.getElem?_range h, Option.map_some]
    congr 1
    have : j % 2 = 0 ∨ j % 2 = 1 := by omega
    rcases this with e | e <;> simp [e]
  · rw [if_neg h]
    exact List.getElem?_eq_none (by simp [madeCells]; omega)
theorem run_make_sh (m : Nat) (h : 1 ≤ m ∧ m ≤ 8) (W : World) : (Instr.makeSlice 37 (.int .i64 m) (.int .i64 m)).run Tryz.prog W = .ok (.slice (some ⟨W.heap.size, 0, none⟩) m m) (W.alloc (.cells ((List.replicate m zSh).flatMap shV).toArray 112)) := by
  obtain ⟨i, hi, hz0, hz1, hz2⟩ := info_parts (show (Tryz.prog.info? 112).map (fun i => (i.zero, i.size, i.bytes)) = some (some (.agg #[.int .i64 0, .slice none 0 0]), 2, 32) by kernel_rfl)
  have := run_make (P := Tryz.prog) W 37 112 i (.agg #[.int .i64 0, .slice none 0 0]) Tryz.underlying37 hi hz0 .i64 .i64 m m (by omega) (by omega) (by rw [hz2]; omega) (by omega)
  have e1 : ((m : Nat) : Int).toNat = m := by omega
  have e2 : madeCells (Value.agg #[.int .i64 0, .slice none 0 0]).cells (m * 2) = ((List.replicate m zSh).flatMap shV).toArray := by
    rw [made_pair _ _ (by simp [Value.cells]) (by simp [Value.cells]), List.flatMap_replicate]; rfl
  rw [this, e1, hz1, e2]
end Go.Proofs.YtnplgagaoeckoaaGreat
namespace Go.Proofs.YtnplgagaoeckoaaGreat
open Go.RowKit Go.Lib

set_option maxRecDepth 100000 in
set_option maxHeartbeats 16000000 in
theorem shSplit_firm (v : Value) (l : List Pe) (s : Nat) (hs : s < 18446744073709551616) (n : Int) (w : World) (h : ReadsL peV 10 w v l) (hf : ∀ p ∈ l, p.en.ad.fits) (hl : l.length ≤ 1000000) :
    Calls Tryz.prog 29 #[v, .int .u64 s, .int .i64 n] w fun e w' => ∃ r ss, e = .returned r ∧ (∀ W, (∀ b arr T, w.heap.size ≤ b → BlockIs w' b arr T → BlockIs W b arr T) → ReadsSh W r ss) ∧ PartsOf ss l s n ∧ Below w.heap.size w w' := by
  obtain ⟨hm, a0, c, rfl, h3⟩ := pes_open h
  clear h
  have HPa := Lib.hid (fun W => shParts_any n W)
  have hmi := partsN_in n
  have hmk := fun W => run_make_sh (partsN n) hmi W
  have HB0 : Hid (Below w.heap.size w (w.alloc (.cells ((List.replicate (partsN n) zSh).flatMap shV).toArray 112))) := (Below.refl _ _).alloc (Nat.le_refl _) _
  have HBk : Hid (BlockIs (w.alloc (.cells ((List.replicate (partsN n) zSh).flatMap shV).toArray 112)) w.heap.size ((List.replicate (partsN n) zSh).flatMap shV) 112) := BlockIs.new w _ _
  have HPn := Lib.hid (parts_none s n)
  have HSt := Lib.hid (state_none (w.alloc (.cells ((List.replicate (partsN n) zSh).flatMap shV).toArray 112)) (w.heap.size + 1) (partsN n))
  obtain ⟨m, hmm⟩ : ∃ m, m = partsN n := ⟨_, rfl⟩
  have HM := Lib.hid hmm
  rw [← hmm] at HPa hmi hmk HB0 HBk HPn HSt
  clear hmm
  obtain ⟨g, hg⟩ : ∃ g, g = w.heap.size := ⟨_, rfl⟩
  have HG := Lib.hid hg
  rw [← hg] at HBk HSt
  go_enter Tryz.func29, Tryz.ntmps29
  go_wp2_with (go_at_call 64; (with_reducible refine (HPa.out _).mono ?_); rintro e w' ⟨rfl, rfl⟩)
  rw [← hg]
  clear hmk hg
  go_loopw [10, 16] (fun _ i' wr => ∃ (k : Nat) (ss : List Sh), k ≤ l.length ∧ i' = .int .i64 k ∧ Hid (BlockIs wr g (ss.flatMap shV) 112) ∧ Hid (PartsOf ss (l.take k) s n) ∧ Hid (ShState wr (g + 1) ss) ∧ Hid (Below w.heap.size w wr)) (fun _ i' _ => l.length - (intOf i').toNat)
  case atStart => exact ⟨0, _, by omega, rfl, HBk.out, HPn.out, HSt.out, HB0.out⟩
  case round =>
    clear HB0 HBk HPn HSt
    obtain ⟨k, ss, hk, rfl, HK, HP, HS, HB⟩ := hrel
    by_cases hlt : k < l.length
    · obtain ⟨x, hx⟩ : ∃ x, l[k]? = some x := ⟨_, List.getElem?_eq_getElem hlt⟩
      obtain ⟨b, o, rfl, h4, h5, h6⟩ := h3 (by omega)
      have KX := (h6 k x hx).below HB.out h5
      obtain ⟨k0, k1, k2, k3, k4, k5, k6, k7, k8, k9⟩ := KX
      have q1 : (0 : Int) ≤ (k : Int) := by omega
      have q2 : (k : Int) < (l.length : Int) := by omega
      have hfx := hf x (List.mem_of_getElem? hx)
      have hO := fun W => shOf_any x.en.ad hfx s hs n W
      obtain ⟨j, hj⟩ : ∃ j, j = ofN x.en.ad s n := ⟨_, rfl⟩
      have hjm : j < m := by rw [hj, HM.out]; exact ofN_lt _ _ _
      rw [← hj] at hO
      have HO := Lib.hid hO
      obtain ⟨y, hy⟩ : ∃ y, ss[j]? = some y := ⟨_, List.getElem?_eq_getElem (by have := HP.out.1; have := HM.out; omega)⟩
      have hPS := fun vv => parts_step (v := vv) HP.out hx hj hy
      have hyl : y.l.length ≤ k := by
        rw [(HP.out.2 j y hy).2]
        exact Nat.le_trans (partL_len _ _ _ _) (by rw [List.length_take]; omega)
      have hysz : y.size = (y.l.length : Int) := by rw [(HP.out.2 j y hy).1, (HP.out.2 j y hy).2]
      have HNX : Hid (y.v.ownBlock ≠ some wr.heap.size) := fun e => absurd ((HS.out.1 y (List.mem_of_getElem? hy)).lt _ e).2 (Nat.lt_irrefl _)
      have HPS := Lib.hid hPS; have HY := Lib.hid hy
      clear hx h6 hO hj hPS h3 hy
      go_upto_region 5 with (refine list_store_blk rfl 52 _ _ rfl (wr.heap.size) _ _ 52 (BlockIs.newAt' _ _ _ (by simp)) rfl rfl (by kernel_rfl) rfl (by simp [Value.oneCell']) wr.heap.size wr (by exact bel) (Nat.le_refl _) ?_; intro W5 hP hoth hsz b5; clear hoth hsz; dsimp only [Act.put])
      clear k0 k1 k2 k3 k4 k5 k6 k7 k8 k9
      have HB5 := Lib.hid (HB.out.trans (b5.mono HB.out.size))
      have HK5 := Lib.hid (HK.out.below b5); have HS5 := Lib.hid (HS.out.below b5)
      have hgw : g < wr.heap.size := HK.out.lt
      have HX5 := Lib.hid hP
      obtain ⟨X, hX⟩ : ∃ X, X = wr.heap.size := ⟨_, rfl⟩
      rw [← hX] at HX5 hP hgw HNX
      try rw [← hX]
      have x0 := hP.cell (i := 0) rfl; have x1 := hP.cell (i := 1) rfl; have x2 := hP.cell (i := 2) rfl
      have p1 : (0 : Int) ≤ (j : Int) := by omega
      have p2 : (j : Int) < (m : Int) := by omega
      clear hP b5 hX HK HS HB HP
      go_upto_region 6 with (go_at_call 65; (with_reducible refine (HO.out _).mono ?_); rintro e W6 ⟨rfl, b6⟩)
      have HB6 := Lib.hid (below2 HB5.out b6)
      have HK6 := Lib.hid (HK5.out.below b6); have HS6 := Lib.hid (HS5.out.below b6)
      have hX6 := HX5.out.below b6
      have lX := hX6.lt; have lG := HK6.out.lt
      clear x0 x1 x2 b6 HB5 HK5 HS5 HX5 HO
      have x0 := hX6.cell (i := 0) rfl; have x1 := hX6.cell (i := 1) rfl; have x2 := hX6.cell (i := 2) rfl; have x3 := hX6.cell (i := 3) rfl; have x4 := hX6.cell (i := 4) rfl; have x5 := hX6.cell (i := 5) rfl; have x6 := hX6.cell (i := 6) rfl; have x7 := hX6.cell (i := 7) rfl; have x8 := hX6.cell (i := 8) rfl; have x9 := hX6.cell (i := 9) rfl
      have hc := sh_cell ss j y HY.out
      have s1 := HK6.out.cell hc.2; have s0 := HK6.out.cell hc.1
      have sf := HK6.out.frozen
      have HOy := Lib.hid (HS6.out.1 y (List.mem_of_getElem? HY.out))
      have HNE := Lib.hid (owns_neB HOy.out (Nat.lt_succ_self g))
      have HX6 : Hid (BlockIs W6 X (peV x) 52) := hX6
      clear hX6 hc
      obtain ⟨ysz, yv, yl⟩ := y
      simp only at hysz hyl s0 s1 HOy HNE HPS
      have hw1 : IntKind.i64.wrap (ysz + 1) = ysz + 1 := by rw [IntKind.wrap_i64]; omega
      clear hysz
      obtain ⟨ga, cy, rfl⟩ := owns_slice HOy.out
      have nXg : X ≠ g := by omega
      have nGX : g ≠ X := by omega
      go_region_law (first | (refine step_app_reads_at peRow (by rfl) (.tmp 32) (.tmp 34) (by rfl) (g + 1) (.slice ga yl.length cy) yl.length (yl.flatMap peV) (by rfl) (by (repeat (first | (with_reducible exact HOy.out) | (with_reducible refine World.ownsRow.alloc ?_ _) | (with_reducible refine World.ownsRow.drew ?_))); done) _ 1 (peV x) (by rfl) (reads_blk (B := W6.heap.size) (T := 52) (by (repeat (first | (with_reducible refine BlockIs.drew' ?_) | ((refine BlockIs.newAt' _ _ _ ?_); (first | rfl | (simp; done))))); done) rfl (Nat.succ_pos 9)) (peV_one1 x) (by omega) (by omega) (by first | omega | (simp; omega)) ?_; intro v7 w7 o7 g7 a7; obtain ⟨gv, cv, rfl⟩ := owns_slice o7; have hK7 : BlockIs w7 g (ss.flatMap shV) 112 := blk_grown (by (repeat (first | (with_reducible exact HK6.out) | (with_reducible refine BlockIs.alloc' ?_ _) | (with_reducible refine BlockIs.drew' ?_))); done) g7 HNE.out; have hX7 : BlockIs w7 X (peV x) 52 := blk_grown (by (repeat (first | (with_reducible exact HX6.out) | (with_reducible refine BlockIs.alloc' ?_ _) | (with_reducible refine BlockIs.drew' ?_))); done) g7 HNX.out; have sf7 := hK7.frozen; obtain ⟨dX0, dX1, dX2, dX3, dX4, dX5, dX6, dX7, dX8, dX9⟩ := peIn_box hX7; simp only [Nat.zero_add] at dX0 dX1 dX2 dX3 dX4 dX5 dX6 dX7 dX8 dX9; have s70 := hK7.cell (sh_cell ss j _ HY.out).1; have s71 := hK7.cell (sh_cell ss j _ HY.out).2; dsimp only at s70 s71) | fail)
      all_goals
        go_upto_region 7 with fail
        go_name_world W8 hW8
        have hb7 : Below (g + 1) W6 w7 := below_grown (base := g + 1) (e := 52) (size := 10) (v := .slice ga yl.length cy) (n := yl.length) (xs := yl.flatMap peV) (by (repeat (first | (with_reducible exact HOy.out) | (with_reducible refine World.ownsRow.alloc ?_ _) | (with_reducible refine World.ownsRow.drew ?_))); done) (by exact bel) (Nat.le_refl _) (by first | omega | (simp; omega)) g7
        have hS7 : ShState w7 (g + 1) (ss.set j ⟨ysz, .slice gv (yl.length + 1) cv, yl ++ [x]⟩) := ShState.grow (HS6.out.below (by exact bel)) HY.out g7 (by rw [show (yl ++ [x]).length = yl.length + 1 by simp, show (yl ++ [x]).flatMap peV = yl.flatMap peV ++ peV x by rw [List.flatMap_append]; simp]; exact o7) (Nat.le_refl _) a7
        have hK8 := hK7.set (j * 2 + 1) (.slice gv (yl.length + 1) cv)
        rw [sh_set_v ss j _ _ HY.out] at hK8
        have hS8 := hS7.set (i := j * 2 + 1) hK7 (Nat.lt_succ_self g) (.slice gv (yl.length + 1) cv)
        have hB8 : Below w.heap.size w (w7.setCell ⟨g, j * 2 + 1, none⟩ (.slice gv (yl.length + 1) cv)) := (HB6.out.trans (hb7.mono (by have := HG.out; omega))).setCell (by have := HG.out; show _ ≤ g; omega) _
        rw [hW8] at hK8 hS8 hB8
        have hj' : (ss.set j ⟨ysz, .slice gv (yl.length + 1) cv, yl⟩)[j]? = some ⟨ysz, .slice gv (yl.length + 1) cv, yl⟩ := List.getElem?_set_self (List.getElem?_eq_some_iff.1 HY.out).1
        have hj2 : (ss.set j ⟨ysz, .slice gv (yl.length + 1) cv, yl ++ [x]⟩)[j]? = some ⟨ysz, .slice gv (yl.length + 1) cv, yl ++ [x]⟩ := List.getElem?_set_self (List.getElem?_eq_some_iff.1 HY.out).1
        have s80 := hK8.cell (sh_cell _ j _ hj').1
        dsimp only at s80
        have sf8 := hK8.frozen
        have lG8 := hK8.lt
        have HK8 := Lib.hid hK8; have HS8 := Lib.hid hS8; have HB8 := Lib.hid hB8; have HJ1 := Lib.hid hj'; have HJ2 := Lib.hid hj2
        clear hW8 hb7 hS7 hK8 hS8 hB8 hj' hj2 dX0 dX1 dX2 dX3 dX4 dX5 dX6 dX7 dX8 dX9 s70 s71 sf7 o7 g7 a7 hK7 hX7 x0 x1 x2 x3 x4 x5 x6 x7 x8 x9 s0 s1 sf HX6 HK6 HS6 HB6
        go_upto_region 8 with fail
        go_name_world W9 hW9
        have hK9 := HK8.out.set (j * 2) (.int .i64 (ysz + 1))
        rw [sh_set_z _ j _ _ HJ1.out, List.set_set] at hK9
        have hS9 := (HS8.out.resize HJ2.out (ysz + 1)).set (i := j * 2) HK8.out (Nat.lt_succ_self g) (.int .i64 (ysz + 1))
        rw [List.set_set] at hS9
        have hB9 : Below w.heap.size w (W8.setCell ⟨g, j * 2, none⟩ (.int .i64 (ysz + 1))) := HB8.out.setCell (by have := HG.out; show _ ≤ g; omega) _
        rw [hW9] at hK9 hS9 hB9
        rw [sh_flat_l _ _ _ _ _ (yl ++ [x])] at hK9
        have HK9 := Lib.hid hK9; have HS9 := Lib.hid hS9; have HB9 := Lib.hid hB9
        clear hW9 hK9 hS9 hB9 s80 sf8 HK8 HS8 HB8
        go_wp2_with fail
        go_roundw
        case rel => exact ⟨k + 1, _, by omega, by go_num, HK9.out, HPS.out _, HS9.out, HB9.out⟩
        case measure => simp [intOf]; omega
    · obtain rfl : k = l.length := by omega
      have hTk : l.take l.length = l := List.take_length
      rw [hTk] at HP
      have hlen : ss.length = m := by rw [HP.out.1, HM.out]
      have hR : ∀ W, (∀ b arr T, w.heap.size ≤ b → BlockIs wr b arr T → BlockIs W b arr T) → ReadsSh W (.slice (some ⟨g, 0, none⟩) m m) ss := fun W hk => by
        rw [← hlen]
        have hgw := HG.out
        refine ⟨reads_blkC (hk _ _ _ (by omega) HK.out) (by rw [hlen]; omega) (by rw [hlen]; omega) ?_, fun t ht => owns_readsL (owns_held (HS.out.1 t ht) fun b arr hb hB => hk b arr _ (by omega) hB)⟩
        rw [List.length_flatMap]
        rw [show (List.map (fun a => (shV a).length) ss) = List.replicate ss.length 2 by rw [List.eq_replicate_iff]; simp [shV]]
        simp
      have HR := Lib.hid hR
      clear hR hTk hlen h3
      go_wp2_with fail
      go_ret
      exact ⟨_, ss, rfl, HR.out, HP.out, HB.out⟩
end Go.Proofs.YtnplgagaoeckoaaGreat
