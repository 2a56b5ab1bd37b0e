/- Texts put together: ShJ. No condition. -/
import Derived.Test.YtnplgagaoeckoaaRyvnzmdpyde
import Derived.Test.YtnplgagaoeckoaaRwioubrlxuu
import Derived.Deep.RegionLaw
namespace Go.Proofs.Ytnplgagaoeckoaa
open Go.RowKit Go.Lib

set_option maxRecDepth 100000 in
set_option maxHeartbeats 16000000 in
theorem shSplit_firm (v : Value) (l : List Pe) (s : Nat) (hs : s < 18446744073709551616) (n : Int) (w : World) (h : ReadsL peV 10 w v l) (hf : ∀ p ∈ l, p.en.ad.fits) (hl : l.length ≤ 1000000) :
    Calls Try.prog 13 #[v, .int .u64 s, .int .i64 n] w fun e w' => ∃ r ss, e = .returned r ∧ (∀ W, (∀ b arr T, w.heap.size ≤ b → BlockIs w' b arr T → BlockIs W b arr T) → ReadsSh W r ss) ∧ PartsOf ss l s n ∧ Below w.heap.size w w' := by
  obtain ⟨hm, a0, c, rfl, h3⟩ := pes_open h
  clear h
  have HPa := Lib.hid (fun W => shParts_any n W)
  have hmi := partsN_in n
  have hmk := fun W => run_make_sh (partsN n) hmi W
  have HB0 : Hid (Below w.heap.size w (w.alloc (.cells ((List.replicate (partsN n) zSh).flatMap shV).toArray 92))) := (Below.refl _ _).alloc (Nat.le_refl _) _
  have HBk : Hid (BlockIs (w.alloc (.cells ((List.replicate (partsN n) zSh).flatMap shV).toArray 92)) w.heap.size ((List.replicate (partsN n) zSh).flatMap shV) 92) := BlockIs.new w _ _
  have HPn := Lib.hid (parts_none s n)
  have HSt := Lib.hid (state_none (w.alloc (.cells ((List.replicate (partsN n) zSh).flatMap shV).toArray 92)) (w.heap.size + 1) (partsN n))
  obtain ⟨m, hmm⟩ : ∃ m, m = partsN n := ⟨_, rfl⟩
  have HM := Lib.hid hmm
  rw [← hmm] at HPa hmi hmk HB0 HBk HPn HSt
  clear hmm
  obtain ⟨g, hg⟩ : ∃ g, g = w.heap.size := ⟨_, rfl⟩
  have HG := Lib.hid hg
  rw [← hg] at HBk HSt
  go_enter Try.func13, Try.ntmps13
  go_wp2_with (go_at_call 29; (with_reducible refine (HPa.out _).mono ?_); rintro e w' ⟨rfl, rfl⟩)
  rw [← hg]
  clear hmk hg
  go_loopw [10, 16] (fun _ i' wr => ∃ (k : Nat) (ss : List Sh), k ≤ l.length ∧ i' = .int .i64 k ∧ Hid (BlockIs wr g (ss.flatMap shV) 92) ∧ Hid (PartsOf ss (l.take k) s n) ∧ Hid (ShState wr (g + 1) ss) ∧ Hid (Below w.heap.size w wr)) (fun _ i' _ => l.length - (intOf i').toNat)
  case atStart => exact ⟨0, _, by omega, rfl, HBk.out, HPn.out, HSt.out, HB0.out⟩
  case round =>
    clear HB0 HBk HPn HSt
    obtain ⟨k, ss, hk, rfl, HK, HP, HS, HB⟩ := hrel
    by_cases hlt : k < l.length
    · obtain ⟨x, hx⟩ : ∃ x, l[k]? = some x := ⟨_, List.getElem?_eq_getElem hlt⟩
      obtain ⟨b, o, rfl, h4, h5, h6⟩ := h3 (by omega)
      have KX := (h6 k x hx).below HB.out h5
      obtain ⟨k0, k1, k2, k3, k4, k5, k6, k7, k8, k9⟩ := KX
      have q1 : (0 : Int) ≤ (k : Int) := by omega
      have q2 : (k : Int) < (l.length : Int) := by omega
      have hfx := hf x (List.mem_of_getElem? hx)
      have hO := fun W => shOf_any x.en.ad hfx s hs n W
      obtain ⟨j, hj⟩ : ∃ j, j = ofN x.en.ad s n := ⟨_, rfl⟩
      have hjm : j < m := by rw [hj, HM.out]; exact ofN_lt _ _ _
      rw [← hj] at hO
      have HO := Lib.hid hO
      obtain ⟨y, hy⟩ : ∃ y, ss[j]? = some y := ⟨_, List.getElem?_eq_getElem (by have := HP.out.1; have := HM.out; omega)⟩
      have hPS := fun vv => parts_step (v := vv) HP.out hx hj hy
      have hyl : y.l.length ≤ k := by
        rw [(HP.out.2 j y hy).2]
        exact Nat.le_trans (partL_len _ _ _ _) (by rw [List.length_take]; omega)
      have hysz : y.size = (y.l.length : Int) := by rw [(HP.out.2 j y hy).1, (HP.out.2 j y hy).2]
      have HNX : Hid (y.v.ownBlock ≠ some wr.heap.size) := fun e => absurd ((HS.out.1 y (List.mem_of_getElem? hy)).lt _ e).2 (Nat.lt_irrefl _)
      have HPS := Lib.hid hPS; have HY := Lib.hid hy
      clear hx h6 hO hj hPS h3 hy
      go_upto_region 5 with (refine list_store_blk rfl 50 _ _ rfl (wr.heap.size) _ _ 50 (BlockIs.newAt' _ _ _ (by simp)) rfl rfl (by kernel_rfl) rfl (by simp [Value.oneCell']) wr.heap.size wr (by (repeat (first | with_reducible assumption | with_reducible exact Below.refl _ _ | with_reducible refine Below.setCell ?_ (by first | omega | (simp; done) | (simp; omega)) _ | with_reducible refine Below.alloc ?_ (by first | omega | (simp; done) | (simp; omega)) _ | with_reducible refine Below.drew ?_ | (with_reducible refine Below.trans ?_ (Below.mono (by with_reducible assumption) (by first | omega | (simp; done) | (simp; omega)))) | (refine Below.trans ?_ (Below.mono (by assumption) (by first | omega | (simp; done) | (simp; omega))))))) (Nat.le_refl _) ?_; intro W5 hP hoth hsz b5; clear hoth hsz; dsimp only [Act.put])
      clear k0 k1 k2 k3 k4 k5 k6 k7 k8 k9
      have HB5 := Lib.hid (HB.out.trans (b5.mono HB.out.size))
      have HK5 := Lib.hid (HK.out.below b5); have HS5 := Lib.hid (HS.out.below b5)
      have hgw : g < wr.heap.size := HK.out.lt
      have HX5 := Lib.hid hP
      obtain ⟨X, hX⟩ : ∃ X, X = wr.heap.size := ⟨_, rfl⟩
      rw [← hX] at HX5 hP hgw HNX
      try rw [← hX]
      have x0 := hP.cell (i := 0) rfl; have x1 := hP.cell (i := 1) rfl; have x2 := hP.cell (i := 2) rfl
      have p1 : (0 : Int) ≤ (j : Int) := by omega
      have p2 : (j : Int) < (m : Int) := by omega
      clear hP b5 hX HK HS HB HP
      go_upto_region 6 with (go_at_call 30; (with_reducible refine (HO.out _).mono ?_); rintro e W6 ⟨rfl, b6⟩)
      have HB6 := Lib.hid (below2 HB5.out b6)
      have HK6 := Lib.hid (HK5.out.below b6); have HS6 := Lib.hid (HS5.out.below b6)
      have hX6 := HX5.out.below b6
      have lX := hX6.lt; have lG := HK6.out.lt
      clear x0 x1 x2 b6 HB5 HK5 HS5 HX5 HO
      have x0 := hX6.cell (i := 0) rfl; have x1 := hX6.cell (i := 1) rfl; have x2 := hX6.cell (i := 2) rfl; have x3 := hX6.cell (i := 3) rfl; have x4 := hX6.cell (i := 4) rfl; have x5 := hX6.cell (i := 5) rfl; have x6 := hX6.cell (i := 6) rfl; have x7 := hX6.cell (i := 7) rfl; have x8 := hX6.cell (i := 8) rfl; have x9 := hX6.cell (i := 9) rfl
      have hc := sh_cell ss j y HY.out
      have s1 := HK6.out.cell hc.2; have s0 := HK6.out.cell hc.1
      have sf := HK6.out.frozen
      have HOy := Lib.hid (HS6.out.1 y (List.mem_of_getElem? HY.out))
      have HNE := Lib.hid (owns_neB HOy.out (Nat.lt_succ_self g))
      have HX6 : Hid (BlockIs W6 X (peV x) 50) := hX6
      clear hX6 hc
      obtain ⟨ysz, yv, yl⟩ := y
      simp only at hysz hyl s0 s1 HOy HNE HPS
      have hw1 : IntKind.i64.wrap (ysz + 1) = ysz + 1 := by rw [IntKind.wrap_i64]; omega
      clear hysz
      obtain ⟨ga, cy, rfl⟩ := owns_slice HOy.out
      have nXg : X ≠ g := by omega
      have nGX : g ≠ X := by omega
      go_region_law (first | (refine step_app_reads_at peRow (by rfl) (.tmp 32) (.tmp 34) (by rfl) (g + 1) (.slice ga yl.length cy) yl.length (yl.flatMap peV) (by rfl) (by (repeat (first | (with_reducible exact HOy.out) | (with_reducible refine World.ownsRow.alloc ?_ _) | (with_reducible refine World.ownsRow.drew ?_))); done) _ 1 (peV x) (by rfl) (reads_blk (B := W6.heap.size) (T := 50) (by (repeat (first | (with_reducible refine BlockIs.drew' ?_) | ((refine BlockIs.newAt' _ _ _ ?_); (first | rfl | (simp; done))))); done) rfl (Nat.succ_pos 9)) (peV_one1 x) (by omega) (by omega) (by first | omega | (simp; omega)) ?_; intro v7 w7 o7 g7 a7; obtain ⟨gv, cv, rfl⟩ := owns_slice o7; have hK7 : BlockIs w7 g (ss.flatMap shV) 92 := blk_grown (by (repeat (first | (with_reducible exact HK6.out) | (with_reducible refine BlockIs.alloc' ?_ _) | (with_reducible refine BlockIs.drew' ?_))); done) g7 HNE.out; have hX7 : BlockIs w7 X (peV x) 50 := blk_grown (by (repeat (first | (with_reducible exact HX6.out) | (with_reducible refine BlockIs.alloc' ?_ _) | (with_reducible refine BlockIs.drew' ?_))); done) g7 HNX.out; have sf7 := hK7.frozen; obtain ⟨dX0, dX1, dX2, dX3, dX4, dX5, dX6, dX7, dX8, dX9⟩ := peIn_box hX7; simp only [Nat.zero_add] at dX0 dX1 dX2 dX3 dX4 dX5 dX6 dX7 dX8 dX9; have s70 := hK7.cell (sh_cell ss j _ HY.out).1; have s71 := hK7.cell (sh_cell ss j _ HY.out).2; dsimp only at s70 s71) | fail)
      all_goals
        go_upto_region 7 with fail
        go_name_world W8 hW8
        have hb7 : Below (g + 1) W6 w7 := below_grown (base := g + 1) (e := 50) (size := 10) (v := .slice ga yl.length cy) (n := yl.length) (xs := yl.flatMap peV) (by (repeat (first | (with_reducible exact HOy.out) | (with_reducible refine World.ownsRow.alloc ?_ _) | (with_reducible refine World.ownsRow.drew ?_))); done) (by (repeat (first | with_reducible assumption | with_reducible exact Below.refl _ _ | with_reducible refine Below.setCell ?_ (by first | omega | (simp; done) | (simp; omega)) _ | with_reducible refine Below.alloc ?_ (by first | omega | (simp; done) | (simp; omega)) _ | with_reducible refine Below.drew ?_ | (with_reducible refine Below.trans ?_ (Below.mono (by with_reducible assumption) (by first | omega | (simp; done) | (simp; omega)))) | (refine Below.trans ?_ (Below.mono (by assumption) (by first | omega | (simp; done) | (simp; omega))))))) (Nat.le_refl _) (by first | omega | (simp; omega)) g7
        have hS7 : ShState w7 (g + 1) (ss.set j ⟨ysz, .slice gv (yl.length + 1) cv, yl ++ [x]⟩) := ShState.grow (HS6.out.below (by (repeat (first | with_reducible assumption | with_reducible exact Below.refl _ _ | with_reducible refine Below.setCell ?_ (by first | omega | (simp; done) | (simp; omega)) _ | with_reducible refine Below.alloc ?_ (by first | omega | (simp; done) | (simp; omega)) _ | with_reducible refine Below.drew ?_ | (with_reducible refine Below.trans ?_ (Below.mono (by with_reducible assumption) (by first | omega | (simp; done) | (simp; omega)))) | (refine Below.trans ?_ (Below.mono (by assumption) (by first | omega | (simp; done) | (simp; omega)))))))) HY.out g7 (by rw [show (yl ++ [x]).length = yl.length + 1 by simp, show (yl ++ [x]).flatMap peV = yl.flatMap peV ++ peV x by rw [List.flatMap_append]; simp]; exact o7) (Nat.le_refl _) a7
        have hK8 := hK7.set (j * 2 + 1) (.slice gv (yl.length + 1) cv)
        rw [sh_set_v ss j _ _ HY.out] at hK8
        have hS8 := hS7.set (i := j * 2 + 1) hK7 (Nat.lt_succ_self g) (.slice gv (yl.length + 1) cv)
        have hB8 : Below w.heap.size w (w7.setCell ⟨g, j * 2 + 1, none⟩ (.slice gv (yl.length + 1) cv)) := (HB6.out.trans (hb7.mono (by have := HG.out; omega))).setCell (by have := HG.out; show _ ≤ g; omega) _
        rw [hW8] at hK8 hS8 hB8
        have hj' : (ss.set j ⟨ysz, .slice gv (yl.length + 1) cv, yl⟩)[j]? = some ⟨ysz, .slice gv (yl.length + 1) cv, yl⟩ := List.getElem?_set_self (List.getElem?_eq_some_iff.1 HY.out).1
        have hj2 : (ss.set j ⟨ysz, .slice gv (yl.length + 1) cv, yl ++ [x]⟩)[j]? = some ⟨ysz, .slice gv (yl.length + 1) cv, yl ++ [x]⟩ := List.getElem?_set_self (List.getElem?_eq_some_iff.1 HY.out).1
        have s80 := hK8.cell (sh_cell _ j _ hj').1
        dsimp only at s80
        have sf8 := hK8.frozen
        have lG8 := hK8.lt
        have HK8 := Lib.hid hK8; have HS8 := Lib.hid hS8; have HB8 := Lib.hid hB8; have HJ1 := Lib.hid hj'; have HJ2 := Lib.hid hj2
        clear hW8 hb7 hS7 hK8 hS8 hB8 hj' hj2 dX0 dX1 dX2 dX3 dX4 dX5 dX6 dX7 dX8 dX9 s70 s71 sf7 o7 g7 a7 hK7 hX7 x0 x1 x2 x3 x4 x5 x6 x7 x8 x9 s0 s1 sf HX6 HK6 HS6 HB6
        go_upto_region 8 with fail
        go_name_world W9 hW9
        have hK9 := HK8.out.set (j * 2) (.int .i64 (ysz + 1))
        rw [sh_set_z _ j _ _ HJ1.out, List.set_set] at hK9
        have hS9 := (HS8.out.resize HJ2.out (ysz + 1)).set (i := j * 2) HK8.out (Nat.lt_succ_self g) (.int .i64 (ysz + 1))
        rw [List.set_set] at hS9
        have hB9 : Below w.heap.size w (W8.setCell ⟨g, j * 2, none⟩ (.int .i64 (ysz + 1))) := HB8.out.setCell (by have := HG.out; show _ ≤ g; omega) _
        rw [hW9] at hK9 hS9 hB9
        rw [sh_flat_l _ _ _ _ _ (yl ++ [x])] at hK9
        have HK9 := Lib.hid hK9; have HS9 := Lib.hid hS9; have HB9 := Lib.hid hB9
        clear hW9 hK9 hS9 hB9 s80 sf8 HK8 HS8 HB8
        go_wp2_with fail
        go_roundw
        case rel => exact ⟨k + 1, _, by omega, by go_num, HK9.out, HPS.out _, HS9.out, HB9.out⟩
        case measure => simp [intOf]; omega
    · obtain rfl : k = l.length := by omega
      have hTk : l.take l.length = l := List.take_length
      rw [hTk] at HP
      have hlen : ss.length = m := by rw [HP.out.1, HM.out]
      have hR : ∀ W, (∀ b arr T, w.heap.size ≤ b → BlockIs wr b arr T → BlockIs W b arr T) → ReadsSh W (.slice (some ⟨g, 0, none⟩) m m) ss := fun W hk => by
        rw [← hlen]
        have hgw := HG.out
        refine ⟨reads_blkC (hk _ _ _ (by omega) HK.out) (by rw [hlen]; omega) (by rw [hlen]; omega) ?_, fun t ht => owns_readsL (owns_held (HS.out.1 t ht) fun b arr hb hB => hk b arr _ (by omega) hB)⟩
        rw [List.length_flatMap]
        rw [show (List.map (fun a => (shV a).length) ss) = List.replicate ss.length 2 by rw [List.eq_replicate_iff]; simp [shV]]
        simp
      have HR := Lib.hid hR
      clear hR hTk hlen h3
      go_wp2_with fail
      go_ret
      exact ⟨_, ss, rfl, HR.out, HP.out, HB.out⟩
end Go.Proofs.Ytnplgagaoeckoaa
