/- Texts put together: Evict, EvictB, PlEvictB. No condition. -/
import Derived.Test.YtppmjbnhghaffaaQae214cktgloe
import Derived.Test.YtppmjbnhghaffaaQ67299crwqvam
/- The contracts of evict, and of the document's. Conditions: numbers are 64 bits. -/
namespace Go.Proofs.Ytppmjbnhghaffaa
open Go.RowKit
set_option linter.unusedSimpArgs false
set_option linter.unusedVariables false

def cameL (l : List Pe) : List Pe := l.filter fun p => p.came
theorem cameL_snoc (l : List Pe) (p : Pe) : cameL (l ++ [p]) = cameL l ++ (if p.came = true then [p] else []) := by
  unfold cameL; rw [List.filter_append]; congr 1
  simp only [List.filter_cons, List.filter_nil]
theorem cameL_le (l : List Pe) : (cameL l).length ≤ l.length := List.length_filter_le _ _
theorem cameL_fits {l : List Pe} (hl : ∀ x ∈ l, x.fits) : ∀ x ∈ cameL l, x.fits := fun x hx => hl x (List.mem_filter.1 hx).1
theorem pe_snoc (L : List Pe) (p : Pe) : (L ++ [p]).flatMap peV = L.flatMap peV ++ peV p := by rw [List.flatMap_append, List.flatMap_cons, List.flatMap_nil, List.append_nil]
set_option maxRecDepth 100000 in
set_option maxHeartbeats 8000000 in
theorem came_any (v : Value) (l : List Pe) (w : World) (h : ReadsL peV 10 w v l) (hn : l.length ≤ 1000000) :
    Calls Try.prog 174 #[v] w fun e w' => ∃ r, e = .returned r ∧ ReadsL peV 10 w' r (cameL l) ∧ Below w.heap.size w w' := by
  obtain ⟨hm, p, c, rfl, h3⟩ := pes_open h
  clear h
  go_enter Try.func174, Try.ntmps174
  go_wp2_with fail
  go_loopw [3, 8] (fun o' i' wr => ∃ k : Nat, k ≤ l.length ∧ i' = .int .i64 k ∧ Hid (wr.ownsRow w.heap.size 66 10 o' (cameL (l.take k)).length ((cameL (l.take k)).flatMap peV)) ∧ Hid (Below w.heap.size w wr)) (fun _ i' _ => l.length - (intOf i').toNat)
  case atStart => exact ⟨0, by omega, rfl, ⟨rfl, Or.inl ⟨rfl, rfl⟩⟩, Below.refl _ _⟩
  case round =>
    obtain ⟨k, hk, rfl, HO, HB⟩ := hrel
    by_cases hlt : k < l.length
    · obtain ⟨p, hp⟩ : ∃ p, l[k]? = some p := ⟨_, List.getElem?_eq_getElem hlt⟩
      obtain ⟨b, o, rfl, h4, h5, h6⟩ := h3 (by omega)
      have K := (h6 k p hp).below HB.out h5
      have q1 : (0 : Int) ≤ (k : Int) := by omega
      have q2 : (k : Int) < (l.length : Int) := by omega
      have hS := cameL_snoc (l.take k) p
      rw [← show l.take (k + 1) = l.take k ++ [p] by rw [List.take_add_one, hp, Option.toList_some]] at hS
      have HS := Lib.hid hS
      have hcl : (cameL (l.take k)).length ≤ k := Nat.le_trans (cameL_le _) (by rw [List.length_take]; omega)
      obtain ⟨k0, k1, k2, k3, k4, k5, k6, k7, k8, k9⟩ := K
      clear hp h6 hS
      go_upto_region 5 with (refine list_store_blk rfl 66 _ _ rfl (wr.heap.size) _ _ 66 (BlockIs.newAt' _ _ _ (by simp)) rfl rfl (by kernel_rfl) rfl (by simp [Value.oneCell']) wr.heap.size wr (by (repeat (first | with_reducible assumption | with_reducible exact Below.refl _ _ | with_reducible refine Below.setCell ?_ (by first | omega | (simp; done) | (simp; omega)) _ | with_reducible refine Below.alloc ?_ (by first | omega | (simp; done) | (simp; omega)) _ | with_reducible refine Below.drew ?_ | (with_reducible refine Below.trans ?_ (Below.mono (by with_reducible assumption) (by first | omega | (simp; done) | (simp; omega)))) | (refine Below.trans ?_ (Below.mono (by assumption) (by first | omega | (simp; done) | (simp; omega))))))) (Nat.le_refl _) ?_; intro W5 hP hoth hsz b5; clear hoth hsz)
      clear k0 k1 k2 k3 k4 k5 k6 k7 k8 k9
      have HO5 := Lib.hid (owns_below HO.out b5)
      have HB5 := Lib.hid (HB.out.trans (b5.mono HB.out.size))
      have x0 := hP.cell (i := 0) rfl
      have x1 := hP.cell (i := 1) rfl
      have x2 := hP.cell (i := 2) rfl
      have x3 := hP.cell (i := 3) rfl
      have x4 := hP.cell (i := 4) rfl
      have x5 := hP.cell (i := 5) rfl
      have x6 := hP.cell (i := 6) rfl
      have x7 := hP.cell (i := 7) rfl
      have x8 := hP.cell (i := 8) rfl
      have x9 := hP.cell (i := 9) rfl
      have xf := hP.frozen
      have xl := hP.lt
      cases hc : p.came with
      | false =>
        rw [hc] at x4
        have HS2 : Hid (cameL (l.take (k + 1)) = cameL (l.take k)) := by show _ = _; rw [HS.out, hc]; simp
        clear hc
        go_wp2_with fail
        go_roundw
        case rel => exact ⟨k + 1, by omega, by go_num, by rw [HS2.out]; exact HO5.out, HB5.out⟩
        case measure => simp [intOf]; omega
      | true =>
        have HS2 : Hid (cameL (l.take (k + 1)) = cameL (l.take k) ++ [p]) := by show _ = _; rw [HS.out, hc, if_pos rfl]
        have hc4 := hc
        rw [hc] at x4
        have HPV : Hid ([.bool p.en.ad.v6, .int .u64 p.en.ad.hi, .int .u64 p.en.ad.lo, .int .i64 p.en.port, .bool true, .int .i64 p.since, .int .i64 p.pts, .int .i64 p.at_, .int .i64 p.ping, .int .i64 p.work] = peV p) := by show _ = _; unfold peV; rw [hc]
        clear hc hc4
        go_wp2_with (at_builtin; refine list_app_reads_g peRow rfl _ _ rfl w.heap.size _ (cameL (l.take k)).length _ rfl (HO5.out.alloc _) _ 1 (peV p) rfl (by rw [← HPV.out]; exact reads_one rfl (Nat.succ_pos 9)) (peV_one1 p) (by omega) (by omega) (by have := HB5.out.size; simp; omega) ?_; intro v' w7 hO7 hg7)
        go_roundw
        case rel => exact ⟨k + 1, by omega, by go_num, (by rw [HS2.out, List.length_append, pe_snoc]; exact hO7), below_grown (HO5.out.alloc _) ((HB5.out).alloc (HB5.out.size) _) (Nat.le_refl _) (by have := HB5.out.size; simp; omega) hg7⟩
        case measure => simp [intOf]; omega
    · obtain rfl : k = l.length := by omega
      have HR : Hid (∀ o', Hid (wr.ownsRow w.heap.size 66 10 o' (cameL (l.take l.length)).length ((cameL (l.take l.length)).flatMap peV)) → ReadsL peV 10 wr o' (cameL l)) := fun o' hO => by
        have := owns_reads hO.out
        rwa [List.take_length] at this
      go_wp2_with fail
      go_ret
      exact ⟨_, rfl, HR.out _ HO, HB.out⟩
set_option maxRecDepth 100000 in
set_option maxHeartbeats 8000000 in
theorem refCame_any (v : Value) (l : List Pe) (w : World) (h : ReadsL peV 10 w v l) (hn : l.length ≤ 1000000) :
    Calls Try.prog 83 #[v] w fun e w' => ∃ r, e = .returned r ∧ ReadsL peV 10 w' r (cameL l) ∧ Below w.heap.size w w' := by
  obtain ⟨hm, p, c, rfl, h3⟩ := pes_open h
  clear h
  go_enter Try.func83, Try.ntmps83
  go_upto_region 3 with fail
  go_name_world W0 hW0
  have hO0 : W0.ownsRow w.heap.size 66 10 (.slice (some ⟨w.heap.size, 0, none⟩) 0 0) 0 [] := by subst hW0; exact World.ownsRow_made w #[] 0 (Nat.le_refl _) (Nat.zero_le _) rfl
  have b0 : Below w.heap.size w W0 := by subst hW0; (repeat (first | with_reducible assumption | with_reducible exact Below.refl _ _ | with_reducible refine Below.setCell ?_ (by first | omega | (simp; done) | (simp; omega)) _ | with_reducible refine Below.alloc ?_ (by first | omega | (simp; done) | (simp; omega)) _ | with_reducible refine Below.drew ?_ | (with_reducible refine Below.trans ?_ (Below.mono (by with_reducible assumption) (by first | omega | (simp; done) | (simp; omega)))) | (refine Below.trans ?_ (Below.mono (by assumption) (by first | omega | (simp; done) | (simp; omega))))))
  have HO0 := Lib.hid hO0; have HB0 := Lib.hid b0
  clear hW0 hO0 b0
  go_loopw [3, 4] (fun o' i' wr => ∃ k : Nat, k ≤ l.length ∧ i' = .int .i64 k ∧ Hid (wr.ownsRow w.heap.size 66 10 o' (cameL (l.take k)).length ((cameL (l.take k)).flatMap peV)) ∧ Hid (Below w.heap.size w wr)) (fun _ i' _ => l.length - (intOf i').toNat)
  case atStart => exact ⟨0, by omega, rfl, HO0.out, HB0.out⟩
  case round =>
    obtain ⟨k, hk, rfl, HO, HB⟩ := hrel
    by_cases hlt : k < l.length
    · obtain ⟨p, hp⟩ : ∃ p, l[k]? = some p := ⟨_, List.getElem?_eq_getElem hlt⟩
      obtain ⟨b, o, rfl, h4, h5, h6⟩ := h3 (by omega)
      have K := (h6 k p hp).below HB.out h5
      have q1 : (0 : Int) ≤ (k : Int) := by omega
      have q2 : (k : Int) < (l.length : Int) := by omega
      have hS := cameL_snoc (l.take k) p
      rw [← show l.take (k + 1) = l.take k ++ [p] by rw [List.take_add_one, hp, Option.toList_some]] at hS
      have HS := Lib.hid hS
      have hcl : (cameL (l.take k)).length ≤ k := Nat.le_trans (cameL_le _) (by rw [List.length_take]; omega)
      obtain ⟨k0, k1, k2, k3, k4, k5, k6, k7, k8, k9⟩ := K
      clear hp h6 hS
      cases hc : p.came with
      | false =>
        rw [hc] at k4
        have HS2 : Hid (cameL (l.take (k + 1)) = cameL (l.take k)) := by show _ = _; rw [HS.out, hc]; simp
        clear hc
        go_wp2_with fail
        go_roundw
        case rel => exact ⟨k + 1, by omega, by go_num, by rw [HS2.out]; exact HO.out, HB.out⟩
        case measure => simp [intOf]; omega
      | true =>
        have HS2 : Hid (cameL (l.take (k + 1)) = cameL (l.take k) ++ [p]) := by show _ = _; rw [HS.out, hc, if_pos rfl]
        rw [hc] at k4
        have HPV : Hid ([.bool p.en.ad.v6, .int .u64 p.en.ad.hi, .int .u64 p.en.ad.lo, .int .i64 p.en.port, .bool true, .int .i64 p.since, .int .i64 p.pts, .int .i64 p.at_, .int .i64 p.ping, .int .i64 p.work] = peV p) := by show _ = _; unfold peV; rw [hc]
        clear hc
        go_wp2_with (at_builtin; refine list_app_reads_g peRow rfl _ _ rfl w.heap.size _ (cameL (l.take k)).length _ rfl (HO.out.alloc _) _ 1 (peV p) rfl (by rw [← HPV.out]; exact reads_one rfl (Nat.succ_pos 9)) (peV_one1 p) (by omega) (by omega) (by have := HB.out.size; simp; omega) ?_; intro v' w7 hO7 hg7)
        go_roundw
        case rel => exact ⟨k + 1, by omega, by go_num, (by rw [HS2.out, List.length_append, pe_snoc]; exact hO7), below_grown (HO.out.alloc _) ((HB.out).alloc (HB.out.size) _) (Nat.le_refl _) (by have := HB.out.size; simp; omega) hg7⟩
        case measure => simp [intOf]; omega
    · obtain rfl : k = l.length := by omega
      have HR : Hid (∀ o', Hid (wr.ownsRow w.heap.size 66 10 o' (cameL (l.take l.length)).length ((cameL (l.take l.length)).flatMap peV)) → ReadsL peV 10 wr o' (cameL l)) := fun o' hO => by
        have := owns_reads hO.out
        rwa [List.take_length] at this
      go_wp2_with fail
      go_ret
      exact ⟨_, rfl, HR.out _ HO, HB.out⟩
/-- of whom one would go -/
def cdL (l : List Pe) (q : Qu) (s : Nat) : List Pe := (lfL (cameL l) q s 4).map (rkGet (cameL l))
theorem cdL_len (l : List Pe) (q : Qu) (s : Nat) : (cdL l q s).length ≤ l.length := by
  unfold cdL; rw [List.length_map]; exact Nat.le_trans (lfL_len _ q s 4) (cameL_le l)
theorem cdL_fits {l : List Pe} (hl : ∀ x ∈ l, x.fits) (q : Qu) (s : Nat) : ∀ x ∈ cdL l q s, x.fits := fun x hx => by
  obtain ⟨i, hi, rfl⟩ := List.mem_map.1 hx
  have hil := lfL_lt hi
  rw [rkGet_at (List.getElem?_eq_getElem hil)]
  exact cameL_fits hl _ (List.getElem_mem _)
set_option maxRecDepth 100000 in
set_option maxHeartbeats 16000000 in
theorem cand_any (v : Value) (l : List Pe) (hl : ∀ x ∈ l, x.fits) (q : Qu) (hq : q.fits) (s : Nat) (hs : s < 18446744073709551616) (w : World) (h : ReadsL peV 10 w v l) (hn : l.length ≤ 1000000) :
    Calls Try.prog 155 #[v, .agg #[.int .i64 q.group, .int .i64 q.ping, .int .i64 q.work, .int .i64 q.time], .int .u64 s] w fun e w' => ∃ r, e = .returned r ∧ ReadsL peV 10 w' r (cdL l q s) ∧ Below w.heap.size w w' := by
  have HC := Lib.hid (fun W (hW : Below w.heap.size w W) => came_any v l W (ReadsL.below h hW) hn)
  have hnA := Nat.le_trans (cameL_le l) hn
  go_enter Try.func155, Try.ntmps155
  go_upto_region 2 with (go_at_call 174; (with_reducible refine (HC.out _ (by (repeat (first | with_reducible assumption | with_reducible exact Below.refl _ _ | with_reducible refine Below.setCell ?_ (by first | omega | (simp; done) | (simp; omega)) _ | with_reducible refine Below.alloc ?_ (by first | omega | (simp; done) | (simp; omega)) _ | with_reducible refine Below.drew ?_ | (with_reducible refine Below.trans ?_ (Below.mono (by with_reducible assumption) (by first | omega | (simp; done) | (simp; omega)))) | (refine Below.trans ?_ (Below.mono (by assumption) (by first | omega | (simp; done) | (simp; omega)))))))).mono ?_); rintro e w1 ⟨r1, rfl, o1, b1⟩)
  have bw : Below w.heap.size w w1 := by (repeat (first | with_reducible assumption | with_reducible exact Below.refl _ _ | with_reducible refine Below.setCell ?_ (by first | omega | (simp; done) | (simp; omega)) _ | with_reducible refine Below.alloc ?_ (by first | omega | (simp; done) | (simp; omega)) _ | with_reducible refine Below.drew ?_ | (with_reducible refine Below.trans ?_ (Below.mono (by with_reducible assumption) (by first | omega | (simp; done) | (simp; omega)))) | (refine Below.trans ?_ (Below.mono (by assumption) (by first | omega | (simp; done) | (simp; omega))))))
  have z1 := b1.size
  simp at z1
  have hfA := cameL_fits hl
  have c0 := (bcell b1).1 w.heap.size 0 (by simp); have c1 := (bcell b1).1 w.heap.size 1 (by simp); have c2 := (bcell b1).1 w.heap.size 2 (by simp); have c3 := (bcell b1).1 w.heap.size 3 (by simp)
  have d0 : w1.cell? ⟨w.heap.size, 0, none⟩ = some (.int .i64 q.group) := by rw [c0]; (first | (simp [go_sem, *]; done) | (simp (disch := first | omega | (simp; omega) | (simp [go_sem, *]; done)) [go_sem, World.cell?_setCell_far, World.cell?_alloc_past, World.frozen?_alloc_past, *]; done))
  have d1 : w1.cell? ⟨w.heap.size, 1, none⟩ = some (.int .i64 q.ping) := by rw [c1]; (first | (simp [go_sem, *]; done) | (simp (disch := first | omega | (simp; omega) | (simp [go_sem, *]; done)) [go_sem, World.cell?_setCell_far, World.cell?_alloc_past, World.frozen?_alloc_past, *]; done))
  have d2 : w1.cell? ⟨w.heap.size, 2, none⟩ = some (.int .i64 q.work) := by rw [c2]; (first | (simp [go_sem, *]; done) | (simp (disch := first | omega | (simp; omega) | (simp [go_sem, *]; done)) [go_sem, World.cell?_setCell_far, World.cell?_alloc_past, World.frozen?_alloc_past, *]; done))
  have d3 : w1.cell? ⟨w.heap.size, 3, none⟩ = some (.int .i64 q.time) := by rw [c3]; (first | (simp [go_sem, *]; done) | (simp (disch := first | omega | (simp; omega) | (simp [go_sem, *]; done)) [go_sem, World.cell?_setCell_far, World.cell?_alloc_past, World.frozen?_alloc_past, *]; done))
  generalize hA : cameL l = A at *
  obtain ⟨hmA, pA, cA, rfl, h3⟩ := pes_open o1
  have HL := Lib.hid (fun W (hW : Below w1.heap.size w1 W) => sh_left_any _ A hfA q hq s hs W (ReadsL.below o1 hW) hnA)
  have HE : Hid (cdL l q s = (lfL A q s 4).map (rkGet A)) := by show _ = _; unfold cdL; rw [hA]
  have HBW := Lib.hid bw
  have hzl : w.heap.size < w1.heap.size := by omega
  clear hA b1 bw HC c0 c1 c2 c3 o1
  go_upto_region 4 with (go_at_call 175; (with_reducible refine (HL.out _ (by (repeat (first | with_reducible assumption | with_reducible exact Below.refl _ _ | with_reducible refine Below.setCell ?_ (by first | omega | (simp; done) | (simp; omega)) _ | with_reducible refine Below.alloc ?_ (by first | omega | (simp; done) | (simp; omega)) _ | with_reducible refine Below.drew ?_ | (with_reducible refine Below.trans ?_ (Below.mono (by with_reducible assumption) (by first | omega | (simp; done) | (simp; omega)))) | (refine Below.trans ?_ (Below.mono (by assumption) (by first | omega | (simp; done) | (simp; omega)))))))).mono ?_); rintro e w2 ⟨r2, rfl, o2, b2⟩; obtain ⟨a2, c2, rfl⟩ := owns_slice o2)
  have hGl : ∀ i ∈ lfL A q s 4, i < A.length := fun i hi => lfL_lt hi
  have hGn : (lfL A q s 4).length ≤ 1000000 := Nat.le_trans (lfL_len A q s 4) hnA
  generalize lfL A q s 4 = G at *
  obtain ⟨_, hmG, _, _, e9, k1⟩ := (owns_reads o2).open
  injection e9 with e91 e92 e93
  subst e91 e93
  have HB2 := Lib.hid (below2 HBW.out b2)
  have HB12 := Lib.hid b2
  clear o2 b2 d0 d1 d2 d3 e92 hfA hl
  go_loopw [7, 17] (fun o' i' wr => ∃ k : Nat, k ≤ G.length ∧ i' = .int .i64 k ∧ Hid (wr.ownsRow w2.heap.size 66 10 o' k (((G.take k).map (rkGet A)).flatMap peV)) ∧ Hid (Below w2.heap.size w2 wr)) (fun _ i' _ => G.length - (intOf i').toNat)
  case atStart => exact ⟨0, by omega, rfl, ⟨rfl, Or.inl ⟨rfl, rfl⟩⟩, Below.refl _ _⟩
  case round =>
    obtain ⟨k, hk, rfl, HO, HB⟩ := hrel
    by_cases hlt : k < G.length
    · obtain ⟨i, hi⟩ : ∃ i, G[k]? = some i := ⟨_, List.getElem?_eq_getElem hlt⟩
      have hil : i < A.length := hGl i (List.mem_of_getElem? hi)
      obtain ⟨p, hp⟩ : ∃ p, A[i]? = some p := ⟨_, List.getElem?_eq_getElem hil⟩
      obtain ⟨b, o, rfl, h4, h5, h6⟩ := h3 (by omega)
      obtain ⟨bx, ox, rfl, hcx, hbx, hxx⟩ := k1 (by omega)
      have g1 : wr.cell? ⟨bx, ox + k, none⟩ = some (.int .i64 i) := keep HB.out hbx (hxx k (natV i) (by rw [List.getElem?_map, hi]; rfl))
      have K := (h6 i p hp).below (below2 HB12.out HB.out) h5
      obtain ⟨k0, k1', k2, k3, k4, k5, k6, k7, k8, k9⟩ := K
      have q1 : (0 : Int) ≤ (k : Int) := by omega
      have q2 : (k : Int) < (G.length : Int) := by omega
      have q3 : (0 : Int) ≤ (i : Int) := by omega
      have q4 : (i : Int) < (A.length : Int) := by omega
      have HT : Hid (((G.take (k + 1)).map (rkGet A)).flatMap peV = ((G.take k).map (rkGet A)).flatMap peV ++ peV p) := by
        show _ = _
        rw [List.take_add_one, hi, Option.toList_some, List.map_append, List.flatMap_append, List.map_cons, List.map_nil, List.flatMap_cons, List.flatMap_nil, List.append_nil, rkGet_at hp]
      clear hi hp h6 hxx hil
      go_wp2_with (at_builtin; refine list_app_reads_g peRow rfl _ _ rfl w2.heap.size _ k _ rfl (HO.out.alloc _) _ 1 (peV p) rfl (reads_one (us := peV p) rfl (Nat.succ_pos 9)) (peV_one1 p) (by omega) (by omega) (by have := HB.out.size; simp; omega) ?_; intro v' w7 hO7 hg7)
      go_roundw
      case rel => exact ⟨k + 1, by omega, by go_num, (by rw [HT.out]; exact hO7), below_grown (HO.out.alloc _) ((HB.out).alloc (HB.out.size) _) (Nat.le_refl _) (by have := HB.out.size; simp; omega) hg7⟩
      case measure => simp [intOf]; omega
    · obtain rfl : k = G.length := by omega
      have HR : Hid (∀ o', Hid (wr.ownsRow w2.heap.size 66 10 o' G.length (((G.take G.length).map (rkGet A)).flatMap peV)) → ReadsL peV 10 wr o' (G.map (rkGet A))) := fun o' hO => by
        have := owns_reads hO.out
        rw [List.take_length] at this
        unfold ReadsL
        rw [List.length_map]; exact this
      go_wp2_with fail
      go_ret
      exact ⟨_, rfl, by rw [HE.out]; exact HR.out _ HO, below2 HB2.out HB.out⟩
end Go.Proofs.Ytppmjbnhghaffaa
/- The contracts of evict.Choose, of the document's, and of what the laws of eviction call. Conditions: numbers are 64 bits. -/
namespace Go.Proofs.Ytppmjbnhghaffaa
open Go.RowKit
set_option linter.unusedSimpArgs false
set_option linter.unusedVariables false

set_option maxRecDepth 100000 in
set_option maxHeartbeats 16000000 in
theorem refCand_any (v : Value) (l : List Pe) (hl : ∀ x ∈ l, x.fits) (q : Qu) (s : Nat) (hs : s < 18446744073709551616) (w : World) (h : ReadsL peV 10 w v l) (hn : l.length ≤ 1000000) :
    Calls Try.prog 157 #[v, .agg #[.int .i64 q.group, .int .i64 q.ping, .int .i64 q.work, .int .i64 q.time], .int .u64 s] w fun e w' => ∃ r, e = .returned r ∧ ReadsL peV 10 w' r (cdL l q s) ∧ Below w.heap.size w w' := by
  have HC := Lib.hid (fun W (hW : Below w.heap.size w W) => refCame_any v l W (ReadsL.below h hW) hn)
  have hnA := Nat.le_trans (cameL_le l) hn
  go_enter Try.func157, Try.ntmps157
  go_upto_region 2 with (go_at_call 83; (with_reducible refine (HC.out _ (by (repeat (first | with_reducible assumption | with_reducible exact Below.refl _ _ | with_reducible refine Below.setCell ?_ (by first | omega | (simp; done) | (simp; omega)) _ | with_reducible refine Below.alloc ?_ (by first | omega | (simp; done) | (simp; omega)) _ | with_reducible refine Below.drew ?_ | (with_reducible refine Below.trans ?_ (Below.mono (by with_reducible assumption) (by first | omega | (simp; done) | (simp; omega)))) | (refine Below.trans ?_ (Below.mono (by assumption) (by first | omega | (simp; done) | (simp; omega)))))))).mono ?_); rintro e w1 ⟨r1, rfl, o1, b1⟩)
  have bw : Below w.heap.size w w1 := by (repeat (first | with_reducible assumption | with_reducible exact Below.refl _ _ | with_reducible refine Below.setCell ?_ (by first | omega | (simp; done) | (simp; omega)) _ | with_reducible refine Below.alloc ?_ (by first | omega | (simp; done) | (simp; omega)) _ | with_reducible refine Below.drew ?_ | (with_reducible refine Below.trans ?_ (Below.mono (by with_reducible assumption) (by first | omega | (simp; done) | (simp; omega)))) | (refine Below.trans ?_ (Below.mono (by assumption) (by first | omega | (simp; done) | (simp; omega))))))
  have z1 := b1.size
  simp at z1
  have hfA := cameL_fits hl
  have c0 := (bcell b1).1 w.heap.size 0 (by simp); have c1 := (bcell b1).1 w.heap.size 1 (by simp); have c2 := (bcell b1).1 w.heap.size 2 (by simp); have c3 := (bcell b1).1 w.heap.size 3 (by simp)
  have d0 : w1.cell? ⟨w.heap.size, 0, none⟩ = some (.int .i64 q.group) := by rw [c0]; (first | (simp [go_sem, *]; done) | (simp (disch := first | omega | (simp; omega) | (simp [go_sem, *]; done)) [go_sem, World.cell?_setCell_far, World.cell?_alloc_past, World.frozen?_alloc_past, *]; done))
  have d1 : w1.cell? ⟨w.heap.size, 1, none⟩ = some (.int .i64 q.ping) := by rw [c1]; (first | (simp [go_sem, *]; done) | (simp (disch := first | omega | (simp; omega) | (simp [go_sem, *]; done)) [go_sem, World.cell?_setCell_far, World.cell?_alloc_past, World.frozen?_alloc_past, *]; done))
  have d2 : w1.cell? ⟨w.heap.size, 2, none⟩ = some (.int .i64 q.work) := by rw [c2]; (first | (simp [go_sem, *]; done) | (simp (disch := first | omega | (simp; omega) | (simp [go_sem, *]; done)) [go_sem, World.cell?_setCell_far, World.cell?_alloc_past, World.frozen?_alloc_past, *]; done))
  have d3 : w1.cell? ⟨w.heap.size, 3, none⟩ = some (.int .i64 q.time) := by rw [c3]; (first | (simp [go_sem, *]; done) | (simp (disch := first | omega | (simp; omega) | (simp [go_sem, *]; done)) [go_sem, World.cell?_setCell_far, World.cell?_alloc_past, World.frozen?_alloc_past, *]; done))
  generalize hA : cameL l = A at *
  obtain ⟨hmA, pA, cA, rfl, h3⟩ := pes_open o1
  have HS := Lib.hid (fun W (hW : Below w1.heap.size w1 W) => ref_saved_any _ A hfA q s hs W (ReadsL.below o1 hW) hnA)
  have HE : Hid (cdL l q s = (leftOf (List.range A.length) (svO A q s 4)).map (rkGet A)) := by show _ = _; unfold cdL; rw [hA]; rfl
  have HBW := Lib.hid bw
  have hzl : w.heap.size < w1.heap.size := by omega
  clear hA b1 bw HC c0 c1 c2 c3 o1
  go_upto_region 5 with (go_at_call 179; (with_reducible refine (HS.out _ (by (repeat (first | with_reducible assumption | with_reducible exact Below.refl _ _ | with_reducible refine Below.setCell ?_ (by first | omega | (simp; done) | (simp; omega)) _ | with_reducible refine Below.alloc ?_ (by first | omega | (simp; done) | (simp; omega)) _ | with_reducible refine Below.drew ?_ | (with_reducible refine Below.trans ?_ (Below.mono (by with_reducible assumption) (by first | omega | (simp; done) | (simp; omega)))) | (refine Below.trans ?_ (Below.mono (by assumption) (by first | omega | (simp; done) | (simp; omega)))))))).mono ?_); rintro e w2 ⟨r2, rfl, o2, b2⟩)
  generalize svO A q s 4 = O at *
  obtain ⟨_, hmG, a2, c2, rfl, k1⟩ := o2.open
  go_name_world W0 hW0
  have hO0 : W0.ownsRow w2.heap.size 66 10 (.slice (some ⟨w2.heap.size, 0, none⟩) 0 0) 0 [] := by subst hW0; exact World.ownsRow_made w2 #[] 0 (Nat.le_refl _) (Nat.zero_le _) rfl
  have b0 : Below w2.heap.size w2 W0 := by subst hW0; (repeat (first | with_reducible assumption | with_reducible exact Below.refl _ _ | with_reducible refine Below.setCell ?_ (by first | omega | (simp; done) | (simp; omega)) _ | with_reducible refine Below.alloc ?_ (by first | omega | (simp; done) | (simp; omega)) _ | with_reducible refine Below.drew ?_ | (with_reducible refine Below.trans ?_ (Below.mono (by with_reducible assumption) (by first | omega | (simp; done) | (simp; omega)))) | (refine Below.trans ?_ (Below.mono (by assumption) (by first | omega | (simp; done) | (simp; omega))))))
  have HB2 := Lib.hid (below2 HBW.out b2)
  have HB12 := Lib.hid b2
  have HO0 := Lib.hid hO0; have HB0 := Lib.hid b0
  clear hW0 hO0 b0 o2 b2 d0 d1 d2 d3 hfA hl
  go_loopw [9, 10] (fun o' i' wr => ∃ k : Nat, k ≤ A.length ∧ i' = .int .i64 k ∧ Hid (wr.ownsRow w2.heap.size 66 10 o' (leftOf (List.range k) O).length (((leftOf (List.range k) O).map (rkGet A)).flatMap peV)) ∧ Hid (Below w2.heap.size w2 wr)) (fun _ i' _ => A.length - (intOf i').toNat)
  case atStart => exact ⟨0, by omega, rfl, HO0.out, HB0.out⟩
  case round =>
    obtain ⟨k, hk, rfl, HO, HB⟩ := hrel
    by_cases hlt : k < A.length
    · obtain ⟨p, hp⟩ : ∃ p, A[k]? = some p := ⟨_, List.getElem?_eq_getElem hlt⟩
      obtain ⟨b, o, rfl, h4, h5, h6⟩ := h3 (by omega)
      obtain ⟨bx, ox, rfl, hcx, hbx, hxx⟩ := k1 (by omega)
      have g1 : wr.cell? ⟨bx, ox + k, none⟩ = some (.bool (decide (k ∈ O))) := keep HB.out hbx (hxx k _ (usedV_get hlt))
      have K := (h6 k p hp).below (below2 HB12.out HB.out) h5
      obtain ⟨k0, k1', k2, k3, k4, k5, k6, k7, k8, k9⟩ := K
      have q1 : (0 : Int) ≤ (k : Int) := by omega
      have q2 : (k : Int) < (A.length : Int) := by omega
      have HD := Lib.hid (lfK_succ A.length O k)
      have hdl : (leftOf (List.range k) O).length ≤ k := Nat.le_trans (List.length_filter_le _ _) (by simp)
      have HGP := Lib.hid (rkGet_at hp)
      clear hp h6 hxx
      by_cases hin : k ∈ O
      · have HD2 : Hid (leftOf (List.range (k + 1)) O = leftOf (List.range k) O) := by show _ = _; rw [HD.out, if_pos hin, List.append_nil]
        rw [decide_eq_true hin] at g1
        clear hin
        go_wp2_with fail
        go_roundw
        case rel => exact ⟨k + 1, by omega, by go_num, by rw [HD2.out]; exact HO.out, HB.out⟩
        case measure => simp [intOf]; omega
      · have HD2 : Hid (leftOf (List.range (k + 1)) O = leftOf (List.range k) O ++ [k]) := by show _ = _; rw [HD.out, if_neg hin]
        have HT : Hid ((((leftOf (List.range k) O ++ [k])).map (rkGet A)).flatMap peV = ((leftOf (List.range k) O).map (rkGet A)).flatMap peV ++ peV p) := by
          show _ = _
          rw [List.map_append, List.flatMap_append, List.map_cons, List.map_nil, List.flatMap_cons, List.flatMap_nil, List.append_nil, HGP.out]
        rw [decide_eq_false hin] at g1
        clear hin
        go_wp2_with (at_builtin; refine list_app_reads_g peRow rfl _ _ rfl w2.heap.size _ (leftOf (List.range k) O).length _ rfl (HO.out.alloc _) _ 1 (peV p) rfl (reads_one (us := peV p) rfl (Nat.succ_pos 9)) (peV_one1 p) (by omega) (by omega) (by have := HB.out.size; simp; omega) ?_; intro v' w7 hO7 hg7)
        go_roundw
        case rel => exact ⟨k + 1, by omega, by go_num, (by rw [HD2.out, HT.out, List.length_append]; exact hO7), below_grown (HO.out.alloc _) ((HB.out).alloc (HB.out.size) _) (Nat.le_refl _) (by have := HB.out.size; simp; omega) hg7⟩
        case measure => simp [intOf]; omega
    · obtain rfl : k = A.length := by omega
      have HR : Hid (∀ o', Hid (wr.ownsRow w2.heap.size 66 10 o' (leftOf (List.range A.length) O).length (((leftOf (List.range A.length) O).map (rkGet A)).flatMap peV)) → ReadsL peV 10 wr o' ((leftOf (List.range A.length) O).map (rkGet A))) := fun o' hO => by
        have := owns_reads hO.out
        unfold ReadsL
        rw [List.length_map]; exact this
      go_wp2_with fail
      go_ret
      exact ⟨_, rfl, by rw [HE.out]; exact HR.out _ HO, below2 HB2.out HB.out⟩
def zEn : En := ⟨⟨false, 0, 0⟩, 0⟩
/-- who goes -/
def chE (l : List Pe) (q : Qu) (s : Nat) : En := match pkO (cdL l q s) with | none => zEn | some x => (rkGet (cdL l q s) x).en
def chB (l : List Pe) (q : Qu) (s : Nat) : Bool := (pkO (cdL l q s)).isSome
--- printed by gen_evictb.py
set_option maxRecDepth 100000 in
set_option maxHeartbeats 16000000 in
theorem choose_any (v : Value) (l : List Pe) (hl : ∀ x ∈ l, x.fits) (q : Qu) (hq : q.fits) (s : Nat) (hs : s < 18446744073709551616) (w : World) (h : ReadsL peV 10 w v l) (hn : l.length ≤ 1000000) :
    Calls Try.prog 127 #[v, .agg #[.int .i64 q.group, .int .i64 q.ping, .int .i64 q.work, .int .i64 q.time], .int .u64 s] w fun e w' => e = .returned (.tuple #[.agg #[.bool ((chE l q s)).ad.v6, .int .u64 ((chE l q s)).ad.hi, .int .u64 ((chE l q s)).ad.lo, .int .i64 ((chE l q s)).port], .bool (chB l q s)]) ∧ Below w.heap.size w w' := by
  have HC := Lib.hid (fun W (hW : Below w.heap.size w W) => cand_any v l hl q hq s hs W (ReadsL.below h hW) hn)
  have hnC := Nat.le_trans (cdL_len l q s) hn
  have hfC := cdL_fits hl q s
  have hen : chE l q s = (match pkO (cdL l q s) with | none => zEn | some x => (rkGet (cdL l q s) x).en) := rfl
  have hbb : chB l q s = (pkO (cdL l q s)).isSome := rfl
  generalize chE l q s = en at *
  generalize chB l q s = bb at *
  generalize cdL l q s = C at *
  have HEN := Lib.hid hen; have HBB := Lib.hid hbb
  clear hen hbb
  go_enter Try.func127, Try.ntmps127
  go_upto_region 1 with fail
  go_name_world W0 hW0
  have hE0 : BlockIs W0 (w.heap.size + 1) [.bool false, .int .u64 0, .int .u64 0, .int .i64 0] 34 := by subst hW0; exact BlockIs.newAt' _ _ _ (by simp)
  have d0 : W0.cell? ⟨w.heap.size, 0, none⟩ = some (.int .i64 q.group) := by subst hW0; (first | (simp [go_sem, *]; done) | (simp (disch := first | omega | (simp; omega) | (simp [go_sem, *]; done)) [go_sem, World.cell?_setCell_far, World.cell?_alloc_past, World.frozen?_alloc_past, *]; done))
  have d1 : W0.cell? ⟨w.heap.size, 1, none⟩ = some (.int .i64 q.ping) := by subst hW0; (first | (simp [go_sem, *]; done) | (simp (disch := first | omega | (simp; omega) | (simp [go_sem, *]; done)) [go_sem, World.cell?_setCell_far, World.cell?_alloc_past, World.frozen?_alloc_past, *]; done))
  have d2 : W0.cell? ⟨w.heap.size, 2, none⟩ = some (.int .i64 q.work) := by subst hW0; (first | (simp [go_sem, *]; done) | (simp (disch := first | omega | (simp; omega) | (simp [go_sem, *]; done)) [go_sem, World.cell?_setCell_far, World.cell?_alloc_past, World.frozen?_alloc_past, *]; done))
  have d3 : W0.cell? ⟨w.heap.size, 3, none⟩ = some (.int .i64 q.time) := by subst hW0; (first | (simp [go_sem, *]; done) | (simp (disch := first | omega | (simp; omega) | (simp [go_sem, *]; done)) [go_sem, World.cell?_setCell_far, World.cell?_alloc_past, World.frozen?_alloc_past, *]; done))
  have b0 : Below w.heap.size w W0 := by subst hW0; (repeat (first | with_reducible assumption | with_reducible exact Below.refl _ _ | with_reducible refine Below.setCell ?_ (by first | omega | (simp; done) | (simp; omega)) _ | with_reducible refine Below.alloc ?_ (by first | omega | (simp; done) | (simp; omega)) _ | with_reducible refine Below.drew ?_ | (with_reducible refine Below.trans ?_ (Below.mono (by with_reducible assumption) (by first | omega | (simp; done) | (simp; omega)))) | (refine Below.trans ?_ (Below.mono (by assumption) (by first | omega | (simp; done) | (simp; omega))))))
  obtain ⟨B, hBe⟩ : ∃ B, B = w.heap.size + 1 := ⟨_, rfl⟩
  rw [← hBe] at hE0
  rw [← hBe]
  have hle : w.heap.size ≤ B := by omega
  have HB0 := Lib.hid b0; have HE0 := Lib.hid hE0
  clear hW0 b0 hE0 hBe
  go_upto_region 2 with (go_at_call 155; (with_reducible refine (HC.out _ HB0.out).mono ?_); rintro e w1 ⟨r1, rfl, o1, b1⟩)
  obtain ⟨hmC, pC, cC, rfl, h3⟩ := pes_open o1
  have HP := Lib.hid (fun W (hW : Below w1.heap.size w1 W) => pick_any _ C hfC W (ReadsL.below o1 hW) hnC)
  have HB1 := Lib.hid (below2 HB0.out b1)
  have HE1 := Lib.hid (HE0.out.below b1)
  clear d0 d1 d2 d3 b1 o1
  go_upto_region 3 with (go_at_call 156; (with_reducible refine (HP.out _ (by (repeat (first | with_reducible assumption | with_reducible exact Below.refl _ _ | with_reducible refine Below.setCell ?_ (by first | omega | (simp; done) | (simp; omega)) _ | with_reducible refine Below.alloc ?_ (by first | omega | (simp; done) | (simp; omega)) _ | with_reducible refine Below.drew ?_ | (with_reducible refine Below.trans ?_ (Below.mono (by with_reducible assumption) (by first | omega | (simp; done) | (simp; omega)))) | (refine Below.trans ?_ (Below.mono (by assumption) (by first | omega | (simp; done) | (simp; omega)))))))).mono ?_); rintro e w2 ⟨rfl, b2⟩)
  have HB2 := Lib.hid (below2 HB1.out b2)
  have hE2 := HE1.out.below b2
  have hBl := hE2.lt
  have hBf := hE2.frozen
  have c0 := hE2.cell (i := 0) rfl; have c1 := hE2.cell (i := 1) rfl; have c2 := hE2.cell (i := 2) rfl; have c3 := hE2.cell (i := 3) rfl
  cases hpk : pkO C with
  | none =>
    have hat : pkI none = -1 := rfl
    have HPKE := Lib.hid hpk
    simp only [hat]
    clear hpk hat
    go_wp2_with fail
    refine bodyPost_named fun W9 h9 => ?_
    have hR : BlockIs W9 B [.bool (zEn).ad.v6, .int .u64 (zEn).ad.hi, .int .u64 (zEn).ad.lo, .int .i64 (zEn).port] 34 := by subst h9; exact (((hE2.set 0 _).set 1 _).set 2 _).set 3 _
    have b9 : Below w.heap.size w W9 := by subst h9; exact (((HB2.out.setCell hle _).setCell hle _).setCell hle _).setCell hle _
    clear h9
    have e90 := hR.cell (i := 0) rfl; have e91 := hR.cell (i := 1) rfl; have e92 := hR.cell (i := 2) rfl; have e93 := hR.cell (i := 3) rfl
    exact bodyPost_ret (v := .tuple #[.agg #[.bool (zEn).ad.v6, .int .u64 (zEn).ad.hi, .int .u64 (zEn).ad.lo, .int .i64 (zEn).port], .bool false]) (by simp [results, Try.results127, go_sem, e90, e91, e92, e93]) rfl ⟨by rw [HEN.out, HBB.out, HPKE.out]; rfl, b9⟩
  | some x =>
    have hat : pkI (some x) = (x : Int) := rfl
    have hx := (pick_best (wo_gtL C) hpk).1
    obtain ⟨p, hp⟩ : ∃ p, C[x]? = some p := ⟨_, List.getElem?_eq_getElem hx⟩
    obtain ⟨b, o, rfl, h4, h5, h6⟩ := h3 (by omega)
    obtain ⟨k0, k1, k2, k3, -⟩ := (h6 x p hp).below b2 h5
    have hg : rkGet C x = p := rkGet_at hp
    have q1 : (0 : Int) ≤ (x : Int) := by omega
    have q2 : (x : Int) < (C.length : Int) := by omega
    have q3 : ¬ ((x : Int) < 0) := by omega
    have HPKE := Lib.hid hpk; have HG := Lib.hid hg
    simp only [hat]
    clear hpk hat hp h6 hg
    go_wp2_with fail
    refine bodyPost_named fun W9 h9 => ?_
    have hR : BlockIs W9 B [.bool (p.en).ad.v6, .int .u64 (p.en).ad.hi, .int .u64 (p.en).ad.lo, .int .i64 (p.en).port] 34 := by subst h9; exact (((hE2.set 0 _).set 1 _).set 2 _).set 3 _
    have b9 : Below w.heap.size w W9 := by subst h9; exact (((HB2.out.setCell hle _).setCell hle _).setCell hle _).setCell hle _
    clear h9
    have e90 := hR.cell (i := 0) rfl; have e91 := hR.cell (i := 1) rfl; have e92 := hR.cell (i := 2) rfl; have e93 := hR.cell (i := 3) rfl
    exact bodyPost_ret (v := .tuple #[.agg #[.bool (p.en).ad.v6, .int .u64 (p.en).ad.hi, .int .u64 (p.en).ad.lo, .int .i64 (p.en).port], .bool true]) (by simp [results, Try.results127, go_sem, e90, e91, e92, e93]) rfl ⟨by rw [HEN.out, HBB.out, HPKE.out]; simp only [HG.out]; rfl, b9⟩
set_option maxRecDepth 100000 in
set_option maxHeartbeats 16000000 in
theorem refChoose_any (v : Value) (l : List Pe) (hl : ∀ x ∈ l, x.fits) (q : Qu) (hq : q.fits) (s : Nat) (hs : s < 18446744073709551616) (w : World) (h : ReadsL peV 10 w v l) (hn : l.length ≤ 1000000) :
    Calls Try.prog 128 #[v, .agg #[.int .i64 q.group, .int .i64 q.ping, .int .i64 q.work, .int .i64 q.time], .int .u64 s] w fun e w' => e = .returned (.tuple #[.agg #[.bool ((chE l q s)).ad.v6, .int .u64 ((chE l q s)).ad.hi, .int .u64 ((chE l q s)).ad.lo, .int .i64 ((chE l q s)).port], .bool (chB l q s)]) ∧ Below w.heap.size w w' := by
  have HC := Lib.hid (fun W (hW : Below w.heap.size w W) => refCand_any v l hl q s hs W (ReadsL.below h hW) hn)
  have hnC := Nat.le_trans (cdL_len l q s) hn
  have hfC := cdL_fits hl q s
  have hen : chE l q s = (match pkO (cdL l q s) with | none => zEn | some x => (rkGet (cdL l q s) x).en) := rfl
  have hbb : chB l q s = (pkO (cdL l q s)).isSome := rfl
  generalize chE l q s = en at *
  generalize chB l q s = bb at *
  generalize cdL l q s = C at *
  have HEN := Lib.hid hen; have HBB := Lib.hid hbb
  clear hen hbb
  go_enter Try.func128, Try.ntmps128
  go_upto_region 1 with fail
  go_name_world W0 hW0
  have hE0 : BlockIs W0 (w.heap.size + 1) [.bool false, .int .u64 0, .int .u64 0, .int .i64 0] 34 := by subst hW0; exact BlockIs.newAt' _ _ _ (by simp)
  have d0 : W0.cell? ⟨w.heap.size, 0, none⟩ = some (.int .i64 q.group) := by subst hW0; (first | (simp [go_sem, *]; done) | (simp (disch := first | omega | (simp; omega) | (simp [go_sem, *]; done)) [go_sem, World.cell?_setCell_far, World.cell?_alloc_past, World.frozen?_alloc_past, *]; done))
  have d1 : W0.cell? ⟨w.heap.size, 1, none⟩ = some (.int .i64 q.ping) := by subst hW0; (first | (simp [go_sem, *]; done) | (simp (disch := first | omega | (simp; omega) | (simp [go_sem, *]; done)) [go_sem, World.cell?_setCell_far, World.cell?_alloc_past, World.frozen?_alloc_past, *]; done))
  have d2 : W0.cell? ⟨w.heap.size, 2, none⟩ = some (.int .i64 q.work) := by subst hW0; (first | (simp [go_sem, *]; done) | (simp (disch := first | omega | (simp; omega) | (simp [go_sem, *]; done)) [go_sem, World.cell?_setCell_far, World.cell?_alloc_past, World.frozen?_alloc_past, *]; done))
  have d3 : W0.cell? ⟨w.heap.size, 3, none⟩ = some (.int .i64 q.time) := by subst hW0; (first | (simp [go_sem, *]; done) | (simp (disch := first | omega | (simp; omega) | (simp [go_sem, *]; done)) [go_sem, World.cell?_setCell_far, World.cell?_alloc_past, World.frozen?_alloc_past, *]; done))
  have b0 : Below w.heap.size w W0 := by subst hW0; (repeat (first | with_reducible assumption | with_reducible exact Below.refl _ _ | with_reducible refine Below.setCell ?_ (by first | omega | (simp; done) | (simp; omega)) _ | with_reducible refine Below.alloc ?_ (by first | omega | (simp; done) | (simp; omega)) _ | with_reducible refine Below.drew ?_ | (with_reducible refine Below.trans ?_ (Below.mono (by with_reducible assumption) (by first | omega | (simp; done) | (simp; omega)))) | (refine Below.trans ?_ (Below.mono (by assumption) (by first | omega | (simp; done) | (simp; omega))))))
  obtain ⟨B, hBe⟩ : ∃ B, B = w.heap.size + 1 := ⟨_, rfl⟩
  rw [← hBe] at hE0
  rw [← hBe]
  have hle : w.heap.size ≤ B := by omega
  have HB0 := Lib.hid b0; have HE0 := Lib.hid hE0
  clear hW0 b0 hE0 hBe
  go_upto_region 2 with (go_at_call 157; (with_reducible refine (HC.out _ HB0.out).mono ?_); rintro e w1 ⟨r1, rfl, o1, b1⟩)
  obtain ⟨hmC, pC, cC, rfl, h3⟩ := pes_open o1
  have HP := Lib.hid (fun W (hW : Below w1.heap.size w1 W) => refPick_any _ C hfC W (ReadsL.below o1 hW) hnC)
  have HB1 := Lib.hid (below2 HB0.out b1)
  have HE1 := Lib.hid (HE0.out.below b1)
  clear d0 d1 d2 d3 b1 o1
  go_upto_region 3 with (go_at_call 158; (with_reducible refine (HP.out _ (by (repeat (first | with_reducible assumption | with_reducible exact Below.refl _ _ | with_reducible refine Below.setCell ?_ (by first | omega | (simp; done) | (simp; omega)) _ | with_reducible refine Below.alloc ?_ (by first | omega | (simp; done) | (simp; omega)) _ | with_reducible refine Below.drew ?_ | (with_reducible refine Below.trans ?_ (Below.mono (by with_reducible assumption) (by first | omega | (simp; done) | (simp; omega)))) | (refine Below.trans ?_ (Below.mono (by assumption) (by first | omega | (simp; done) | (simp; omega)))))))).mono ?_); rintro e w2 ⟨rfl, b2⟩)
  have HB2 := Lib.hid (below2 HB1.out b2)
  have hE2 := HE1.out.below b2
  have hBl := hE2.lt
  have hBf := hE2.frozen
  have c0 := hE2.cell (i := 0) rfl; have c1 := hE2.cell (i := 1) rfl; have c2 := hE2.cell (i := 2) rfl; have c3 := hE2.cell (i := 3) rfl
  cases hpk : pkO C with
  | none =>
    have hat : pkI none = -1 := rfl
    have HPKE := Lib.hid hpk
    simp only [hat]
    clear hpk hat
    go_wp2_with fail
    refine bodyPost_named fun W9 h9 => ?_
    have hR : BlockIs W9 B [.bool (zEn).ad.v6, .int .u64 (zEn).ad.hi, .int .u64 (zEn).ad.lo, .int .i64 (zEn).port] 34 := by subst h9; exact (((hE2.set 0 _).set 1 _).set 2 _).set 3 _
    have b9 : Below w.heap.size w W9 := by subst h9; exact (((HB2.out.setCell hle _).setCell hle _).setCell hle _).setCell hle _
    clear h9
    have e90 := hR.cell (i := 0) rfl; have e91 := hR.cell (i := 1) rfl; have e92 := hR.cell (i := 2) rfl; have e93 := hR.cell (i := 3) rfl
    exact bodyPost_ret (v := .tuple #[.agg #[.bool (zEn).ad.v6, .int .u64 (zEn).ad.hi, .int .u64 (zEn).ad.lo, .int .i64 (zEn).port], .bool false]) (by simp [results, Try.results128, go_sem, e90, e91, e92, e93]) rfl ⟨by rw [HEN.out, HBB.out, HPKE.out]; rfl, b9⟩
  | some x =>
    have hat : pkI (some x) = (x : Int) := rfl
    have hx := (pick_best (wo_gtL C) hpk).1
    obtain ⟨p, hp⟩ : ∃ p, C[x]? = some p := ⟨_, List.getElem?_eq_getElem hx⟩
    obtain ⟨b, o, rfl, h4, h5, h6⟩ := h3 (by omega)
    obtain ⟨k0, k1, k2, k3, -⟩ := (h6 x p hp).below b2 h5
    have hg : rkGet C x = p := rkGet_at hp
    have q1 : (0 : Int) ≤ (x : Int) := by omega
    have q2 : (x : Int) < (C.length : Int) := by omega
    have q3 : ¬ ((x : Int) < 0) := by omega
    have HPKE := Lib.hid hpk; have HG := Lib.hid hg
    simp only [hat]
    clear hpk hat hp h6 hg
    go_wp2_with fail
    refine bodyPost_named fun W9 h9 => ?_
    have hR : BlockIs W9 B [.bool (p.en).ad.v6, .int .u64 (p.en).ad.hi, .int .u64 (p.en).ad.lo, .int .i64 (p.en).port] 34 := by subst h9; exact (((hE2.set 0 _).set 1 _).set 2 _).set 3 _
    have b9 : Below w.heap.size w W9 := by subst h9; exact (((HB2.out.setCell hle _).setCell hle _).setCell hle _).setCell hle _
    clear h9
    have e90 := hR.cell (i := 0) rfl; have e91 := hR.cell (i := 1) rfl; have e92 := hR.cell (i := 2) rfl; have e93 := hR.cell (i := 3) rfl
    exact bodyPost_ret (v := .tuple #[.agg #[.bool (p.en).ad.v6, .int .u64 (p.en).ad.hi, .int .u64 (p.en).ad.lo, .int .i64 (p.en).port], .bool true]) (by simp [results, Try.results128, go_sem, e90, e91, e92, e93]) rfl ⟨by rw [HEN.out, HBB.out, HPKE.out]; simp only [HG.out]; rfl, b9⟩
set_option maxRecDepth 100000 in
set_option maxHeartbeats 8000000 in
theorem peers_same (v u : Value) (L : List Pe) (w : World) (hv : ReadsL peV 10 w v L) (hu : ReadsL peV 10 w u L) :
    Calls Try.prog 44 #[v, u] w fun e w' => e = .returned (.bool true) ∧ Below w.heap.size w w' := by
  obtain ⟨hm, p, c, rfl, h3⟩ := pes_open hv
  obtain ⟨hm1, p1, c1, rfl, k3⟩ := pes_open hu
  clear hv hu
  go_enter Try.func44, Try.ntmps44
  go_wp2_with fail
  go_loopw [5] (fun i' wr => ∃ k : Nat, k ≤ L.length ∧ i' = .int .i64 k ∧ Hid (Below w.heap.size w wr)) (fun i' _ => L.length - (intOf i').toNat)
  case atStart => exact ⟨0, by omega, rfl, Below.refl _ _⟩
  case round =>
    obtain ⟨k, hk, rfl, HB⟩ := hrel
    by_cases hlt : k < L.length
    · obtain ⟨p, hp⟩ : ∃ p, L[k]? = some p := ⟨_, List.getElem?_eq_getElem hlt⟩
      obtain ⟨b1, o1, rfl, hc1, hb1, hx1⟩ := h3 (by omega)
      obtain ⟨b2, o2, rfl, hc2, hb2, hx2⟩ := k3 (by omega)
      have K := ((hx1 k p hp).below HB.out hb1).ext (Nat.lt_of_lt_of_le hb1 HB.out.size)
      have K2 := ((hx2 k p hp).below HB.out hb2).ext (Nat.lt_of_lt_of_le hb2 HB.out.size)
      have x0 := fun y => (K y).1; have x1 := fun y => (K y).2.1; have x2 := fun y => (K y).2.2.1; have x3 := fun y => (K y).2.2.2.1; have x4 := fun y => (K y).2.2.2.2.1; have x5 := fun y => (K y).2.2.2.2.2.1; have x6 := fun y => (K y).2.2.2.2.2.2.1; have x7 := fun y => (K y).2.2.2.2.2.2.2.1; have x8 := fun y => (K y).2.2.2.2.2.2.2.2.1; have x9 := fun y => (K y).2.2.2.2.2.2.2.2.2
      have y0 := fun y => (K2 y).1; have y1 := fun y => (K2 y).2.1; have y2 := fun y => (K2 y).2.2.1; have y3 := fun y => (K2 y).2.2.2.1; have y4 := fun y => (K2 y).2.2.2.2.1; have y5 := fun y => (K2 y).2.2.2.2.2.1; have y6 := fun y => (K2 y).2.2.2.2.2.2.1; have y7 := fun y => (K2 y).2.2.2.2.2.2.2.1; have y8 := fun y => (K2 y).2.2.2.2.2.2.2.2.1; have y9 := fun y => (K2 y).2.2.2.2.2.2.2.2.2
      have q1 : (0 : Int) ≤ (k : Int) := by omega
      have q2 : (k : Int) < (L.length : Int) := by omega
      have hq := fun W => neqPe_one p W
      clear K K2 hp hx1 hx2 h3 k3
      go_wp2_with fail
      refine wp_region_ext (by kernel_rfl) (by kernel_rfl) ?_
      repeat (go_big_quiet_step (fail))
      refine wpQuiet_nil ?_
      first | (intro _ hw'; obtain ⟨gx, hw''⟩ := hw'; subst hw'') | intro gx
      clear x0 x1 x2 x3 x4 x5 x6 x7 x8 x9 y0 y1 y2 y3 y4 y5 y6 y7 y8 y9 hq
      go_wp2_with fail
      go_roundw
      case rel => exact ⟨k + 1, by omega, by go_num, below2 HB.out (ext_below wr gx)⟩
      case measure => simp [intOf]; omega
    · obtain rfl : k = L.length := by omega
      have q2 : ¬ ((L.length : Int) < (L.length : Int)) := by omega
      go_wp2_with fail
      go_ret
      exact ⟨rfl, HB.out⟩
end Go.Proofs.Ytppmjbnhghaffaa
/- Who goes, of whatever turn of peers with unlike ends. Conditions: ends unlike. -/
namespace Go.Proofs.Ytppmjbnhghaffaa

theorem unlike_c {l : List Pe} : UnlikeC l ↔ Unlike l := Iff.rfl
theorem came_unlike {l : List Pe} (h : UnlikeC l) : UnlikeC (cameL l) := List.Pairwise.filter _ h
theorem rk_inj {A : List Pe} (h : UnlikeC A) {i j : Nat} (hi : i < A.length) (hj : j < A.length) (e : (rkGet A i).en = (rkGet A j).en) : i = j := by
  rw [rkGet_at (List.getElem?_eq_getElem hi), rkGet_at (List.getElem?_eq_getElem hj)] at e
  rcases Nat.lt_trichotomy i j with c | c | c
  · exact absurd e (List.pairwise_iff_getElem.1 h i j hi hj c)
  · exact c
  · exact absurd e.symm (List.pairwise_iff_getElem.1 h j i hj hi c)
/-- whoever goes is one that is left -/
theorem ch_one {l : List Pe} {q : Qu} {s : Nat} {x : Nat} (h : pkO (cdL l q s) = some x) : ∃ j, j < (cameL l).length ∧ j ∉ svO (cameL l) q s 4 ∧ rkGet (cdL l q s) x = rkGet (cameL l) j := by
  have hx := (pick_best (wo_gtL _) h).1
  have hx2 : x < (lfL (cameL l) q s 4).length := by unfold cdL at hx; rwa [List.length_map] at hx
  refine ⟨(lfL (cameL l) q s 4)[x], lfL_lt (List.getElem_mem _), (left_mem.1 (List.getElem_mem hx2)).2, ?_⟩
  exact rkGet_at (by unfold cdL; rw [List.getElem?_map, List.getElem?_eq_getElem hx2]; rfl)
theorem ch_none {l : List Pe} {q : Qu} {s : Nat} (h : pkO (cdL l q s) = none) : lfL (cameL l) q s 4 = [] := by
  have := pick_none h
  unfold cdL at this
  rw [List.length_map] at this
  exact List.length_eq_zero_iff.1 this
/-- of whom one would go, by peers -/
def cdP (A : List Pe) (q : Qu) (s : Nat) : Nat → List Pe
  | 0 => A
  | b + 1 => lfP (rkP (b + 1 : Nat) s) (fun p => rkCounts p (b + 1 : Nat)) (quN q (b + 1 : Nat)).toNat (cdP A q s b)
theorem range_rk (A : List Pe) : (leftOf (List.range A.length) []).map (rkGet A) = A := by
  have e : leftOf (List.range A.length) [] = List.range A.length := List.filter_eq_self.2 fun _ _ => by simp
  rw [e]; exact range_get A
theorem cdP_is {A : List Pe} (h : UnlikeC A) (q : Qu) (s : Nat) : ∀ b, cdP A q s b = (leftOf (List.range A.length) (svO A q s b)).map (rkGet A)
  | 0 => (range_rk A).symm
  | b + 1 => by
    show lfP _ _ _ (cdP A q s b) = _
    rw [cdP_is h q s b]
    exact lfP_is (rkGet A) (fun i j hi hj e => rk_inj h hi hj (by rw [e])) (fun _ _ => rfl) (fun _ => rfl) _ _
theorem cdP_sub (A : List Pe) (q : Qu) (s : Nat) : ∀ b, (cdP A q s b).Sublist A
  | 0 => List.Sublist.refl _
  | b + 1 => lfP_sub.trans (cdP_sub A q s b)
theorem cdP_perm {A B : List Pe} (h : UnlikeC A) (hp : A.Perm B) (q : Qu) (s : Nat) : ∀ b, (cdP A q s b).Perm (cdP B q s b)
  | 0 => hp
  | b + 1 => lfP_perm (wo_P _ s) ((h.sublist (cdP_sub A q s b)).imp fun {a c} hac => rk_total hac) (cdP_perm h hp q s b)
theorem cdL_is {l : List Pe} (h : UnlikeC l) (q : Qu) (s : Nat) : cdL l q s = cdP (cameL l) q s 4 := (cdP_is (came_unlike h) q s 4).symm
/-- one and the same goes -/
theorem ch_turned {l m : List Pe} (h : UnlikeC l) (hp : l.Perm m) (q : Qu) (s : Nat) : chE m q s = chE l q s ∧ chB m q s = chB l q s := by
  have hm : UnlikeC m := hp.pairwise h (fun h => h.symm)
  have hpc : (cdL l q s).Perm (cdL m q s) := by
    rw [cdL_is h, cdL_is hm]
    exact cdP_perm (came_unlike h) (hp.filter _) q s 4
  have hu : UnlikeC (cdL l q s) := by
    rw [cdL_is h]; exact (came_unlike h).sublist (cdP_sub _ q s 4)
  unfold chE chB
  generalize cdL l q s = C at *
  generalize cdL m q s = D at *
  cases hc : pkO C with
  | none =>
    have e : C = [] := List.length_eq_zero_iff.1 (pick_none hc)
    have e2 : D = [] := List.length_eq_zero_iff.1 (by rw [← hpc.length_eq, e]; rfl)
    rw [e2]; exact ⟨rfl, rfl⟩
  | some x =>
    have hx := (pick_best (wo_gtL C) hc).1
    cases hd : pkO D with
    | none =>
      have := pick_none hd
      have := hpc.length_eq
      omega
    | some y =>
      have hy := (pick_best (wo_gtL D) hd).1
      have e := pk_turned hu hpc hc (List.getElem?_eq_getElem hx) hd (List.getElem?_eq_getElem hy)
      refine ⟨?_, rfl⟩
      show (rkGet D y).en = (rkGet C x).en
      rw [rkGet_at (List.getElem?_eq_getElem hx), rkGet_at (List.getElem?_eq_getElem hy), e]
end Go.Proofs.Ytppmjbnhghaffaa
