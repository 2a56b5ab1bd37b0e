/- Texts put together: Evict, EvictB, LawEvict, PlEvictB, LawEvictB, LawEvictC. No condition. -/
import Derived.Test.YtdjmejdfcceknaaQa8e5e8pryiew
import Derived.Test.YtdjmejdfcceknaaQb91641sqxdxt
import Derived.Test.YtdjmejdfcceknaaPeSet
/- The contracts of evict, and of the document's. Conditions: numbers are 64 bits. -/
namespace Go.Proofs.Ytdjmejdfcceknaa
open Go.RowKit
set_option linter.unusedSimpArgs false
set_option linter.unusedVariables false

def cameL (l : List Pe) : List Pe := l.filter fun p => p.came
theorem cameL_snoc (l : List Pe) (p : Pe) : cameL (l ++ [p]) = cameL l ++ (if p.came = true then [p] else []) := by
  unfold cameL; rw [List.filter_append]; congr 1
  simp only [List.filter_cons, List.filter_nil]
theorem cameL_le (l : List Pe) : (cameL l).length ≤ l.length := List.length_filter_le _ _
theorem cameL_fits {l : List Pe} (hl : ∀ x ∈ l, x.fits) : ∀ x ∈ cameL l, x.fits := fun x hx => hl x (List.mem_filter.1 hx).1
theorem pe_snoc (L : List Pe) (p : Pe) : (L ++ [p]).flatMap peV = L.flatMap peV ++ peV p := by rw [List.flatMap_append, List.flatMap_cons, List.flatMap_nil, List.append_nil]
set_option maxRecDepth 100000 in
set_option maxHeartbeats 8000000 in
theorem came_any (v : Value) (l : List Pe) (w : World) (h : ReadsL peV 10 w v l) (hn : l.length ≤ 1000000) :
    Calls Try.prog 98 #[v] w fun e w' => ∃ r, e = .returned r ∧ ReadsL peV 10 w' r (cameL l) ∧ Below w.heap.size w w' := by
  obtain ⟨hm, p, c, rfl, h3⟩ := pes_open h
  clear h
  go_enter Try.func98, Try.ntmps98
  go_wp2_with fail
  go_loopw [3, 8] (fun o' i' wr => ∃ k : Nat, k ≤ l.length ∧ i' = .int .i64 k ∧ Hid (wr.ownsRow w.heap.size 34 10 o' (cameL (l.take k)).length ((cameL (l.take k)).flatMap peV)) ∧ Hid (Below w.heap.size w wr)) (fun _ i' _ => l.length - (intOf i').toNat)
  case atStart => exact ⟨0, by omega, rfl, ⟨rfl, Or.inl ⟨rfl, rfl⟩⟩, Below.refl _ _⟩
  case round =>
    obtain ⟨k, hk, rfl, HO, HB⟩ := hrel
    by_cases hlt : k < l.length
    · obtain ⟨p, hp⟩ : ∃ p, l[k]? = some p := ⟨_, List.getElem?_eq_getElem hlt⟩
      obtain ⟨b, o, rfl, h4, h5, h6⟩ := h3 (by omega)
      have K := (h6 k p hp).below HB.out h5
      have q1 : (0 : Int) ≤ (k : Int) := by omega
      have q2 : (k : Int) < (l.length : Int) := by omega
      have hS := cameL_snoc (l.take k) p
      rw [← show l.take (k + 1) = l.take k ++ [p] by rw [List.take_add_one, hp, Option.toList_some]] at hS
      have HS := Lib.hid hS
      have hcl : (cameL (l.take k)).length ≤ k := Nat.le_trans (cameL_le _) (by rw [List.length_take]; omega)
      obtain ⟨k0, k1, k2, k3, k4, k5, k6, k7, k8, k9⟩ := K
      clear hp h6 hS
      go_upto_region 5 with (refine list_store_blk rfl 34 _ _ rfl (wr.heap.size) _ _ 34 (BlockIs.newAt' _ _ _ (by simp)) rfl rfl (by kernel_rfl) rfl (by simp [Value.oneCell']) wr.heap.size wr (by (repeat (first | with_reducible assumption | with_reducible exact Below.refl _ _ | with_reducible refine Below.setCell ?_ (by first | omega | (simp; done) | (simp; omega)) _ | with_reducible refine Below.alloc ?_ (by first | omega | (simp; done) | (simp; omega)) _ | with_reducible refine Below.drew ?_ | (with_reducible refine Below.trans ?_ (Below.mono (by with_reducible assumption) (by first | omega | (simp; done) | (simp; omega)))) | (refine Below.trans ?_ (Below.mono (by assumption) (by first | omega | (simp; done) | (simp; omega))))))) (Nat.le_refl _) ?_; intro W5 hP hoth hsz b5; clear hoth hsz)
      clear k0 k1 k2 k3 k4 k5 k6 k7 k8 k9
      have HO5 := Lib.hid (owns_below HO.out b5)
      have HB5 := Lib.hid (HB.out.trans (b5.mono HB.out.size))
      have x0 := hP.cell (i := 0) rfl
      have x1 := hP.cell (i := 1) rfl
      have x2 := hP.cell (i := 2) rfl
      have x3 := hP.cell (i := 3) rfl
      have x4 := hP.cell (i := 4) rfl
      have x5 := hP.cell (i := 5) rfl
      have x6 := hP.cell (i := 6) rfl
      have x7 := hP.cell (i := 7) rfl
      have x8 := hP.cell (i := 8) rfl
      have x9 := hP.cell (i := 9) rfl
      have xf := hP.frozen
      have xl := hP.lt
      cases hc : p.came with
      | false =>
        rw [hc] at x4
        have HS2 : Hid (cameL (l.take (k + 1)) = cameL (l.take k)) := by show _ = _; rw [HS.out, hc]; simp
        clear hc
        go_wp2_with fail
        go_roundw
        case rel => exact ⟨k + 1, by omega, by go_num, by rw [HS2.out]; exact HO5.out, HB5.out⟩
        case measure => simp [intOf]; omega
      | true =>
        have HS2 : Hid (cameL (l.take (k + 1)) = cameL (l.take k) ++ [p]) := by show _ = _; rw [HS.out, hc, if_pos rfl]
        have hc4 := hc
        rw [hc] at x4
        have HPV : Hid ([.bool p.en.ad.v6, .int .u64 p.en.ad.hi, .int .u64 p.en.ad.lo, .int .i64 p.en.port, .bool true, .int .i64 p.since, .int .i64 p.pts, .int .i64 p.at_, .int .i64 p.ping, .int .i64 p.work] = peV p) := by show _ = _; unfold peV; rw [hc]
        clear hc hc4
        go_wp2_with (at_builtin; refine list_app_reads_g peRow rfl _ _ rfl w.heap.size _ (cameL (l.take k)).length _ rfl (HO5.out.alloc _) _ 1 (peV p) rfl (by rw [← HPV.out]; exact reads_one rfl (Nat.succ_pos 9)) (peV_one1 p) (by omega) (by omega) (by have := HB5.out.size; simp; omega) ?_; intro v' w7 hO7 hg7)
        go_roundw
        case rel => exact ⟨k + 1, by omega, by go_num, (by rw [HS2.out, List.length_append, pe_snoc]; exact hO7), below_grown (HO5.out.alloc _) ((HB5.out).alloc (HB5.out.size) _) (Nat.le_refl _) (by have := HB5.out.size; simp; omega) hg7⟩
        case measure => simp [intOf]; omega
    · obtain rfl : k = l.length := by omega
      have HR : Hid (∀ o', Hid (wr.ownsRow w.heap.size 34 10 o' (cameL (l.take l.length)).length ((cameL (l.take l.length)).flatMap peV)) → ReadsL peV 10 wr o' (cameL l)) := fun o' hO => by
        have := owns_reads hO.out
        rwa [List.take_length] at this
      go_wp2_with fail
      go_ret
      exact ⟨_, rfl, HR.out _ HO, HB.out⟩
set_option maxRecDepth 100000 in
set_option maxHeartbeats 8000000 in
theorem refCame_any (v : Value) (l : List Pe) (w : World) (h : ReadsL peV 10 w v l) (hn : l.length ≤ 1000000) :
    Calls Try.prog 63 #[v] w fun e w' => ∃ r, e = .returned r ∧ ReadsL peV 10 w' r (cameL l) ∧ Below w.heap.size w w' := by
  obtain ⟨hm, p, c, rfl, h3⟩ := pes_open h
  clear h
  go_enter Try.func63, Try.ntmps63
  go_upto_region 3 with fail
  go_name_world W0 hW0
  have hO0 : W0.ownsRow w.heap.size 34 10 (.slice (some ⟨w.heap.size, 0, none⟩) 0 0) 0 [] := by subst hW0; exact World.ownsRow_made w #[] 0 (Nat.le_refl _) (Nat.zero_le _) rfl
  have b0 : Below w.heap.size w W0 := by subst hW0; (repeat (first | with_reducible assumption | with_reducible exact Below.refl _ _ | with_reducible refine Below.setCell ?_ (by first | omega | (simp; done) | (simp; omega)) _ | with_reducible refine Below.alloc ?_ (by first | omega | (simp; done) | (simp; omega)) _ | with_reducible refine Below.drew ?_ | (with_reducible refine Below.trans ?_ (Below.mono (by with_reducible assumption) (by first | omega | (simp; done) | (simp; omega)))) | (refine Below.trans ?_ (Below.mono (by assumption) (by first | omega | (simp; done) | (simp; omega))))))
  have HO0 := Lib.hid hO0; have HB0 := Lib.hid b0
  clear hW0 hO0 b0
  go_loopw [3, 4] (fun o' i' wr => ∃ k : Nat, k ≤ l.length ∧ i' = .int .i64 k ∧ Hid (wr.ownsRow w.heap.size 34 10 o' (cameL (l.take k)).length ((cameL (l.take k)).flatMap peV)) ∧ Hid (Below w.heap.size w wr)) (fun _ i' _ => l.length - (intOf i').toNat)
  case atStart => exact ⟨0, by omega, rfl, HO0.out, HB0.out⟩
  case round =>
    obtain ⟨k, hk, rfl, HO, HB⟩ := hrel
    by_cases hlt : k < l.length
    · obtain ⟨p, hp⟩ : ∃ p, l[k]? = some p := ⟨_, List.getElem?_eq_getElem hlt⟩
      obtain ⟨b, o, rfl, h4, h5, h6⟩ := h3 (by omega)
      have K := (h6 k p hp).below HB.out h5
      have q1 : (0 : Int) ≤ (k : Int) := by omega
      have q2 : (k : Int) < (l.length : Int) := by omega
      have hS := cameL_snoc (l.take k) p
      rw [← show l.take (k + 1) = l.take k ++ [p] by rw [List.take_add_one, hp, Option.toList_some]] at hS
      have HS := Lib.hid hS
      have hcl : (cameL (l.take k)).length ≤ k := Nat.le_trans (cameL_le _) (by rw [List.length_take]; omega)
      obtain ⟨k0, k1, k2, k3, k4, k5, k6, k7, k8, k9⟩ := K
      clear hp h6 hS
      cases hc : p.came with
      | false =>
        rw [hc] at k4
        have HS2 : Hid (cameL (l.take (k + 1)) = cameL (l.take k)) := by show _ = _; rw [HS.out, hc]; simp
        clear hc
        go_wp2_with fail
        go_roundw
        case rel => exact ⟨k + 1, by omega, by go_num, by rw [HS2.out]; exact HO.out, HB.out⟩
        case measure => simp [intOf]; omega
      | true =>
        have HS2 : Hid (cameL (l.take (k + 1)) = cameL (l.take k) ++ [p]) := by show _ = _; rw [HS.out, hc, if_pos rfl]
        rw [hc] at k4
        have HPV : Hid ([.bool p.en.ad.v6, .int .u64 p.en.ad.hi, .int .u64 p.en.ad.lo, .int .i64 p.en.port, .bool true, .int .i64 p.since, .int .i64 p.pts, .int .i64 p.at_, .int .i64 p.ping, .int .i64 p.work] = peV p) := by show _ = _; unfold peV; rw [hc]
        clear hc
        go_wp2_with (at_builtin; refine list_app_reads_g peRow rfl _ _ rfl w.heap.size _ (cameL (l.take k)).length _ rfl (HO.out.alloc _) _ 1 (peV p) rfl (by rw [← HPV.out]; exact reads_one rfl (Nat.succ_pos 9)) (peV_one1 p) (by omega) (by omega) (by have := HB.out.size; simp; omega) ?_; intro v' w7 hO7 hg7)
        go_roundw
        case rel => exact ⟨k + 1, by omega, by go_num, (by rw [HS2.out, List.length_append, pe_snoc]; exact hO7), below_grown (HO.out.alloc _) ((HB.out).alloc (HB.out.size) _) (Nat.le_refl _) (by have := HB.out.size; simp; omega) hg7⟩
        case measure => simp [intOf]; omega
    · obtain rfl : k = l.length := by omega
      have HR : Hid (∀ o', Hid (wr.ownsRow w.heap.size 34 10 o' (cameL (l.take l.length)).length ((cameL (l.take l.length)).flatMap peV)) → ReadsL peV 10 wr o' (cameL l)) := fun o' hO => by
        have := owns_reads hO.out
        rwa [List.take_length] at this
      go_wp2_with fail
      go_ret
      exact ⟨_, rfl, HR.out _ HO, HB.out⟩
/-- of whom one would go -/
def cdL (l : List Pe) (q : Qu) (s : Nat) : List Pe := (lfL (cameL l) q s 4).map (rkGet (cameL l))
theorem cdL_len (l : List Pe) (q : Qu) (s : Nat) : (cdL l q s).length ≤ l.length := by
  unfold cdL; rw [List.length_map]; exact Nat.le_trans (lfL_len _ q s 4) (cameL_le l)
theorem cdL_fits {l : List Pe} (hl : ∀ x ∈ l, x.fits) (q : Qu) (s : Nat) : ∀ x ∈ cdL l q s, x.fits := fun x hx => by
  obtain ⟨i, hi, rfl⟩ := List.mem_map.1 hx
  have hil := lfL_lt hi
  rw [rkGet_at (List.getElem?_eq_getElem hil)]
  exact cameL_fits hl _ (List.getElem_mem _)
set_option maxRecDepth 100000 in
set_option maxHeartbeats 16000000 in
theorem cand_any (v : Value) (l : List Pe) (hl : ∀ x ∈ l, x.fits) (q : Qu) (hq : q.fits) (s : Nat) (hs : s < 18446744073709551616) (w : World) (h : ReadsL peV 10 w v l) (hn : l.length ≤ 1000000) :
    Calls Try.prog 60 #[v, .agg #[.int .i64 q.group, .int .i64 q.ping, .int .i64 q.work, .int .i64 q.time], .int .u64 s] w fun e w' => ∃ r, e = .returned r ∧ ReadsL peV 10 w' r (cdL l q s) ∧ Below w.heap.size w w' := by
  have HC := Lib.hid (fun W (hW : Below w.heap.size w W) => came_any v l W (ReadsL.below h hW) hn)
  have hnA := Nat.le_trans (cameL_le l) hn
  go_enter Try.func60, Try.ntmps60
  go_upto_region 2 with (go_at_call 98; (with_reducible refine (HC.out _ (by (repeat (first | with_reducible assumption | with_reducible exact Below.refl _ _ | with_reducible refine Below.setCell ?_ (by first | omega | (simp; done) | (simp; omega)) _ | with_reducible refine Below.alloc ?_ (by first | omega | (simp; done) | (simp; omega)) _ | with_reducible refine Below.drew ?_ | (with_reducible refine Below.trans ?_ (Below.mono (by with_reducible assumption) (by first | omega | (simp; done) | (simp; omega)))) | (refine Below.trans ?_ (Below.mono (by assumption) (by first | omega | (simp; done) | (simp; omega)))))))).mono ?_); rintro e w1 ⟨r1, rfl, o1, b1⟩)
  have bw : Below w.heap.size w w1 := by (repeat (first | with_reducible assumption | with_reducible exact Below.refl _ _ | with_reducible refine Below.setCell ?_ (by first | omega | (simp; done) | (simp; omega)) _ | with_reducible refine Below.alloc ?_ (by first | omega | (simp; done) | (simp; omega)) _ | with_reducible refine Below.drew ?_ | (with_reducible refine Below.trans ?_ (Below.mono (by with_reducible assumption) (by first | omega | (simp; done) | (simp; omega)))) | (refine Below.trans ?_ (Below.mono (by assumption) (by first | omega | (simp; done) | (simp; omega))))))
  have z1 := b1.size
  simp at z1
  have hfA := cameL_fits hl
  have c0 := (bcell b1).1 w.heap.size 0 (by simp); have c1 := (bcell b1).1 w.heap.size 1 (by simp); have c2 := (bcell b1).1 w.heap.size 2 (by simp); have c3 := (bcell b1).1 w.heap.size 3 (by simp)
  have d0 : w1.cell? ⟨w.heap.size, 0, none⟩ = some (.int .i64 q.group) := by rw [c0]; (first | (simp [go_sem, *]; done) | (simp (disch := first | omega | (simp; omega) | (simp [go_sem, *]; done)) [go_sem, World.cell?_setCell_far, World.cell?_alloc_past, World.frozen?_alloc_past, *]; done))
  have d1 : w1.cell? ⟨w.heap.size, 1, none⟩ = some (.int .i64 q.ping) := by rw [c1]; (first | (simp [go_sem, *]; done) | (simp (disch := first | omega | (simp; omega) | (simp [go_sem, *]; done)) [go_sem, World.cell?_setCell_far, World.cell?_alloc_past, World.frozen?_alloc_past, *]; done))
  have d2 : w1.cell? ⟨w.heap.size, 2, none⟩ = some (.int .i64 q.work) := by rw [c2]; (first | (simp [go_sem, *]; done) | (simp (disch := first | omega | (simp; omega) | (simp [go_sem, *]; done)) [go_sem, World.cell?_setCell_far, World.cell?_alloc_past, World.frozen?_alloc_past, *]; done))
  have d3 : w1.cell? ⟨w.heap.size, 3, none⟩ = some (.int .i64 q.time) := by rw [c3]; (first | (simp [go_sem, *]; done) | (simp (disch := first | omega | (simp; omega) | (simp [go_sem, *]; done)) [go_sem, World.cell?_setCell_far, World.cell?_alloc_past, World.frozen?_alloc_past, *]; done))
  generalize hA : cameL l = A at *
  obtain ⟨hmA, pA, cA, rfl, h3⟩ := pes_open o1
  have HL := Lib.hid (fun W (hW : Below w1.heap.size w1 W) => sh_left_any _ A hfA q hq s hs W (ReadsL.below o1 hW) hnA)
  have HE : Hid (cdL l q s = (lfL A q s 4).map (rkGet A)) := by show _ = _; unfold cdL; rw [hA]
  have HBW := Lib.hid bw
  have hzl : w.heap.size < w1.heap.size := by omega
  clear hA b1 bw HC c0 c1 c2 c3 o1
  go_upto_region 4 with (go_at_call 53; (with_reducible refine (HL.out _ (by (repeat (first | with_reducible assumption | with_reducible exact Below.refl _ _ | with_reducible refine Below.setCell ?_ (by first | omega | (simp; done) | (simp; omega)) _ | with_reducible refine Below.alloc ?_ (by first | omega | (simp; done) | (simp; omega)) _ | with_reducible refine Below.drew ?_ | (with_reducible refine Below.trans ?_ (Below.mono (by with_reducible assumption) (by first | omega | (simp; done) | (simp; omega)))) | (refine Below.trans ?_ (Below.mono (by assumption) (by first | omega | (simp; done) | (simp; omega)))))))).mono ?_); rintro e w2 ⟨r2, rfl, o2, b2⟩; obtain ⟨a2, c2, rfl⟩ := owns_slice o2)
  have hGl : ∀ i ∈ lfL A q s 4, i < A.length := fun i hi => lfL_lt hi
  have hGn : (lfL A q s 4).length ≤ 1000000 := Nat.le_trans (lfL_len A q s 4) hnA
  generalize lfL A q s 4 = G at *
  obtain ⟨_, hmG, _, _, e9, k1⟩ := (owns_reads o2).open
  injection e9 with e91 e92 e93
  subst e91 e93
  have HB2 := Lib.hid (below2 HBW.out b2)
  have HB12 := Lib.hid b2
  clear o2 b2 d0 d1 d2 d3 e92 hfA hl
  go_loopw [7, 17] (fun o' i' wr => ∃ k : Nat, k ≤ G.length ∧ i' = .int .i64 k ∧ Hid (wr.ownsRow w2.heap.size 34 10 o' k (((G.take k).map (rkGet A)).flatMap peV)) ∧ Hid (Below w2.heap.size w2 wr)) (fun _ i' _ => G.length - (intOf i').toNat)
  case atStart => exact ⟨0, by omega, rfl, ⟨rfl, Or.inl ⟨rfl, rfl⟩⟩, Below.refl _ _⟩
  case round =>
    obtain ⟨k, hk, rfl, HO, HB⟩ := hrel
    by_cases hlt : k < G.length
    · obtain ⟨i, hi⟩ : ∃ i, G[k]? = some i := ⟨_, List.getElem?_eq_getElem hlt⟩
      have hil : i < A.length := hGl i (List.mem_of_getElem? hi)
      obtain ⟨p, hp⟩ : ∃ p, A[i]? = some p := ⟨_, List.getElem?_eq_getElem hil⟩
      obtain ⟨b, o, rfl, h4, h5, h6⟩ := h3 (by omega)
      obtain ⟨bx, ox, rfl, hcx, hbx, hxx⟩ := k1 (by omega)
      have g1 : wr.cell? ⟨bx, ox + k, none⟩ = some (.int .i64 i) := keep HB.out hbx (hxx k (natV i) (by rw [List.getElem?_map, hi]; rfl))
      have K := (h6 i p hp).below (below2 HB12.out HB.out) h5
      obtain ⟨k0, k1', k2, k3, k4, k5, k6, k7, k8, k9⟩ := K
      have q1 : (0 : Int) ≤ (k : Int) := by omega
      have q2 : (k : Int) < (G.length : Int) := by omega
      have q3 : (0 : Int) ≤ (i : Int) := by omega
      have q4 : (i : Int) < (A.length : Int) := by omega
      have HT : Hid (((G.take (k + 1)).map (rkGet A)).flatMap peV = ((G.take k).map (rkGet A)).flatMap peV ++ peV p) := by
        show _ = _
        rw [List.take_add_one, hi, Option.toList_some, List.map_append, List.flatMap_append, List.map_cons, List.map_nil, List.flatMap_cons, List.flatMap_nil, List.append_nil, rkGet_at hp]
      clear hi hp h6 hxx hil
      go_wp2_with (at_builtin; refine list_app_reads_g peRow rfl _ _ rfl w2.heap.size _ k _ rfl (HO.out.alloc _) _ 1 (peV p) rfl (reads_one (us := peV p) rfl (Nat.succ_pos 9)) (peV_one1 p) (by omega) (by omega) (by have := HB.out.size; simp; omega) ?_; intro v' w7 hO7 hg7)
      go_roundw
      case rel => exact ⟨k + 1, by omega, by go_num, (by rw [HT.out]; exact hO7), below_grown (HO.out.alloc _) ((HB.out).alloc (HB.out.size) _) (Nat.le_refl _) (by have := HB.out.size; simp; omega) hg7⟩
      case measure => simp [intOf]; omega
    · obtain rfl : k = G.length := by omega
      have HR : Hid (∀ o', Hid (wr.ownsRow w2.heap.size 34 10 o' G.length (((G.take G.length).map (rkGet A)).flatMap peV)) → ReadsL peV 10 wr o' (G.map (rkGet A))) := fun o' hO => by
        have := owns_reads hO.out
        rw [List.take_length] at this
        unfold ReadsL
        rw [List.length_map]; exact this
      go_wp2_with fail
      go_ret
      exact ⟨_, rfl, by rw [HE.out]; exact HR.out _ HO, below2 HB2.out HB.out⟩
end Go.Proofs.Ytdjmejdfcceknaa
/- The contracts of evict.Choose, of the document's, and of what the laws of eviction call. Conditions: numbers are 64 bits. -/
namespace Go.Proofs.Ytdjmejdfcceknaa
open Go.RowKit
set_option linter.unusedSimpArgs false
set_option linter.unusedVariables false

set_option maxRecDepth 100000 in
set_option maxHeartbeats 16000000 in
theorem refCand_any (v : Value) (l : List Pe) (hl : ∀ x ∈ l, x.fits) (q : Qu) (s : Nat) (hs : s < 18446744073709551616) (w : World) (h : ReadsL peV 10 w v l) (hn : l.length ≤ 1000000) :
    Calls Try.prog 61 #[v, .agg #[.int .i64 q.group, .int .i64 q.ping, .int .i64 q.work, .int .i64 q.time], .int .u64 s] w fun e w' => ∃ r, e = .returned r ∧ ReadsL peV 10 w' r (cdL l q s) ∧ Below w.heap.size w w' := by
  have HC := Lib.hid (fun W (hW : Below w.heap.size w W) => refCame_any v l W (ReadsL.below h hW) hn)
  have hnA := Nat.le_trans (cameL_le l) hn
  go_enter Try.func61, Try.ntmps61
  go_upto_region 2 with (go_at_call 63; (with_reducible refine (HC.out _ (by (repeat (first | with_reducible assumption | with_reducible exact Below.refl _ _ | with_reducible refine Below.setCell ?_ (by first | omega | (simp; done) | (simp; omega)) _ | with_reducible refine Below.alloc ?_ (by first | omega | (simp; done) | (simp; omega)) _ | with_reducible refine Below.drew ?_ | (with_reducible refine Below.trans ?_ (Below.mono (by with_reducible assumption) (by first | omega | (simp; done) | (simp; omega)))) | (refine Below.trans ?_ (Below.mono (by assumption) (by first | omega | (simp; done) | (simp; omega)))))))).mono ?_); rintro e w1 ⟨r1, rfl, o1, b1⟩)
  have bw : Below w.heap.size w w1 := by (repeat (first | with_reducible assumption | with_reducible exact Below.refl _ _ | with_reducible refine Below.setCell ?_ (by first | omega | (simp; done) | (simp; omega)) _ | with_reducible refine Below.alloc ?_ (by first | omega | (simp; done) | (simp; omega)) _ | with_reducible refine Below.drew ?_ | (with_reducible refine Below.trans ?_ (Below.mono (by with_reducible assumption) (by first | omega | (simp; done) | (simp; omega)))) | (refine Below.trans ?_ (Below.mono (by assumption) (by first | omega | (simp; done) | (simp; omega))))))
  have z1 := b1.size
  simp at z1
  have hfA := cameL_fits hl
  have c0 := (bcell b1).1 w.heap.size 0 (by simp); have c1 := (bcell b1).1 w.heap.size 1 (by simp); have c2 := (bcell b1).1 w.heap.size 2 (by simp); have c3 := (bcell b1).1 w.heap.size 3 (by simp)
  have d0 : w1.cell? ⟨w.heap.size, 0, none⟩ = some (.int .i64 q.group) := by rw [c0]; (first | (simp [go_sem, *]; done) | (simp (disch := first | omega | (simp; omega) | (simp [go_sem, *]; done)) [go_sem, World.cell?_setCell_far, World.cell?_alloc_past, World.frozen?_alloc_past, *]; done))
  have d1 : w1.cell? ⟨w.heap.size, 1, none⟩ = some (.int .i64 q.ping) := by rw [c1]; (first | (simp [go_sem, *]; done) | (simp (disch := first | omega | (simp; omega) | (simp [go_sem, *]; done)) [go_sem, World.cell?_setCell_far, World.cell?_alloc_past, World.frozen?_alloc_past, *]; done))
  have d2 : w1.cell? ⟨w.heap.size, 2, none⟩ = some (.int .i64 q.work) := by rw [c2]; (first | (simp [go_sem, *]; done) | (simp (disch := first | omega | (simp; omega) | (simp [go_sem, *]; done)) [go_sem, World.cell?_setCell_far, World.cell?_alloc_past, World.frozen?_alloc_past, *]; done))
  have d3 : w1.cell? ⟨w.heap.size, 3, none⟩ = some (.int .i64 q.time) := by rw [c3]; (first | (simp [go_sem, *]; done) | (simp (disch := first | omega | (simp; omega) | (simp [go_sem, *]; done)) [go_sem, World.cell?_setCell_far, World.cell?_alloc_past, World.frozen?_alloc_past, *]; done))
  generalize hA : cameL l = A at *
  obtain ⟨hmA, pA, cA, rfl, h3⟩ := pes_open o1
  have HS := Lib.hid (fun W (hW : Below w1.heap.size w1 W) => ref_saved_any _ A hfA q s hs W (ReadsL.below o1 hW) hnA)
  have HE : Hid (cdL l q s = (leftOf (List.range A.length) (svO A q s 4)).map (rkGet A)) := by show _ = _; unfold cdL; rw [hA]; rfl
  have HBW := Lib.hid bw
  have hzl : w.heap.size < w1.heap.size := by omega
  clear hA b1 bw HC c0 c1 c2 c3 o1
  go_upto_region 5 with (go_at_call 52; (with_reducible refine (HS.out _ (by (repeat (first | with_reducible assumption | with_reducible exact Below.refl _ _ | with_reducible refine Below.setCell ?_ (by first | omega | (simp; done) | (simp; omega)) _ | with_reducible refine Below.alloc ?_ (by first | omega | (simp; done) | (simp; omega)) _ | with_reducible refine Below.drew ?_ | (with_reducible refine Below.trans ?_ (Below.mono (by with_reducible assumption) (by first | omega | (simp; done) | (simp; omega)))) | (refine Below.trans ?_ (Below.mono (by assumption) (by first | omega | (simp; done) | (simp; omega)))))))).mono ?_); rintro e w2 ⟨r2, rfl, o2, b2⟩)
  generalize svO A q s 4 = O at *
  obtain ⟨_, hmG, a2, c2, rfl, k1⟩ := o2.open
  go_name_world W0 hW0
  have hO0 : W0.ownsRow w2.heap.size 34 10 (.slice (some ⟨w2.heap.size, 0, none⟩) 0 0) 0 [] := by subst hW0; exact World.ownsRow_made w2 #[] 0 (Nat.le_refl _) (Nat.zero_le _) rfl
  have b0 : Below w2.heap.size w2 W0 := by subst hW0; (repeat (first | with_reducible assumption | with_reducible exact Below.refl _ _ | with_reducible refine Below.setCell ?_ (by first | omega | (simp; done) | (simp; omega)) _ | with_reducible refine Below.alloc ?_ (by first | omega | (simp; done) | (simp; omega)) _ | with_reducible refine Below.drew ?_ | (with_reducible refine Below.trans ?_ (Below.mono (by with_reducible assumption) (by first | omega | (simp; done) | (simp; omega)))) | (refine Below.trans ?_ (Below.mono (by assumption) (by first | omega | (simp; done) | (simp; omega))))))
  have HB2 := Lib.hid (below2 HBW.out b2)
  have HB12 := Lib.hid b2
  have HO0 := Lib.hid hO0; have HB0 := Lib.hid b0
  clear hW0 hO0 b0 o2 b2 d0 d1 d2 d3 hfA hl
  go_loopw [9, 10] (fun o' i' wr => ∃ k : Nat, k ≤ A.length ∧ i' = .int .i64 k ∧ Hid (wr.ownsRow w2.heap.size 34 10 o' (leftOf (List.range k) O).length (((leftOf (List.range k) O).map (rkGet A)).flatMap peV)) ∧ Hid (Below w2.heap.size w2 wr)) (fun _ i' _ => A.length - (intOf i').toNat)
  case atStart => exact ⟨0, by omega, rfl, HO0.out, HB0.out⟩
  case round =>
    obtain ⟨k, hk, rfl, HO, HB⟩ := hrel
    by_cases hlt : k < A.length
    · obtain ⟨p, hp⟩ : ∃ p, A[k]? = some p := ⟨_, List.getElem?_eq_getElem hlt⟩
      obtain ⟨b, o, rfl, h4, h5, h6⟩ := h3 (by omega)
      obtain ⟨bx, ox, rfl, hcx, hbx, hxx⟩ := k1 (by omega)
      have g1 : wr.cell? ⟨bx, ox + k, none⟩ = some (.bool (decide (k ∈ O))) := keep HB.out hbx (hxx k _ (usedV_get hlt))
      have K := (h6 k p hp).below (below2 HB12.out HB.out) h5
      obtain ⟨k0, k1', k2, k3, k4, k5, k6, k7, k8, k9⟩ := K
      have q1 : (0 : Int) ≤ (k : Int) := by omega
      have q2 : (k : Int) < (A.length : Int) := by omega
      have HD := Lib.hid (lfK_succ A.length O k)
      have hdl : (leftOf (List.range k) O).length ≤ k := Nat.le_trans (List.length_filter_le _ _) (by simp)
      have HGP := Lib.hid (rkGet_at hp)
      clear hp h6 hxx
      by_cases hin : k ∈ O
      · have HD2 : Hid (leftOf (List.range (k + 1)) O = leftOf (List.range k) O) := by show _ = _; rw [HD.out, if_pos hin, List.append_nil]
        rw [decide_eq_true hin] at g1
        clear hin
        go_wp2_with fail
        go_roundw
        case rel => exact ⟨k + 1, by omega, by go_num, by rw [HD2.out]; exact HO.out, HB.out⟩
        case measure => simp [intOf]; omega
      · have HD2 : Hid (leftOf (List.range (k + 1)) O = leftOf (List.range k) O ++ [k]) := by show _ = _; rw [HD.out, if_neg hin]
        have HT : Hid ((((leftOf (List.range k) O ++ [k])).map (rkGet A)).flatMap peV = ((leftOf (List.range k) O).map (rkGet A)).flatMap peV ++ peV p) := by
          show _ = _
          rw [List.map_append, List.flatMap_append, List.map_cons, List.map_nil, List.flatMap_cons, List.flatMap_nil, List.append_nil, HGP.out]
        rw [decide_eq_false hin] at g1
        clear hin
        go_wp2_with (at_builtin; refine list_app_reads_g peRow rfl _ _ rfl w2.heap.size _ (leftOf (List.range k) O).length _ rfl (HO.out.alloc _) _ 1 (peV p) rfl (reads_one (us := peV p) rfl (Nat.succ_pos 9)) (peV_one1 p) (by omega) (by omega) (by have := HB.out.size; simp; omega) ?_; intro v' w7 hO7 hg7)
        go_roundw
        case rel => exact ⟨k + 1, by omega, by go_num, (by rw [HD2.out, HT.out, List.length_append]; exact hO7), below_grown (HO.out.alloc _) ((HB.out).alloc (HB.out.size) _) (Nat.le_refl _) (by have := HB.out.size; simp; omega) hg7⟩
        case measure => simp [intOf]; omega
    · obtain rfl : k = A.length := by omega
      have HR : Hid (∀ o', Hid (wr.ownsRow w2.heap.size 34 10 o' (leftOf (List.range A.length) O).length (((leftOf (List.range A.length) O).map (rkGet A)).flatMap peV)) → ReadsL peV 10 wr o' ((leftOf (List.range A.length) O).map (rkGet A))) := fun o' hO => by
        have := owns_reads hO.out
        unfold ReadsL
        rw [List.length_map]; exact this
      go_wp2_with fail
      go_ret
      exact ⟨_, rfl, by rw [HE.out]; exact HR.out _ HO, below2 HB2.out HB.out⟩
def zEn : En := ⟨⟨false, 0, 0⟩, 0⟩
/-- who goes -/
def chE (l : List Pe) (q : Qu) (s : Nat) : En := match pkO (cdL l q s) with | none => zEn | some x => (rkGet (cdL l q s) x).en
def chB (l : List Pe) (q : Qu) (s : Nat) : Bool := (pkO (cdL l q s)).isSome
--- printed by gen_evictb.py
set_option maxRecDepth 100000 in
set_option maxHeartbeats 16000000 in
theorem choose_any (v : Value) (l : List Pe) (hl : ∀ x ∈ l, x.fits) (q : Qu) (hq : q.fits) (s : Nat) (hs : s < 18446744073709551616) (w : World) (h : ReadsL peV 10 w v l) (hn : l.length ≤ 1000000) :
    Calls Try.prog 57 #[v, .agg #[.int .i64 q.group, .int .i64 q.ping, .int .i64 q.work, .int .i64 q.time], .int .u64 s] w fun e w' => e = .returned (.tuple #[.agg #[.bool ((chE l q s)).ad.v6, .int .u64 ((chE l q s)).ad.hi, .int .u64 ((chE l q s)).ad.lo, .int .i64 ((chE l q s)).port], .bool (chB l q s)]) ∧ Below w.heap.size w w' := by
  have HC := Lib.hid (fun W (hW : Below w.heap.size w W) => cand_any v l hl q hq s hs W (ReadsL.below h hW) hn)
  have hnC := Nat.le_trans (cdL_len l q s) hn
  have hfC := cdL_fits hl q s
  have hen : chE l q s = (match pkO (cdL l q s) with | none => zEn | some x => (rkGet (cdL l q s) x).en) := rfl
  have hbb : chB l q s = (pkO (cdL l q s)).isSome := rfl
  generalize chE l q s = en at *
  generalize chB l q s = bb at *
  generalize cdL l q s = C at *
  have HEN := Lib.hid hen; have HBB := Lib.hid hbb
  clear hen hbb
  go_enter Try.func57, Try.ntmps57
  go_upto_region 1 with fail
  go_name_world W0 hW0
  have hE0 : BlockIs W0 (w.heap.size + 1) [.bool false, .int .u64 0, .int .u64 0, .int .i64 0] 30 := by subst hW0; exact BlockIs.newAt' _ _ _ (by simp)
  have d0 : W0.cell? ⟨w.heap.size, 0, none⟩ = some (.int .i64 q.group) := by subst hW0; (first | (simp [go_sem, *]; done) | (simp (disch := first | omega | (simp; omega) | (simp [go_sem, *]; done)) [go_sem, World.cell?_setCell_far, World.cell?_alloc_past, World.frozen?_alloc_past, *]; done))
  have d1 : W0.cell? ⟨w.heap.size, 1, none⟩ = some (.int .i64 q.ping) := by subst hW0; (first | (simp [go_sem, *]; done) | (simp (disch := first | omega | (simp; omega) | (simp [go_sem, *]; done)) [go_sem, World.cell?_setCell_far, World.cell?_alloc_past, World.frozen?_alloc_past, *]; done))
  have d2 : W0.cell? ⟨w.heap.size, 2, none⟩ = some (.int .i64 q.work) := by subst hW0; (first | (simp [go_sem, *]; done) | (simp (disch := first | omega | (simp; omega) | (simp [go_sem, *]; done)) [go_sem, World.cell?_setCell_far, World.cell?_alloc_past, World.frozen?_alloc_past, *]; done))
  have d3 : W0.cell? ⟨w.heap.size, 3, none⟩ = some (.int .i64 q.time) := by subst hW0; (first | (simp [go_sem, *]; done) | (simp (disch := first | omega | (simp; omega) | (simp [go_sem, *]; done)) [go_sem, World.cell?_setCell_far, World.cell?_alloc_past, World.frozen?_alloc_past, *]; done))
  have b0 : Below w.heap.size w W0 := by subst hW0; (repeat (first | with_reducible assumption | with_reducible exact Below.refl _ _ | with_reducible refine Below.setCell ?_ (by first | omega | (simp; done) | (simp; omega)) _ | with_reducible refine Below.alloc ?_ (by first | omega | (simp; done) | (simp; omega)) _ | with_reducible refine Below.drew ?_ | (with_reducible refine Below.trans ?_ (Below.mono (by with_reducible assumption) (by first | omega | (simp; done) | (simp; omega)))) | (refine Below.trans ?_ (Below.mono (by assumption) (by first | omega | (simp; done) | (simp; omega))))))
  obtain ⟨B, hBe⟩ : ∃ B, B = w.heap.size + 1 := ⟨_, rfl⟩
  rw [← hBe] at hE0
  rw [← hBe]
  have hle : w.heap.size ≤ B := by omega
  have HB0 := Lib.hid b0; have HE0 := Lib.hid hE0
  clear hW0 b0 hE0 hBe
  go_upto_region 2 with (go_at_call 60; (with_reducible refine (HC.out _ HB0.out).mono ?_); rintro e w1 ⟨r1, rfl, o1, b1⟩)
  obtain ⟨hmC, pC, cC, rfl, h3⟩ := pes_open o1
  have HP := Lib.hid (fun W (hW : Below w1.heap.size w1 W) => pick_any _ C hfC W (ReadsL.below o1 hW) hnC)
  have HB1 := Lib.hid (below2 HB0.out b1)
  have HE1 := Lib.hid (HE0.out.below b1)
  clear d0 d1 d2 d3 b1 o1
  go_upto_region 3 with (go_at_call 20; (with_reducible refine (HP.out _ (by (repeat (first | with_reducible assumption | with_reducible exact Below.refl _ _ | with_reducible refine Below.setCell ?_ (by first | omega | (simp; done) | (simp; omega)) _ | with_reducible refine Below.alloc ?_ (by first | omega | (simp; done) | (simp; omega)) _ | with_reducible refine Below.drew ?_ | (with_reducible refine Below.trans ?_ (Below.mono (by with_reducible assumption) (by first | omega | (simp; done) | (simp; omega)))) | (refine Below.trans ?_ (Below.mono (by assumption) (by first | omega | (simp; done) | (simp; omega)))))))).mono ?_); rintro e w2 ⟨rfl, b2⟩)
  have HB2 := Lib.hid (below2 HB1.out b2)
  have hE2 := HE1.out.below b2
  have hBl := hE2.lt
  have hBf := hE2.frozen
  have c0 := hE2.cell (i := 0) rfl; have c1 := hE2.cell (i := 1) rfl; have c2 := hE2.cell (i := 2) rfl; have c3 := hE2.cell (i := 3) rfl
  cases hpk : pkO C with
  | none =>
    have hat : pkI none = -1 := rfl
    have HPKE := Lib.hid hpk
    simp only [hat]
    clear hpk hat
    go_wp2_with fail
    refine bodyPost_named fun W9 h9 => ?_
    have hR : BlockIs W9 B [.bool (zEn).ad.v6, .int .u64 (zEn).ad.hi, .int .u64 (zEn).ad.lo, .int .i64 (zEn).port] 30 := by subst h9; exact (((hE2.set 0 _).set 1 _).set 2 _).set 3 _
    have b9 : Below w.heap.size w W9 := by subst h9; exact (((HB2.out.setCell hle _).setCell hle _).setCell hle _).setCell hle _
    clear h9
    have e90 := hR.cell (i := 0) rfl; have e91 := hR.cell (i := 1) rfl; have e92 := hR.cell (i := 2) rfl; have e93 := hR.cell (i := 3) rfl
    exact bodyPost_ret (v := .tuple #[.agg #[.bool (zEn).ad.v6, .int .u64 (zEn).ad.hi, .int .u64 (zEn).ad.lo, .int .i64 (zEn).port], .bool false]) (by simp [results, Try.results57, go_sem, e90, e91, e92, e93]) rfl ⟨by rw [HEN.out, HBB.out, HPKE.out]; rfl, b9⟩
  | some x =>
    have hat : pkI (some x) = (x : Int) := rfl
    have hx := (pick_best (wo_gtL C) hpk).1
    obtain ⟨p, hp⟩ : ∃ p, C[x]? = some p := ⟨_, List.getElem?_eq_getElem hx⟩
    obtain ⟨b, o, rfl, h4, h5, h6⟩ := h3 (by omega)
    obtain ⟨k0, k1, k2, k3, -⟩ := (h6 x p hp).below b2 h5
    have hg : rkGet C x = p := rkGet_at hp
    have q1 : (0 : Int) ≤ (x : Int) := by omega
    have q2 : (x : Int) < (C.length : Int) := by omega
    have q3 : ¬ ((x : Int) < 0) := by omega
    have HPKE := Lib.hid hpk; have HG := Lib.hid hg
    simp only [hat]
    clear hpk hat hp h6 hg
    go_wp2_with fail
    refine bodyPost_named fun W9 h9 => ?_
    have hR : BlockIs W9 B [.bool (p.en).ad.v6, .int .u64 (p.en).ad.hi, .int .u64 (p.en).ad.lo, .int .i64 (p.en).port] 30 := by subst h9; exact (((hE2.set 0 _).set 1 _).set 2 _).set 3 _
    have b9 : Below w.heap.size w W9 := by subst h9; exact (((HB2.out.setCell hle _).setCell hle _).setCell hle _).setCell hle _
    clear h9
    have e90 := hR.cell (i := 0) rfl; have e91 := hR.cell (i := 1) rfl; have e92 := hR.cell (i := 2) rfl; have e93 := hR.cell (i := 3) rfl
    exact bodyPost_ret (v := .tuple #[.agg #[.bool (p.en).ad.v6, .int .u64 (p.en).ad.hi, .int .u64 (p.en).ad.lo, .int .i64 (p.en).port], .bool true]) (by simp [results, Try.results57, go_sem, e90, e91, e92, e93]) rfl ⟨by rw [HEN.out, HBB.out, HPKE.out]; simp only [HG.out]; rfl, b9⟩
set_option maxRecDepth 100000 in
set_option maxHeartbeats 16000000 in
theorem refChoose_any (v : Value) (l : List Pe) (hl : ∀ x ∈ l, x.fits) (q : Qu) (hq : q.fits) (s : Nat) (hs : s < 18446744073709551616) (w : World) (h : ReadsL peV 10 w v l) (hn : l.length ≤ 1000000) :
    Calls Try.prog 58 #[v, .agg #[.int .i64 q.group, .int .i64 q.ping, .int .i64 q.work, .int .i64 q.time], .int .u64 s] w fun e w' => e = .returned (.tuple #[.agg #[.bool ((chE l q s)).ad.v6, .int .u64 ((chE l q s)).ad.hi, .int .u64 ((chE l q s)).ad.lo, .int .i64 ((chE l q s)).port], .bool (chB l q s)]) ∧ Below w.heap.size w w' := by
  have HC := Lib.hid (fun W (hW : Below w.heap.size w W) => refCand_any v l hl q s hs W (ReadsL.below h hW) hn)
  have hnC := Nat.le_trans (cdL_len l q s) hn
  have hfC := cdL_fits hl q s
  have hen : chE l q s = (match pkO (cdL l q s) with | none => zEn | some x => (rkGet (cdL l q s) x).en) := rfl
  have hbb : chB l q s = (pkO (cdL l q s)).isSome := rfl
  generalize chE l q s = en at *
  generalize chB l q s = bb at *
  generalize cdL l q s = C at *
  have HEN := Lib.hid hen; have HBB := Lib.hid hbb
  clear hen hbb
  go_enter Try.func58, Try.ntmps58
  go_upto_region 1 with fail
  go_name_world W0 hW0
  have hE0 : BlockIs W0 (w.heap.size + 1) [.bool false, .int .u64 0, .int .u64 0, .int .i64 0] 30 := by subst hW0; exact BlockIs.newAt' _ _ _ (by simp)
  have d0 : W0.cell? ⟨w.heap.size, 0, none⟩ = some (.int .i64 q.group) := by subst hW0; (first | (simp [go_sem, *]; done) | (simp (disch := first | omega | (simp; omega) | (simp [go_sem, *]; done)) [go_sem, World.cell?_setCell_far, World.cell?_alloc_past, World.frozen?_alloc_past, *]; done))
  have d1 : W0.cell? ⟨w.heap.size, 1, none⟩ = some (.int .i64 q.ping) := by subst hW0; (first | (simp [go_sem, *]; done) | (simp (disch := first | omega | (simp; omega) | (simp [go_sem, *]; done)) [go_sem, World.cell?_setCell_far, World.cell?_alloc_past, World.frozen?_alloc_past, *]; done))
  have d2 : W0.cell? ⟨w.heap.size, 2, none⟩ = some (.int .i64 q.work) := by subst hW0; (first | (simp [go_sem, *]; done) | (simp (disch := first | omega | (simp; omega) | (simp [go_sem, *]; done)) [go_sem, World.cell?_setCell_far, World.cell?_alloc_past, World.frozen?_alloc_past, *]; done))
  have d3 : W0.cell? ⟨w.heap.size, 3, none⟩ = some (.int .i64 q.time) := by subst hW0; (first | (simp [go_sem, *]; done) | (simp (disch := first | omega | (simp; omega) | (simp [go_sem, *]; done)) [go_sem, World.cell?_setCell_far, World.cell?_alloc_past, World.frozen?_alloc_past, *]; done))
  have b0 : Below w.heap.size w W0 := by subst hW0; (repeat (first | with_reducible assumption | with_reducible exact Below.refl _ _ | with_reducible refine Below.setCell ?_ (by first | omega | (simp; done) | (simp; omega)) _ | with_reducible refine Below.alloc ?_ (by first | omega | (simp; done) | (simp; omega)) _ | with_reducible refine Below.drew ?_ | (with_reducible refine Below.trans ?_ (Below.mono (by with_reducible assumption) (by first | omega | (simp; done) | (simp; omega)))) | (refine Below.trans ?_ (Below.mono (by assumption) (by first | omega | (simp; done) | (simp; omega))))))
  obtain ⟨B, hBe⟩ : ∃ B, B = w.heap.size + 1 := ⟨_, rfl⟩
  rw [← hBe] at hE0
  rw [← hBe]
  have hle : w.heap.size ≤ B := by omega
  have HB0 := Lib.hid b0; have HE0 := Lib.hid hE0
  clear hW0 b0 hE0 hBe
  go_upto_region 2 with (go_at_call 61; (with_reducible refine (HC.out _ HB0.out).mono ?_); rintro e w1 ⟨r1, rfl, o1, b1⟩)
  obtain ⟨hmC, pC, cC, rfl, h3⟩ := pes_open o1
  have HP := Lib.hid (fun W (hW : Below w1.heap.size w1 W) => refPick_any _ C hfC W (ReadsL.below o1 hW) hnC)
  have HB1 := Lib.hid (below2 HB0.out b1)
  have HE1 := Lib.hid (HE0.out.below b1)
  clear d0 d1 d2 d3 b1 o1
  go_upto_region 3 with (go_at_call 21; (with_reducible refine (HP.out _ (by (repeat (first | with_reducible assumption | with_reducible exact Below.refl _ _ | with_reducible refine Below.setCell ?_ (by first | omega | (simp; done) | (simp; omega)) _ | with_reducible refine Below.alloc ?_ (by first | omega | (simp; done) | (simp; omega)) _ | with_reducible refine Below.drew ?_ | (with_reducible refine Below.trans ?_ (Below.mono (by with_reducible assumption) (by first | omega | (simp; done) | (simp; omega)))) | (refine Below.trans ?_ (Below.mono (by assumption) (by first | omega | (simp; done) | (simp; omega)))))))).mono ?_); rintro e w2 ⟨rfl, b2⟩)
  have HB2 := Lib.hid (below2 HB1.out b2)
  have hE2 := HE1.out.below b2
  have hBl := hE2.lt
  have hBf := hE2.frozen
  have c0 := hE2.cell (i := 0) rfl; have c1 := hE2.cell (i := 1) rfl; have c2 := hE2.cell (i := 2) rfl; have c3 := hE2.cell (i := 3) rfl
  cases hpk : pkO C with
  | none =>
    have hat : pkI none = -1 := rfl
    have HPKE := Lib.hid hpk
    simp only [hat]
    clear hpk hat
    go_wp2_with fail
    refine bodyPost_named fun W9 h9 => ?_
    have hR : BlockIs W9 B [.bool (zEn).ad.v6, .int .u64 (zEn).ad.hi, .int .u64 (zEn).ad.lo, .int .i64 (zEn).port] 30 := by subst h9; exact (((hE2.set 0 _).set 1 _).set 2 _).set 3 _
    have b9 : Below w.heap.size w W9 := by subst h9; exact (((HB2.out.setCell hle _).setCell hle _).setCell hle _).setCell hle _
    clear h9
    have e90 := hR.cell (i := 0) rfl; have e91 := hR.cell (i := 1) rfl; have e92 := hR.cell (i := 2) rfl; have e93 := hR.cell (i := 3) rfl
    exact bodyPost_ret (v := .tuple #[.agg #[.bool (zEn).ad.v6, .int .u64 (zEn).ad.hi, .int .u64 (zEn).ad.lo, .int .i64 (zEn).port], .bool false]) (by simp [results, Try.results58, go_sem, e90, e91, e92, e93]) rfl ⟨by rw [HEN.out, HBB.out, HPKE.out]; rfl, b9⟩
  | some x =>
    have hat : pkI (some x) = (x : Int) := rfl
    have hx := (pick_best (wo_gtL C) hpk).1
    obtain ⟨p, hp⟩ : ∃ p, C[x]? = some p := ⟨_, List.getElem?_eq_getElem hx⟩
    obtain ⟨b, o, rfl, h4, h5, h6⟩ := h3 (by omega)
    obtain ⟨k0, k1, k2, k3, -⟩ := (h6 x p hp).below b2 h5
    have hg : rkGet C x = p := rkGet_at hp
    have q1 : (0 : Int) ≤ (x : Int) := by omega
    have q2 : (x : Int) < (C.length : Int) := by omega
    have q3 : ¬ ((x : Int) < 0) := by omega
    have HPKE := Lib.hid hpk; have HG := Lib.hid hg
    simp only [hat]
    clear hpk hat hp h6 hg
    go_wp2_with fail
    refine bodyPost_named fun W9 h9 => ?_
    have hR : BlockIs W9 B [.bool (p.en).ad.v6, .int .u64 (p.en).ad.hi, .int .u64 (p.en).ad.lo, .int .i64 (p.en).port] 30 := by subst h9; exact (((hE2.set 0 _).set 1 _).set 2 _).set 3 _
    have b9 : Below w.heap.size w W9 := by subst h9; exact (((HB2.out.setCell hle _).setCell hle _).setCell hle _).setCell hle _
    clear h9
    have e90 := hR.cell (i := 0) rfl; have e91 := hR.cell (i := 1) rfl; have e92 := hR.cell (i := 2) rfl; have e93 := hR.cell (i := 3) rfl
    exact bodyPost_ret (v := .tuple #[.agg #[.bool (p.en).ad.v6, .int .u64 (p.en).ad.hi, .int .u64 (p.en).ad.lo, .int .i64 (p.en).port], .bool true]) (by simp [results, Try.results58, go_sem, e90, e91, e92, e93]) rfl ⟨by rw [HEN.out, HBB.out, HPKE.out]; simp only [HG.out]; rfl, b9⟩
set_option maxRecDepth 100000 in
set_option maxHeartbeats 8000000 in
theorem peers_same (v u : Value) (L : List Pe) (w : World) (hv : ReadsL peV 10 w v L) (hu : ReadsL peV 10 w u L) :
    Calls Try.prog 59 #[v, u] w fun e w' => e = .returned (.bool true) ∧ Below w.heap.size w w' := by
  obtain ⟨hm, p, c, rfl, h3⟩ := pes_open hv
  obtain ⟨hm1, p1, c1, rfl, k3⟩ := pes_open hu
  clear hv hu
  go_enter Try.func59, Try.ntmps59
  go_wp2_with fail
  go_loopw [5] (fun i' wr => ∃ k : Nat, k ≤ L.length ∧ i' = .int .i64 k ∧ Hid (Below w.heap.size w wr)) (fun i' _ => L.length - (intOf i').toNat)
  case atStart => exact ⟨0, by omega, rfl, Below.refl _ _⟩
  case round =>
    obtain ⟨k, hk, rfl, HB⟩ := hrel
    by_cases hlt : k < L.length
    · obtain ⟨p, hp⟩ : ∃ p, L[k]? = some p := ⟨_, List.getElem?_eq_getElem hlt⟩
      obtain ⟨b1, o1, rfl, hc1, hb1, hx1⟩ := h3 (by omega)
      obtain ⟨b2, o2, rfl, hc2, hb2, hx2⟩ := k3 (by omega)
      have K := ((hx1 k p hp).below HB.out hb1).ext (Nat.lt_of_lt_of_le hb1 HB.out.size)
      have K2 := ((hx2 k p hp).below HB.out hb2).ext (Nat.lt_of_lt_of_le hb2 HB.out.size)
      have x0 := fun y => (K y).1; have x1 := fun y => (K y).2.1; have x2 := fun y => (K y).2.2.1; have x3 := fun y => (K y).2.2.2.1; have x4 := fun y => (K y).2.2.2.2.1; have x5 := fun y => (K y).2.2.2.2.2.1; have x6 := fun y => (K y).2.2.2.2.2.2.1; have x7 := fun y => (K y).2.2.2.2.2.2.2.1; have x8 := fun y => (K y).2.2.2.2.2.2.2.2.1; have x9 := fun y => (K y).2.2.2.2.2.2.2.2.2
      have y0 := fun y => (K2 y).1; have y1 := fun y => (K2 y).2.1; have y2 := fun y => (K2 y).2.2.1; have y3 := fun y => (K2 y).2.2.2.1; have y4 := fun y => (K2 y).2.2.2.2.1; have y5 := fun y => (K2 y).2.2.2.2.2.1; have y6 := fun y => (K2 y).2.2.2.2.2.2.1; have y7 := fun y => (K2 y).2.2.2.2.2.2.2.1; have y8 := fun y => (K2 y).2.2.2.2.2.2.2.2.1; have y9 := fun y => (K2 y).2.2.2.2.2.2.2.2.2
      have q1 : (0 : Int) ≤ (k : Int) := by omega
      have q2 : (k : Int) < (L.length : Int) := by omega
      have hq := fun W => neqPe_one p W
      clear K K2 hp hx1 hx2 h3 k3
      go_wp2_with fail
      refine wp_region_ext (by kernel_rfl) (by kernel_rfl) ?_
      repeat (go_big_quiet_step (fail))
      refine wpQuiet_nil ?_
      first | (intro _ hw'; obtain ⟨gx, hw''⟩ := hw'; subst hw'') | intro gx
      clear x0 x1 x2 x3 x4 x5 x6 x7 x8 x9 y0 y1 y2 y3 y4 y5 y6 y7 y8 y9 hq
      go_wp2_with fail
      go_roundw
      case rel => exact ⟨k + 1, by omega, by go_num, below2 HB.out (ext_below wr gx)⟩
      case measure => simp [intOf]; omega
    · obtain rfl : k = L.length := by omega
      have q2 : ¬ ((L.length : Int) < (L.length : Int)) := by omega
      go_wp2_with fail
      go_ret
      exact ⟨rfl, HB.out⟩
set_option maxRecDepth 100000 in
set_option maxHeartbeats 16000000 in
theorem unlike_any (v : Value) (l : List Pe) (w : World) (h : ReadsL peV 10 w v l) (hn : l.length ≤ 1000000) :
    Calls Try.prog 62 #[v] w fun e w' => ∃ bb, e = .returned (.bool bb) ∧ (bb = true ↔ UnlikeC l) ∧ Below w.heap.size w w' := by
  obtain ⟨hm, p, c, rfl, h3⟩ := pes_open h
  clear h
  rcases Nat.eq_zero_or_pos l.length with hz | hz
  · obtain rfl : l = [] := List.length_eq_zero_iff.1 hz
    simp only [List.length_nil]
    go_enter Try.func62, Try.ntmps62
    go_wp2_with fail
    go_loopw [3, 4] (fun i' _ wr => i' = .int .i64 0 ∧ Hid (Below w.heap.size w wr)) (fun _ _ _ => 0)
    case atStart => exact ⟨rfl, Below.refl _ _⟩
    case round =>
      obtain ⟨rfl, HB⟩ := hrel
      go_wp2_with fail
      go_ret
      exact ⟨true, rfl, ⟨fun _ => List.Pairwise.nil, fun _ => rfl⟩, HB.out⟩
  obtain ⟨b, o, rfl, h4, h5, h6⟩ := h3 hz
  clear h3
  go_enter Try.func62, Try.ntmps62
  go_wp2_with fail
  go_loopw [3, 4] (fun i' _ wr => ∃ i : Nat, i ≤ l.length ∧ i' = .int .i64 i ∧ Hid (∀ x y, x < y → y < i → (peGet l x).en ≠ (peGet l y).en) ∧ Hid (Below w.heap.size w wr)) (fun i' _ _ => l.length - (intOf i').toNat)
  case atStart => exact ⟨0, by omega, rfl, fun x y h1 h2 => by omega, Below.refl _ _⟩
  case round =>
    obtain ⟨i, hi, rfl, HU, HB⟩ := hrel
    obtain ⟨wo, rfl⟩ : ∃ wo : World, wo = wr := ⟨_, rfl⟩
    by_cases hlt : i < l.length
    · obtain ⟨pi, hpi⟩ : ∃ p, l[i]? = some p := ⟨_, List.getElem?_eq_getElem hlt⟩
      have q1 : (0 : Int) ≤ (i : Int) := by omega
      have q2 : (i : Int) < (l.length : Int) := by omega
      go_wp2_with fail
      go_loopw [4] (fun k' wr => ∃ k : Nat, k ≤ i ∧ k' = .int .i64 k ∧ Hid (∀ x, x < k → (peGet l x).en ≠ pi.en) ∧ Hid (Below w.heap.size w wr)) (fun k' _ => i - (intOf k').toNat)
      case atStart => exact ⟨0, by omega, rfl, fun x h1 => by omega, HB.out⟩
      case round =>
        obtain ⟨k, hk, rfl, HV, HB2⟩ := hrel
        have hbw := HB2.out
        by_cases hki : k < i
        · obtain ⟨pk, hpk⟩ : ∃ p, l[k]? = some p := ⟨_, List.getElem?_eq_getElem (show k < l.length by omega)⟩
          have K := ((h6 i pi hpi).below hbw h5).ext (Nat.lt_of_lt_of_le h5 hbw.size)
          have K2 := ((h6 k pk hpk).below hbw h5).ext (Nat.lt_of_lt_of_le h5 hbw.size)
          have x0 := fun y => (K y).1; have x1 := fun y => (K y).2.1; have x2 := fun y => (K y).2.2.1; have x3 := fun y => (K y).2.2.2.1
          have y0 := fun y => (K2 y).1; have y1 := fun y => (K2 y).2.1; have y2 := fun y => (K2 y).2.2.1; have y3 := fun y => (K2 y).2.2.2.1
          have q3 : (0 : Int) ≤ (k : Int) := by omega
          have q4 : (k : Int) < (l.length : Int) := by omega
          have q5 : (k : Int) < (i : Int) := by omega
          have q := fun W => eqlEn pi.en pk.en W
          have HG := Lib.hid (peGet_at hpk)
          have HPI := Lib.hid hpi; have HPK := Lib.hid hpk
          clear K K2 hpi hpk
          by_cases he : pi.en = pk.en
          · have hd : decide (pi.en = pk.en) = true := decide_eq_true he
            rw [hd] at q
            have HE1 := Lib.hid he
            clear hd he
            go_wp2_with fail
            refine wp_region_ext (by kernel_rfl) (by kernel_rfl) ?_
            repeat (go_big_quiet_step (fail))
            refine wpQuiet_nil ?_
            intro _ hw'
            obtain ⟨gx, hw''⟩ := hw'
            subst hw''
            clear x0 x1 x2 x3 y0 y1 y2 y3 q
            have b8 := below2 hbw (ext_below wr gx)
            go_wp2_with fail
            go_ret
            refine ⟨false, rfl, ⟨(fun e => nomatch e), fun hU => absurd HE1.out ?_⟩, b8⟩
            have := List.pairwise_iff_getElem.1 hU k i (by omega) hlt hki
            intro e
            rw [(List.getElem?_eq_some_iff.1 HPK.out).2, (List.getElem?_eq_some_iff.1 HPI.out).2] at this
            exact this e.symm
          · have hd : decide (pi.en = pk.en) = false := decide_eq_false he
            rw [hd] at q
            have HE := Lib.hid he
            clear hd he
            go_wp2_with fail
            refine wp_region_ext (by kernel_rfl) (by kernel_rfl) ?_
            repeat (go_big_quiet_step (fail))
            refine wpQuiet_nil ?_
            intro _ hw'
            obtain ⟨gx, hw''⟩ := hw'
            subst hw''
            clear x0 x1 x2 x3 y0 y1 y2 y3 q
            go_wp2_with fail
            go_roundw
            case rel => exact ⟨k + 1, by omega, by go_num, fun x hx => by
              rcases Nat.lt_or_ge x k with h1 | h1
              · exact HV.out x h1
              · obtain rfl : x = k := by omega
                rw [HG.out]; exact fun e => HE.out e.symm, HB2.out.trans ((ext_below wr gx).mono HB2.out.size)⟩
            case measure => simp [intOf]; omega
        · obtain rfl : k = i := by omega
          go_wp2_with fail
          go_roundw
          case rel => exact ⟨k + 1, by omega, by go_num, fun x y h1 h2 => by
            rcases Nat.lt_or_ge y k with h7 | h7
            · exact HU.out x y h1 h7
            · obtain rfl : y = k := by omega
              rw [peGet_at hpi]; exact HV.out x h1, HB2.out⟩
          case measure => simp [intOf]; omega
    · obtain rfl : i = l.length := by omega
      have HUN : Hid (UnlikeC l) := List.pairwise_iff_getElem.2 fun x y hx hy hxy => by
        have := HU.out x y hxy hy
        rwa [peGet_at (List.getElem?_eq_getElem hx), peGet_at (List.getElem?_eq_getElem hy)] at this
      go_wp2_with fail
      go_ret
      exact ⟨true, rfl, ⟨fun _ => HUN.out, fun _ => rfl⟩, HB.out⟩
end Go.Proofs.Ytdjmejdfcceknaa
/- The laws of eviction. No condition. -/
namespace Go.Proofs.Ytdjmejdfcceknaa
open Go.RowKit
set_option linter.unusedSimpArgs false
set_option linter.unusedVariables false

theorem at21_a (w : World) : Calls Try.prog 97 #[.int .u64 1, .int .i64 5, .bool true] w fun e w' => e = .returned (.agg #[.bool false, .int .u64 0, .int .u64 167837697, .int .i64 1005, .bool true, .int .i64 5, .int .i64 0, .int .i64 0, .int .i64 0, .int .i64 0]) ∧ Below w.heap.size w w' := by
  go_enter Try.func97, Try.ntmps97
  go_wp2_with fail
  refine bodyPost_ret (v := .agg #[.bool false, .int .u64 0, .int .u64 167837697, .int .i64 1005, .bool true, .int .i64 5, .int .i64 0, .int .i64 0, .int .i64 0, .int .i64 0]) (by simp [results, Try.results97, go_sem, *]) rfl ⟨rfl, ?_⟩
  (repeat (first | with_reducible assumption | with_reducible exact Below.refl _ _ | with_reducible refine Below.setCell ?_ (by first | omega | (simp; done) | (simp; omega)) _ | with_reducible refine Below.alloc ?_ (by first | omega | (simp; done) | (simp; omega)) _ | with_reducible refine Below.drew ?_ | (with_reducible refine Below.trans ?_ (Below.mono (by with_reducible assumption) (by first | omega | (simp; done) | (simp; omega)))) | (refine Below.trans ?_ (Below.mono (by assumption) (by first | omega | (simp; done) | (simp; omega))))))
theorem at21_b (w : World) : Calls Try.prog 97 #[.int .u64 2, .int .i64 20, .bool true] w fun e w' => e = .returned (.agg #[.bool false, .int .u64 0, .int .u64 167903233, .int .i64 1020, .bool true, .int .i64 20, .int .i64 0, .int .i64 0, .int .i64 0, .int .i64 0]) ∧ Below w.heap.size w w' := by
  go_enter Try.func97, Try.ntmps97
  go_wp2_with fail
  refine bodyPost_ret (v := .agg #[.bool false, .int .u64 0, .int .u64 167903233, .int .i64 1020, .bool true, .int .i64 20, .int .i64 0, .int .i64 0, .int .i64 0, .int .i64 0]) (by simp [results, Try.results97, go_sem, *]) rfl ⟨rfl, ?_⟩
  (repeat (first | with_reducible assumption | with_reducible exact Below.refl _ _ | with_reducible refine Below.setCell ?_ (by first | omega | (simp; done) | (simp; omega)) _ | with_reducible refine Below.alloc ?_ (by first | omega | (simp; done) | (simp; omega)) _ | with_reducible refine Below.drew ?_ | (with_reducible refine Below.trans ?_ (Below.mono (by with_reducible assumption) (by first | omega | (simp; done) | (simp; omega)))) | (refine Below.trans ?_ (Below.mono (by assumption) (by first | omega | (simp; done) | (simp; omega))))))
theorem at21_c (w : World) : Calls Try.prog 97 #[.int .u64 1, .int .i64 9, .bool true] w fun e w' => e = .returned (.agg #[.bool false, .int .u64 0, .int .u64 167837697, .int .i64 1009, .bool true, .int .i64 9, .int .i64 0, .int .i64 0, .int .i64 0, .int .i64 0]) ∧ Below w.heap.size w w' := by
  go_enter Try.func97, Try.ntmps97
  go_wp2_with fail
  refine bodyPost_ret (v := .agg #[.bool false, .int .u64 0, .int .u64 167837697, .int .i64 1009, .bool true, .int .i64 9, .int .i64 0, .int .i64 0, .int .i64 0, .int .i64 0]) (by simp [results, Try.results97, go_sem, *]) rfl ⟨rfl, ?_⟩
  (repeat (first | with_reducible assumption | with_reducible exact Below.refl _ _ | with_reducible refine Below.setCell ?_ (by first | omega | (simp; done) | (simp; omega)) _ | with_reducible refine Below.alloc ?_ (by first | omega | (simp; done) | (simp; omega)) _ | with_reducible refine Below.drew ?_ | (with_reducible refine Below.trans ?_ (Below.mono (by with_reducible assumption) (by first | omega | (simp; done) | (simp; omega)))) | (refine Below.trans ?_ (Below.mono (by assumption) (by first | omega | (simp; done) | (simp; omega))))))
theorem at21_d (w : World) : Calls Try.prog 97 #[.int .u64 1, .int .i64 30, .bool false] w fun e w' => e = .returned (.agg #[.bool false, .int .u64 0, .int .u64 167837697, .int .i64 1030, .bool false, .int .i64 30, .int .i64 0, .int .i64 0, .int .i64 0, .int .i64 0]) ∧ Below w.heap.size w w' := by
  go_enter Try.func97, Try.ntmps97
  go_wp2_with fail
  refine bodyPost_ret (v := .agg #[.bool false, .int .u64 0, .int .u64 167837697, .int .i64 1030, .bool false, .int .i64 30, .int .i64 0, .int .i64 0, .int .i64 0, .int .i64 0]) (by simp [results, Try.results97, go_sem, *]) rfl ⟨rfl, ?_⟩
  (repeat (first | with_reducible assumption | with_reducible exact Below.refl _ _ | with_reducible refine Below.setCell ?_ (by first | omega | (simp; done) | (simp; omega)) _ | with_reducible refine Below.alloc ?_ (by first | omega | (simp; done) | (simp; omega)) _ | with_reducible refine Below.drew ?_ | (with_reducible refine Below.trans ?_ (Below.mono (by with_reducible assumption) (by first | omega | (simp; done) | (simp; omega)))) | (refine Below.trans ?_ (Below.mono (by assumption) (by first | omega | (simp; done) | (simp; omega))))))
def a21 : List Pe := [⟨⟨⟨false, 0, 167837697⟩, 1005⟩, true, 5, 0, 0, 0, 0⟩, ⟨⟨⟨false, 0, 167903233⟩, 1020⟩, true, 20, 0, 0, 0, 0⟩, ⟨⟨⟨false, 0, 167837697⟩, 1009⟩, true, 9, 0, 0, 0, 0⟩, ⟨⟨⟨false, 0, 167837697⟩, 1030⟩, false, 30, 0, 0, 0, 0⟩]
theorem a21_fits : ∀ x ∈ a21, x.fits := by
  intro x hx
  unfold a21 at hx
  simp only [List.mem_cons, List.not_mem_nil, or_false] at hx
  rcases hx with rfl | rfl | rfl | rfl <;> (unfold Pe.fits Ad.fits; decide)
def q21a : Qu := ⟨0, 0, 0, 0⟩
def q21b : Qu := ⟨0, 0, 0, 3⟩
def q21c : Qu := ⟨0, 0, 0, 1⟩
theorem q21_fits : q21a.fits ∧ q21b.fits ∧ q21c.fits := by unfold Qu.fits q21a q21b q21c; decide
theorem a21_e : chE a21 q21a 7 = ⟨⟨false, 0, 167837697⟩, 1009⟩ := by decide +kernel
theorem a21_b : chB a21 q21a 7 = true := by decide +kernel
theorem a21_no : chB a21 q21b 7 = false := by decide +kernel
theorem a21_c : (cdL a21 q21c 7).length = 2 := by decide +kernel
set_option maxRecDepth 100000 in
set_option maxHeartbeats 8000000 in
theorem awake21_any (w : World) : Calls Try.prog 56 #[] w fun e w' => e = .returned (.bool true) ∧ Below w.heap.size w w' := by
  have A1 := Lib.hid (fun w => at21_a w); have A2 := Lib.hid (fun w => at21_b w); have A3 := Lib.hid (fun w => at21_c w); have A4 := Lib.hid (fun w => at21_d w)
  go_enter Try.func56, Try.ntmps56
  go_upto_region 2 with (first | (go_at_call 97; (with_reducible refine (A1.out _).mono ?_); rintro e w1 ⟨rfl, b1⟩) | (go_at_call 97; (with_reducible refine (A2.out _).mono ?_); rintro e w2 ⟨rfl, b2⟩) | (go_at_call 97; (with_reducible refine (A3.out _).mono ?_); rintro e w3 ⟨rfl, b3⟩) | (go_at_call 97; (with_reducible refine (A4.out _).mono ?_); rintro e w4 ⟨rfl, b4⟩))
  go_name_world W5 hW5
  have hB : BlockIs W5 w4.heap.size (a21.flatMap peV) 34 := by subst hW5; exact BlockIs.new w4 (a21.flatMap peV) _
  have b14 := below2 (below2 (below2 b1 b2) b3) b4
  have b5 : Below w.heap.size w W5 := by subst hW5; exact b14.alloc b14.size _
  clear hW5 b1 b2 b3 b4 b14
  have hR : ReadsL peV 10 W5 (.slice (some ⟨w4.heap.size, 0, none⟩) 4 4) a21 := reads_blkC hB (by decide) (by decide) (by decide)
  have HE : Hid (∀ W, Below W5.heap.size W5 W → Calls Try.prog 57 #[.slice (some ⟨w4.heap.size, 0, none⟩) 4 4, .agg #[.int .i64 0, .int .i64 0, .int .i64 0, .int .i64 0], .int .u64 7] W fun e w' => e = .returned (.tuple #[.agg #[.bool false, .int .u64 0, .int .u64 167837697, .int .i64 1009], .bool true]) ∧ Below W.heap.size W w') := fun W hW => by
    have := choose_any _ a21 a21_fits q21a q21_fits.1 7 (by omega) W (ReadsL.below hR hW) (by decide)
    rw [a21_e, a21_b] at this; exact this
  have HF : Hid (∀ W, Below W5.heap.size W5 W → Calls Try.prog 57 #[.slice (some ⟨w4.heap.size, 0, none⟩) 4 4, .agg #[.int .i64 0, .int .i64 0, .int .i64 0, .int .i64 3], .int .u64 7] W fun e w' => (∃ f : En, e = .returned (.tuple #[.agg #[.bool f.ad.v6, .int .u64 f.ad.hi, .int .u64 f.ad.lo, .int .i64 f.port], .bool false])) ∧ Below W.heap.size W w') := fun W hW => by
    have := choose_any _ a21 a21_fits q21b q21_fits.2.1 7 (by omega) W (ReadsL.below hR hW) (by decide)
    rw [a21_no] at this
    exact this.mono fun e w' ⟨he, hb⟩ => ⟨⟨_, he⟩, hb⟩
  have HC : Hid (∀ W, Below W5.heap.size W5 W → Calls Try.prog 60 #[.slice (some ⟨w4.heap.size, 0, none⟩) 4 4, .agg #[.int .i64 0, .int .i64 0, .int .i64 0, .int .i64 1], .int .u64 7] W fun e w' => (∃ (a : Option Addr) (c : Nat), e = .returned (.slice a 2 c)) ∧ Below W.heap.size W w') := fun W hW => by
    refine (cand_any _ a21 a21_fits q21c q21_fits.2.2 7 (by omega) W (ReadsL.below hR hW) (by decide)).mono fun e w' ⟨r, he, hr, hb⟩ => ?_
    obtain ⟨_, p, c, rfl, _⟩ := pes_open hr
    rw [a21_c] at he
    exact ⟨⟨p, c, he⟩, hb⟩
  have hlt := hB.lt
  go_upto_region 3 with (go_at_call 57; (with_reducible refine (HE.out _ (by (repeat (first | with_reducible assumption | with_reducible exact Below.refl _ _ | with_reducible refine Below.setCell ?_ (by first | omega | (simp; done) | (simp; omega)) _ | with_reducible refine Below.alloc ?_ (by first | omega | (simp; done) | (simp; omega)) _ | with_reducible refine Below.drew ?_ | (with_reducible refine Below.trans ?_ (Below.mono (by with_reducible assumption) (by first | omega | (simp; done) | (simp; omega)))) | (refine Below.trans ?_ (Below.mono (by assumption) (by first | omega | (simp; done) | (simp; omega)))))))).mono ?_); rintro e w6 ⟨rfl, b6⟩)
  go_name_world W7 hW7
  have b67 : Below w6.heap.size w6 W7 := by subst hW7; (repeat (first | with_reducible assumption | with_reducible exact Below.refl _ _ | with_reducible refine Below.setCell ?_ (by first | omega | (simp; done) | (simp; omega)) _ | with_reducible refine Below.alloc ?_ (by first | omega | (simp; done) | (simp; omega)) _ | with_reducible refine Below.drew ?_ | (with_reducible refine Below.trans ?_ (Below.mono (by with_reducible assumption) (by first | omega | (simp; done) | (simp; omega)))) | (refine Below.trans ?_ (Below.mono (by assumption) (by first | omega | (simp; done) | (simp; omega))))))
  have hE7 : BlockIs W7 w6.heap.size [.bool false, .int .u64 0, .int .u64 167837697, .int .i64 1009] 30 := by subst hW7; with_reducible exact BlockIs.newAt' w6 _ _ (by first | rfl | simp)
  clear hW7
  have b57 : Below W5.heap.size W5 W7 := below2 b6 b67
  have HB57 := Lib.hid b57
  clear b6 b67 HE
  go_upto_region 4 with (go_at_call 57; (with_reducible refine (HF.out _ (by (repeat (first | with_reducible assumption | with_reducible exact Below.refl _ _ | with_reducible refine Below.setCell ?_ (by first | omega | (simp; done) | (simp; omega)) _ | with_reducible refine Below.alloc ?_ (by first | omega | (simp; done) | (simp; omega)) _ | with_reducible refine Below.drew ?_ | (with_reducible refine Below.trans ?_ (Below.mono (by with_reducible assumption) (by first | omega | (simp; done) | (simp; omega)))) | (refine Below.trans ?_ (Below.mono (by assumption) (by first | omega | (simp; done) | (simp; omega)))))))).mono ?_); rintro e w8 ⟨⟨f, rfl⟩, b8⟩)
  go_name_world W9 hW9
  have b89 : Below w8.heap.size w8 W9 := by subst hW9; (repeat (first | with_reducible assumption | with_reducible exact Below.refl _ _ | with_reducible refine Below.setCell ?_ (by first | omega | (simp; done) | (simp; omega)) _ | with_reducible refine Below.alloc ?_ (by first | omega | (simp; done) | (simp; omega)) _ | with_reducible refine Below.drew ?_ | (with_reducible refine Below.trans ?_ (Below.mono (by with_reducible assumption) (by first | omega | (simp; done) | (simp; omega)))) | (refine Below.trans ?_ (Below.mono (by assumption) (by first | omega | (simp; done) | (simp; omega))))))
  clear hW9
  have b79 : Below W7.heap.size W7 W9 := below2 b8 b89
  have HB59 := Lib.hid (below2 b57 b79)
  have hB9 := (hB.below HB59.out)
  have hE9 := hE7.below b79
  have x0 := hE9.cell (i := 0) rfl; have x1 := hE9.cell (i := 1) rfl; have x2 := hE9.cell (i := 2) rfl; have x3 := hE9.cell (i := 3) rfl
  have y0 := hB9.cell (i := 20) rfl; have y1 := hB9.cell (i := 21) rfl; have y2 := hB9.cell (i := 22) rfl; have y3 := hB9.cell (i := 23) rfl
  have hlE := hE9.lt; have hlB := hB9.lt
  have hEq : ∀ W, (binOp .eql 30 (.agg #[.bool false, .int .u64 0, .int .u64 167837697, .int .i64 1009]) (.agg #[.bool false, .int .u64 0, .int .u64 167837697, .int .i64 1009])).run Try.prog W = .ok (.bool true) W := fun W => by
    have := eqlEn ⟨⟨false, 0, 167837697⟩, 1009⟩ ⟨⟨false, 0, 167837697⟩, 1009⟩ W
    exact this
  obtain ⟨B1, hB1⟩ : ∃ B1, B1 = w6.heap.size := ⟨_, rfl⟩
  obtain ⟨B2, hB2⟩ : ∃ B2, B2 = w4.heap.size := ⟨_, rfl⟩
  rw [← hB1] at x0 x1 x2 x3 hlE
  rw [← hB2] at y0 y1 y2 y3 hlB HC
  rw [← hB1, ← hB2]
  clear b8 b89 b57 b79 hB9 hE9 hE7 hB hR HF hB1 hB2 A1 A2 A3 A4
  go_region_held3 (fun w' => w'.cell? ⟨B1, 0, none⟩ = some (.bool false) ∧ w'.cell? ⟨B1, 1, none⟩ = some (.int .u64 0) ∧ w'.cell? ⟨B1, 2, none⟩ = some (.int .u64 167837697) ∧ w'.cell? ⟨B1, 3, none⟩ = some (.int .i64 1009) ∧ w'.cell? ⟨B2, 20, none⟩ = some (.bool false) ∧ w'.cell? ⟨B2, 21, none⟩ = some (.int .u64 0) ∧ w'.cell? ⟨B2, 22, none⟩ = some (.int .u64 167837697) ∧ w'.cell? ⟨B2, 23, none⟩ = some (.int .i64 1009)) (first | go_keep | (simp (disch := omega) [*])) (first | (go_at_call 60; (with_reducible refine (HC.out _ (Below.trans HB59.out (Below.mono (B := W9.heap.size) (by (repeat (first | with_reducible assumption | with_reducible exact Below.refl _ _ | with_reducible refine Below.setCell ?_ (by first | omega | (simp; done) | (simp; omega)) _ | with_reducible refine Below.alloc ?_ (by first | omega | (simp; done) | (simp; omega)) _ | with_reducible refine Below.drew ?_ | (with_reducible refine Below.trans ?_ (Below.mono (by with_reducible assumption) (by first | omega | (simp; done) | (simp; omega)))) | (refine Below.trans ?_ (Below.mono (by assumption) (by first | omega | (simp; done) | (simp; omega))))))) HB59.out.size))).mono ?_); rintro e w10 ⟨⟨a10, c10, rfl⟩, b10⟩; have z10 := b10.size; (try simp at z10); have d10 := fun o => (bcell b10).1 B1 o (by first | omega | (simp; done) | (simp; omega)); have d11 := fun o => (bcell b10).1 B2 o (by first | omega | (simp; done) | (simp; omega))))
  all_goals
    go_wp2_with fail
    go_ret
    refine ⟨rfl, Below.trans (below2 b5 HB59.out) (Below.mono (B := W9.heap.size) ?_ (below2 b5 HB59.out).size)⟩
    (repeat (first | with_reducible assumption | with_reducible exact Below.refl _ _ | with_reducible refine Below.setCell ?_ (by first | omega | (simp; done) | (simp; omega)) _ | with_reducible refine Below.alloc ?_ (by first | omega | (simp; done) | (simp; omega)) _ | with_reducible refine Below.drew ?_ | (with_reducible refine Below.trans ?_ (Below.mono (by with_reducible assumption) (by first | omega | (simp; done) | (simp; omega)))) | (refine Below.trans ?_ (Below.mono (by assumption) (by first | omega | (simp; done) | (simp; omega))))))
set_option maxRecDepth 100000 in
set_option maxHeartbeats 16000000 in
theorem evictTells_any (v : Value) (l : List Pe) (q : Qu) (s : Nat) (w : World) (h : ReadsL peV 10 w v l) (hl : ∀ x ∈ l, x.fits) (hq : q.fits) (hs : s < 18446744073709551616) :
    Calls Try.prog 12 #[v, .agg #[.int .i64 q.group, .int .i64 q.ping, .int .i64 q.work, .int .i64 q.time], .int .u64 s] w fun e w' => e = .returned (.bool true) ∧ Below w.heap.size w w' := by
  have h0 := Lib.hid h
  obtain ⟨hm, p, c, rfl, h3⟩ := pes_open h
  clear h h3
  have HA := Lib.hid (fun w => awake21_any w)
  rcases Int.lt_or_le 30 (l.length : Int) with hlen | hlen
  · go_enter Try.func12, Try.ntmps12
    go_wp2_with (go_at_call 56; (with_reducible refine (HA.out _).mono ?_); rintro e w2 ⟨rfl, b2⟩; obtain ⟨c2, f2⟩ := bcell b2; have z2 := b2.size; (try simp at z2); clear c2 f2)
    go_ret
    refine ⟨rfl, ?_⟩
    (repeat (first | with_reducible assumption | with_reducible exact Below.refl _ _ | with_reducible refine Below.setCell ?_ (by first | omega | (simp; done) | (simp; omega)) _ | with_reducible refine Below.alloc ?_ (by first | omega | (simp; done) | (simp; omega)) _ | with_reducible refine Below.drew ?_ | (with_reducible refine Below.trans ?_ (Below.mono (by with_reducible assumption) (by first | omega | (simp; done) | (simp; omega)))) | (refine Below.trans ?_ (Below.mono (by assumption) (by first | omega | (simp; done) | (simp; omega))))))
  · have hn : l.length ≤ 1000000 := by omega
    have hC := fun W (hW : Below w.heap.size w W) => choose_any _ l hl q hq s hs W (ReadsL.below h0.out hW) hn
    have hC2 := fun W (hW : Below w.heap.size w W) => refChoose_any _ l hl q hq s hs W (ReadsL.below h0.out hW) hn
    have hD := fun W (hW : Below w.heap.size w W) => cand_any _ l hl q hq s hs W (ReadsL.below h0.out hW) hn
    have hD2 := fun W (hW : Below w.heap.size w W) => refCand_any _ l hl q s hs W (ReadsL.below h0.out hW) hn
    generalize chE l q s = en at hC hC2
    generalize chB l q s = ok at hC hC2
    generalize cdL l q s = C at hD hD2
    have HC := Lib.hid hC; have HC2 := Lib.hid hC2; have HD := Lib.hid hD; have HD2 := Lib.hid hD2
    clear hC hC2 hD hD2
    go_enter Try.func12, Try.ntmps12
    go_upto_region 3 with fail
    go_name_world WW0 hWW0
    have e00 : WW0.cell? ⟨w.heap.size, 0, none⟩ = some (.int .i64 q.group) := by subst hWW0; (first | (simp (disch := first | omega | (simp; omega)) [World.cell?_alloc_past, World.frozen?_alloc_past, *]; done) | (simp (disch := first | omega | (simp; omega)) [World.cell?_setCell_far, World.cell?_alloc_past, *]; done) | (simp (disch := first | omega | (simp; omega)) [World.cell?_alloc_past, World.frozen?_alloc_past, *]; rfl) | (simp (disch := first | omega | (simp; omega)) [World.cell?_setCell_far, World.cell?_alloc_past, *]; rfl) | (simp [go_sem, *]; done) | (simp (disch := first | omega | (simp; omega) | (simp [go_sem, *]; done)) [go_sem, World.cell?_setCell_far, World.cell?_alloc_past, World.frozen?_alloc_past, *]; done))
    have e01 : WW0.cell? ⟨w.heap.size, 1, none⟩ = some (.int .i64 q.ping) := by subst hWW0; (first | (simp (disch := first | omega | (simp; omega)) [World.cell?_alloc_past, World.frozen?_alloc_past, *]; done) | (simp (disch := first | omega | (simp; omega)) [World.cell?_setCell_far, World.cell?_alloc_past, *]; done) | (simp (disch := first | omega | (simp; omega)) [World.cell?_alloc_past, World.frozen?_alloc_past, *]; rfl) | (simp (disch := first | omega | (simp; omega)) [World.cell?_setCell_far, World.cell?_alloc_past, *]; rfl) | (simp [go_sem, *]; done) | (simp (disch := first | omega | (simp; omega) | (simp [go_sem, *]; done)) [go_sem, World.cell?_setCell_far, World.cell?_alloc_past, World.frozen?_alloc_past, *]; done))
    have e02 : WW0.cell? ⟨w.heap.size, 2, none⟩ = some (.int .i64 q.work) := by subst hWW0; (first | (simp (disch := first | omega | (simp; omega)) [World.cell?_alloc_past, World.frozen?_alloc_past, *]; done) | (simp (disch := first | omega | (simp; omega)) [World.cell?_setCell_far, World.cell?_alloc_past, *]; done) | (simp (disch := first | omega | (simp; omega)) [World.cell?_alloc_past, World.frozen?_alloc_past, *]; rfl) | (simp (disch := first | omega | (simp; omega)) [World.cell?_setCell_far, World.cell?_alloc_past, *]; rfl) | (simp [go_sem, *]; done) | (simp (disch := first | omega | (simp; omega) | (simp [go_sem, *]; done)) [go_sem, World.cell?_setCell_far, World.cell?_alloc_past, World.frozen?_alloc_past, *]; done))
    have e03 : WW0.cell? ⟨w.heap.size, 3, none⟩ = some (.int .i64 q.time) := by subst hWW0; (first | (simp (disch := first | omega | (simp; omega)) [World.cell?_alloc_past, World.frozen?_alloc_past, *]; done) | (simp (disch := first | omega | (simp; omega)) [World.cell?_setCell_far, World.cell?_alloc_past, *]; done) | (simp (disch := first | omega | (simp; omega)) [World.cell?_alloc_past, World.frozen?_alloc_past, *]; rfl) | (simp (disch := first | omega | (simp; omega)) [World.cell?_setCell_far, World.cell?_alloc_past, *]; rfl) | (simp [go_sem, *]; done) | (simp (disch := first | omega | (simp; omega) | (simp [go_sem, *]; done)) [go_sem, World.cell?_setCell_far, World.cell?_alloc_past, World.frozen?_alloc_past, *]; done))
    have bw0 : Below w.heap.size w WW0 := by subst hWW0; (repeat (first | assumption | exact Below.refl _ _ | refine Below.setCell ?_ (by first | omega | (simp; done) | (simp; omega)) _ | refine Below.alloc ?_ (by first | omega | (simp; done) | (simp; omega)) _ | refine Below.drew ?_ | (refine Below.trans ?_ (Below.mono (by assumption) (by first | omega | (simp; done) | (simp; omega))))))
    have zw0 : _ := bw0.size
    have lW00 : w.heap.size < WW0.heap.size := by subst hWW0; first | omega | (simp; done) | (simp; omega)
    clear hWW0
    have HB0 := Lib.hid bw0
    go_upto_region 4 with (go_at_call 57; (with_reducible refine (HC.out _ HB0.out).mono ?_); rintro e w6 ⟨rfl, b6⟩)
    have g0 := keep b6 lW00 e00; have g1 := keep b6 lW00 e01; have g2 := keep b6 lW00 e02; have g3 := keep b6 lW00 e03
    have hl6 : w.heap.size < w6.heap.size := Nat.lt_of_lt_of_le lW00 b6.size
    have HB6 := Lib.hid (below2 HB0.out b6)
    go_name_world W7 hW7
    have b67 : Below w6.heap.size w6 W7 := by subst hW7; (repeat (first | with_reducible assumption | with_reducible exact Below.refl _ _ | with_reducible refine Below.setCell ?_ (by first | omega | (simp; done) | (simp; omega)) _ | with_reducible refine Below.alloc ?_ (by first | omega | (simp; done) | (simp; omega)) _ | with_reducible refine Below.drew ?_ | (with_reducible refine Below.trans ?_ (Below.mono (by with_reducible assumption) (by first | omega | (simp; done) | (simp; omega)))) | (refine Below.trans ?_ (Below.mono (by assumption) (by first | omega | (simp; done) | (simp; omega))))))
    have hE7 : BlockIs W7 w6.heap.size [.bool en.ad.v6, .int .u64 en.ad.hi, .int .u64 en.ad.lo, .int .i64 en.port] 30 := by subst hW7; with_reducible exact BlockIs.newAt' w6 _ _ (by first | rfl | simp)
    have HB7 := Lib.hid (below2 HB6.out b67)
    have f0 := keep b67 hl6 g0; have f1 := keep b67 hl6 g1; have f2 := keep b67 hl6 g2; have f3 := keep b67 hl6 g3
    have hl7 : w.heap.size < W7.heap.size := Nat.lt_of_lt_of_le hl6 b67.size
    have HE7 := Lib.hid hE7
    clear hW7 b67 hE7 b6 g0 g1 g2 g3 e00 e01 e02 e03
    go_upto_region 5 with (go_at_call 58; (with_reducible refine (HC2.out _ HB7.out).mono ?_); rintro e w8 ⟨rfl, b8⟩)
    have g0 := keep b8 hl7 f0; have g1 := keep b8 hl7 f1; have g2 := keep b8 hl7 f2; have g3 := keep b8 hl7 f3
    have hl8 : w.heap.size < w8.heap.size := Nat.lt_of_lt_of_le hl7 b8.size
    have HB8 := Lib.hid (below2 HB7.out b8)
    have HE8 := Lib.hid (HE7.out.below b8)
    go_name_world W9 hW9
    have b89 : Below w8.heap.size w8 W9 := by subst hW9; (repeat (first | with_reducible assumption | with_reducible exact Below.refl _ _ | with_reducible refine Below.setCell ?_ (by first | omega | (simp; done) | (simp; omega)) _ | with_reducible refine Below.alloc ?_ (by first | omega | (simp; done) | (simp; omega)) _ | with_reducible refine Below.drew ?_ | (with_reducible refine Below.trans ?_ (Below.mono (by with_reducible assumption) (by first | omega | (simp; done) | (simp; omega)))) | (refine Below.trans ?_ (Below.mono (by assumption) (by first | omega | (simp; done) | (simp; omega))))))
    have hE9 : BlockIs W9 w8.heap.size [.bool en.ad.v6, .int .u64 en.ad.hi, .int .u64 en.ad.lo, .int .i64 en.port] 30 := by subst hW9; with_reducible exact BlockIs.newAt' w8 _ _ (by first | rfl | simp)
    have HB9 := Lib.hid (below2 HB8.out b89)
    have c0 := keep b89 hl8 g0; have c1 := keep b89 hl8 g1; have c2 := keep b89 hl8 g2; have c3 := keep b89 hl8 g3
    have hE7' := HE8.out.below b89
    clear hW9 b89 b8 g0 g1 g2 g3 f0 f1 f2 f3
    have x0 := hE9.cell (i := 0) rfl; have x1 := hE9.cell (i := 1) rfl; have x2 := hE9.cell (i := 2) rfl; have x3 := hE9.cell (i := 3) rfl
    have y0 := hE7'.cell (i := 0) rfl; have y1 := hE7'.cell (i := 1) rfl; have y2 := hE7'.cell (i := 2) rfl; have y3 := hE7'.cell (i := 3) rfl
    have hl9 : w.heap.size < W9.heap.size := HB9.out.size |> Nat.lt_of_lt_of_le hl8 ∘ fun _ => Nat.le_of_lt hE9.lt
    have hlE := hE9.lt; have hlF := hE7'.lt
    have HD9 := Lib.hid (fun W (hW : Below W9.heap.size W9 W) => HD.out W (below2 HB9.out hW)); have HD92 := Lib.hid (fun W (hW : Below W9.heap.size W9 W) => HD2.out W (below2 HB9.out hW))
    have hEq := fun W => eqlEn en en W
    rw [decide_eq_true rfl] at hEq
    have hok : (ok == ok) = true := by simp
    obtain ⟨B1, hB1⟩ : ∃ B1, B1 = w6.heap.size := ⟨_, rfl⟩
    obtain ⟨B2, hB2⟩ : ∃ B2, B2 = w8.heap.size := ⟨_, rfl⟩
    rw [← hB1] at y0 y1 y2 y3 hlF
    rw [← hB2] at x0 x1 x2 x3 hlE
    rw [← hB1, ← hB2]
    clear hE9 hE7' hB1 hB2
    go_region_held3 (fun w' => w'.cell? ⟨w.heap.size, 0, none⟩ = some (.int .i64 q.group) ∧ w'.cell? ⟨w.heap.size, 1, none⟩ = some (.int .i64 q.ping) ∧ w'.cell? ⟨w.heap.size, 2, none⟩ = some (.int .i64 q.work) ∧ w'.cell? ⟨w.heap.size, 3, none⟩ = some (.int .i64 q.time) ∧ w'.cell? ⟨B1, 0, none⟩ = some (.bool en.ad.v6) ∧ w'.cell? ⟨B1, 1, none⟩ = some (.int .u64 en.ad.hi) ∧ w'.cell? ⟨B1, 2, none⟩ = some (.int .u64 en.ad.lo) ∧ w'.cell? ⟨B1, 3, none⟩ = some (.int .i64 en.port) ∧ w'.cell? ⟨B2, 0, none⟩ = some (.bool en.ad.v6) ∧ w'.cell? ⟨B2, 1, none⟩ = some (.int .u64 en.ad.hi) ∧ w'.cell? ⟨B2, 2, none⟩ = some (.int .u64 en.ad.lo) ∧ w'.cell? ⟨B2, 3, none⟩ = some (.int .i64 en.port)) (first | go_keep | (simp (disch := omega) [*])) (first | (go_at_call 60; (with_reducible refine (HD9.out _ (by (repeat (first | with_reducible assumption | with_reducible exact Below.refl _ _ | with_reducible refine Below.setCell ?_ (by first | omega | (simp; done) | (simp; omega)) _ | with_reducible refine Below.alloc ?_ (by first | omega | (simp; done) | (simp; omega)) _ | with_reducible refine Below.drew ?_ | (with_reducible refine Below.trans ?_ (Below.mono (by with_reducible assumption) (by first | omega | (simp; done) | (simp; omega)))) | (refine Below.trans ?_ (Below.mono (by assumption) (by first | omega | (simp; done) | (simp; omega)))))))).mono ?_); rintro e w11 ⟨r11, rfl, o11, b11⟩; have z11 := b11.size; (try simp at z11); have d11a := fun o => (bcell b11).1 (w.heap.size) o (by first | omega | (simp; done) | (simp; omega)); have d11b := fun o => (bcell b11).1 (B1) o (by first | omega | (simp; done) | (simp; omega)); have d11c := fun o => (bcell b11).1 (B2) o (by first | omega | (simp; done) | (simp; omega))) | (go_at_call 61; (with_reducible refine (HD92.out _ (by (repeat (first | with_reducible assumption | with_reducible exact Below.refl _ _ | with_reducible refine Below.setCell ?_ (by first | omega | (simp; done) | (simp; omega)) _ | with_reducible refine Below.alloc ?_ (by first | omega | (simp; done) | (simp; omega)) _ | with_reducible refine Below.drew ?_ | (with_reducible refine Below.trans ?_ (Below.mono (by with_reducible assumption) (by first | omega | (simp; done) | (simp; omega)))) | (refine Below.trans ?_ (Below.mono (by assumption) (by first | omega | (simp; done) | (simp; omega)))))))).mono ?_); rintro e w12 ⟨r12, rfl, o12, b12⟩; have z12 := b12.size; (try simp at z12); have d12a := fun o => (bcell b12).1 (w.heap.size) o (by first | omega | (simp; done) | (simp; omega)); have d12b := fun o => (bcell b12).1 (B1) o (by first | omega | (simp; done) | (simp; omega)); have d12c := fun o => (bcell b12).1 (B2) o (by first | omega | (simp; done) | (simp; omega))) | (go_at_call 59; refine (peers_same r11 r12 C _ (ReadsL.below o11 (by (repeat (first | with_reducible assumption | with_reducible exact Below.refl _ _ | with_reducible refine Below.setCell ?_ (by first | omega | (simp; done) | (simp; omega)) _ | with_reducible refine Below.alloc ?_ (by first | omega | (simp; done) | (simp; omega)) _ | with_reducible refine Below.drew ?_ | (with_reducible refine Below.trans ?_ (Below.mono (by with_reducible assumption) (by first | omega | (simp; done) | (simp; omega)))) | (refine Below.trans ?_ (Below.mono (by assumption) (by first | omega | (simp; done) | (simp; omega)))))))) (ReadsL.below o12 (by (repeat (first | with_reducible assumption | with_reducible exact Below.refl _ _ | with_reducible refine Below.setCell ?_ (by first | omega | (simp; done) | (simp; omega)) _ | with_reducible refine Below.alloc ?_ (by first | omega | (simp; done) | (simp; omega)) _ | with_reducible refine Below.drew ?_ | (with_reducible refine Below.trans ?_ (Below.mono (by with_reducible assumption) (by first | omega | (simp; done) | (simp; omega)))) | (refine Below.trans ?_ (Below.mono (by assumption) (by first | omega | (simp; done) | (simp; omega))))))))).mono ?_; rintro e w13 ⟨rfl, b13⟩; have z13 := b13.size; (try simp at z13); have d13a := fun o => (bcell b13).1 (w.heap.size) o (by first | omega | (simp; done) | (simp; omega)); have d13b := fun o => (bcell b13).1 (B1) o (by first | omega | (simp; done) | (simp; omega)); have d13c := fun o => (bcell b13).1 (B2) o (by first | omega | (simp; done) | (simp; omega))) | (go_at_call 56; (with_reducible refine (HA.out _).mono ?_); rintro e w14 ⟨rfl, b14⟩; have z14 := b14.size; (try simp at z14); have d14a := fun o => (bcell b14).1 (w.heap.size) o (by first | omega | (simp; done) | (simp; omega)); have d14b := fun o => (bcell b14).1 (B1) o (by first | omega | (simp; done) | (simp; omega)); have d14c := fun o => (bcell b14).1 (B2) o (by first | omega | (simp; done) | (simp; omega))))
    all_goals
      go_wp2_with fail
      go_ret
      refine ⟨rfl, Below.trans HB9.out (Below.mono (B := W9.heap.size) ?_ HB9.out.size)⟩
      (repeat (first | with_reducible assumption | with_reducible exact Below.refl _ _ | with_reducible refine Below.setCell ?_ (by first | omega | (simp; done) | (simp; omega)) _ | with_reducible refine Below.alloc ?_ (by first | omega | (simp; done) | (simp; omega)) _ | with_reducible refine Below.drew ?_ | (with_reducible refine Below.trans ?_ (Below.mono (by with_reducible assumption) (by first | omega | (simp; done) | (simp; omega)))) | (refine Below.trans ?_ (Below.mono (by assumption) (by first | omega | (simp; done) | (simp; omega))))))
end Go.Proofs.Ytdjmejdfcceknaa
/- Who goes, of whatever turn of peers with unlike ends. Conditions: ends unlike. -/
namespace Go.Proofs.Ytdjmejdfcceknaa

theorem unlike_c {l : List Pe} : UnlikeC l ↔ Unlike l := Iff.rfl
theorem came_unlike {l : List Pe} (h : UnlikeC l) : UnlikeC (cameL l) := List.Pairwise.filter _ h
theorem rk_inj {A : List Pe} (h : UnlikeC A) {i j : Nat} (hi : i < A.length) (hj : j < A.length) (e : (rkGet A i).en = (rkGet A j).en) : i = j := by
  rw [rkGet_at (List.getElem?_eq_getElem hi), rkGet_at (List.getElem?_eq_getElem hj)] at e
  rcases Nat.lt_trichotomy i j with c | c | c
  · exact absurd e (List.pairwise_iff_getElem.1 h i j hi hj c)
  · exact c
  · exact absurd e.symm (List.pairwise_iff_getElem.1 h j i hj hi c)
/-- whoever goes is one that is left -/
theorem ch_one {l : List Pe} {q : Qu} {s : Nat} {x : Nat} (h : pkO (cdL l q s) = some x) : ∃ j, j < (cameL l).length ∧ j ∉ svO (cameL l) q s 4 ∧ rkGet (cdL l q s) x = rkGet (cameL l) j := by
  have hx := (pick_best (wo_gtL _) h).1
  have hx2 : x < (lfL (cameL l) q s 4).length := by unfold cdL at hx; rwa [List.length_map] at hx
  refine ⟨(lfL (cameL l) q s 4)[x], lfL_lt (List.getElem_mem _), (left_mem.1 (List.getElem_mem hx2)).2, ?_⟩
  exact rkGet_at (by unfold cdL; rw [List.getElem?_map, List.getElem?_eq_getElem hx2]; rfl)
theorem ch_none {l : List Pe} {q : Qu} {s : Nat} (h : pkO (cdL l q s) = none) : lfL (cameL l) q s 4 = [] := by
  have := pick_none h
  unfold cdL at this
  rw [List.length_map] at this
  exact List.length_eq_zero_iff.1 this
/-- of whom one would go, by peers -/
def cdP (A : List Pe) (q : Qu) (s : Nat) : Nat → List Pe
  | 0 => A
  | b + 1 => lfP (rkP (b + 1 : Nat) s) (fun p => rkCounts p (b + 1 : Nat)) (quN q (b + 1 : Nat)).toNat (cdP A q s b)
theorem range_rk (A : List Pe) : (leftOf (List.range A.length) []).map (rkGet A) = A := by
  have e : leftOf (List.range A.length) [] = List.range A.length := List.filter_eq_self.2 fun _ _ => by simp
  rw [e]; exact range_get A
theorem cdP_is {A : List Pe} (h : UnlikeC A) (q : Qu) (s : Nat) : ∀ b, cdP A q s b = (leftOf (List.range A.length) (svO A q s b)).map (rkGet A)
  | 0 => (range_rk A).symm
  | b + 1 => by
    show lfP _ _ _ (cdP A q s b) = _
    rw [cdP_is h q s b]
    exact lfP_is (rkGet A) (fun i j hi hj e => rk_inj h hi hj (by rw [e])) (fun _ _ => rfl) (fun _ => rfl) _ _
theorem cdP_sub (A : List Pe) (q : Qu) (s : Nat) : ∀ b, (cdP A q s b).Sublist A
  | 0 => List.Sublist.refl _
  | b + 1 => lfP_sub.trans (cdP_sub A q s b)
theorem cdP_perm {A B : List Pe} (h : UnlikeC A) (hp : A.Perm B) (q : Qu) (s : Nat) : ∀ b, (cdP A q s b).Perm (cdP B q s b)
  | 0 => hp
  | b + 1 => lfP_perm (wo_P _ s) ((h.sublist (cdP_sub A q s b)).imp fun {a c} hac => rk_total hac) (cdP_perm h hp q s b)
theorem cdL_is {l : List Pe} (h : UnlikeC l) (q : Qu) (s : Nat) : cdL l q s = cdP (cameL l) q s 4 := (cdP_is (came_unlike h) q s 4).symm
/-- one and the same goes -/
theorem ch_turned {l m : List Pe} (h : UnlikeC l) (hp : l.Perm m) (q : Qu) (s : Nat) : chE m q s = chE l q s ∧ chB m q s = chB l q s := by
  have hm : UnlikeC m := hp.pairwise h (fun h => h.symm)
  have hpc : (cdL l q s).Perm (cdL m q s) := by
    rw [cdL_is h, cdL_is hm]
    exact cdP_perm (came_unlike h) (hp.filter _) q s 4
  have hu : UnlikeC (cdL l q s) := by
    rw [cdL_is h]; exact (came_unlike h).sublist (cdP_sub _ q s 4)
  unfold chE chB
  generalize cdL l q s = C at *
  generalize cdL m q s = D at *
  cases hc : pkO C with
  | none =>
    have e : C = [] := List.length_eq_zero_iff.1 (pick_none hc)
    have e2 : D = [] := List.length_eq_zero_iff.1 (by rw [← hpc.length_eq, e]; rfl)
    rw [e2]; exact ⟨rfl, rfl⟩
  | some x =>
    have hx := (pick_best (wo_gtL C) hc).1
    cases hd : pkO D with
    | none =>
      have := pick_none hd
      have := hpc.length_eq
      omega
    | some y =>
      have hy := (pick_best (wo_gtL D) hd).1
      have e := pk_turned hu hpc hc (List.getElem?_eq_getElem hx) hd (List.getElem?_eq_getElem hy)
      refine ⟨?_, rfl⟩
      show (rkGet D y).en = (rkGet C x).en
      rw [rkGet_at (List.getElem?_eq_getElem hx), rkGet_at (List.getElem?_eq_getElem hy), e]
end Go.Proofs.Ytdjmejdfcceknaa
/- The law of eviction: who never goes. No condition. -/
namespace Go.Proofs.Ytdjmejdfcceknaa
open Go.RowKit
set_option linter.unusedSimpArgs false
set_option linter.unusedVariables false

set_option maxRecDepth 100000 in
set_option maxHeartbeats 16000000 in
theorem evictNever_any (v : Value) (l : List Pe) (q : Qu) (s : Nat) (w : World) (h : ReadsL peV 10 w v l) (hl : ∀ x ∈ l, x.fits) (hq : q.fits) (hs : s < 18446744073709551616) :
    Calls Try.prog 13 #[v, .agg #[.int .i64 q.group, .int .i64 q.ping, .int .i64 q.work, .int .i64 q.time], .int .u64 s] w fun e w' => e = .returned (.bool true) ∧ Below w.heap.size w w' := by
  have h0 := Lib.hid h
  obtain ⟨hm, p, c, rfl, h3⟩ := pes_open h
  clear h h3
  have HA := Lib.hid (fun w => awake21_any w)
  rcases Int.lt_or_le 30 (l.length : Int) with hlen | hlen
  · go_enter Try.func13, Try.ntmps13
    go_wp2_with (go_at_call 56; (with_reducible refine (HA.out _).mono ?_); rintro e w2 ⟨rfl, b2⟩; obtain ⟨c2, f2⟩ := bcell b2; have z2 := b2.size; (try simp at z2); clear c2 f2)
    go_ret
    refine ⟨rfl, ?_⟩
    (repeat (first | with_reducible assumption | with_reducible exact Below.refl _ _ | with_reducible refine Below.setCell ?_ (by first | omega | (simp; done) | (simp; omega)) _ | with_reducible refine Below.alloc ?_ (by first | omega | (simp; done) | (simp; omega)) _ | with_reducible refine Below.drew ?_ | (with_reducible refine Below.trans ?_ (Below.mono (by with_reducible assumption) (by first | omega | (simp; done) | (simp; omega)))) | (refine Below.trans ?_ (Below.mono (by assumption) (by first | omega | (simp; done) | (simp; omega))))))
  have hn : l.length ≤ 1000000 := by omega
  by_cases hUn : UnlikeC l
  rotate_left
  · have HU : Hid (∀ W, Below w.heap.size w W → Calls Try.prog 62 #[.slice p l.length c] W fun e w' => e = .returned (.bool false) ∧ Below W.heap.size W w') := fun W hW => (unlike_any _ l W (ReadsL.below h0.out hW) hn).mono fun e w' ⟨bb, he, hb, hB⟩ => by
      cases bb with
      | true => exact absurd (hb.1 rfl) hUn
      | false => exact ⟨he, hB⟩
    go_enter Try.func13, Try.ntmps13
    go_wp2_with (first | (go_at_call 62; (with_reducible refine (HU.out _ (by (repeat (first | with_reducible assumption | with_reducible exact Below.refl _ _ | with_reducible refine Below.setCell ?_ (by first | omega | (simp; done) | (simp; omega)) _ | with_reducible refine Below.alloc ?_ (by first | omega | (simp; done) | (simp; omega)) _ | with_reducible refine Below.drew ?_ | (with_reducible refine Below.trans ?_ (Below.mono (by with_reducible assumption) (by first | omega | (simp; done) | (simp; omega)))) | (refine Below.trans ?_ (Below.mono (by assumption) (by first | omega | (simp; done) | (simp; omega)))))))).mono ?_); rintro e w1 ⟨rfl, b1⟩; have z1 := b1.size; (try simp at z1)) | (go_at_call 56; (with_reducible refine (HA.out _).mono ?_); rintro e w2 ⟨rfl, b2⟩))
    go_ret
    refine ⟨rfl, ?_⟩
    (repeat (first | with_reducible assumption | with_reducible exact Below.refl _ _ | with_reducible refine Below.setCell ?_ (by first | omega | (simp; done) | (simp; omega)) _ | with_reducible refine Below.alloc ?_ (by first | omega | (simp; done) | (simp; omega)) _ | with_reducible refine Below.drew ?_ | (with_reducible refine Below.trans ?_ (Below.mono (by with_reducible assumption) (by first | omega | (simp; done) | (simp; omega)))) | (refine Below.trans ?_ (Below.mono (by assumption) (by first | omega | (simp; done) | (simp; omega))))))
  have HUN := Lib.hid hUn
  have HU : Hid (∀ W, Below w.heap.size w W → Calls Try.prog 62 #[.slice p l.length c] W fun e w' => e = .returned (.bool true) ∧ Below W.heap.size W w') := fun W hW => (unlike_any _ l W (ReadsL.below h0.out hW) hn).mono fun e w' ⟨bb, he, hb, hB⟩ => by
    rw [hb.2 hUn] at he; exact ⟨he, hB⟩
  clear hUn
  have hC := fun W (hW : Below w.heap.size w W) => choose_any _ l hl q hq s hs W (ReadsL.below h0.out hW) hn
  have hCm := fun W (hW : Below w.heap.size w W) => refCame_any _ l W (ReadsL.below h0.out hW) hn
  have hfA := cameL_fits hl
  have hAl := cameL_le l
  have hAU := came_unlike HUN.out
  obtain ⟨j, HJ⟩ : ∃ j, Hid (chB l q s = true → j < (cameL l).length ∧ j ∉ svO (cameL l) q s 4 ∧ chE l q s = (rkGet (cameL l) j).en) := by
    cases hp : pkO (cdL l q s) with
    | none => exact ⟨0, fun e => by unfold chB at e; rw [hp] at e; cases e⟩
    | some x =>
      obtain ⟨j, h1, h2, h4⟩ := ch_one hp
      refine ⟨j, fun _ => ⟨h1, h2, ?_⟩⟩
      unfold chE; rw [hp]
      show (rkGet (cdL l q s) x).en = _
      rw [h4]
  have HZ : Hid (chB l q s = false → lfL (cameL l) q s 4 = [] ∧ chE l q s = zEn) := fun e => by
    cases hp : pkO (cdL l q s) with
    | none => exact ⟨ch_none hp, by unfold chE; rw [hp]⟩
    | some x => unfold chB at e; rw [hp] at e; cases e
  have HLF : Hid (lfL (cameL l) q s 4 = leftOf (List.range (cameL l).length) (svO (cameL l) q s 4)) := rfl
  have HIS := Lib.hid (fun i (hi : i < (cameL l).length) (hO : i ∉ svO (cameL l) q s 4) => (show shIn (cameL l) i q s = false by
    cases e : shIn (cameL l) i q s with
    | false => rfl
    | true => exact absurd (inside_saved hAU hi e) hO))
  have HINJ := Lib.hid (fun i j (hi : i < (cameL l).length) (hj : j < (cameL l).length) => rk_inj (A := cameL l) hAU hi hj)
  generalize chE l q s = en at *
  generalize chB l q s = ok at *
  generalize cameL l = A at *
  have hnA : A.length ≤ 1000000 := by omega
  have HC := Lib.hid hC; have HCm := Lib.hid hCm; have HFA := Lib.hid hfA
  clear hC hCm hfA hAU hAl hl
  go_enter Try.func13, Try.ntmps13
  go_upto_region 1 with fail
  go_name_world WW0 hWW0
  have e00 : WW0.cell? ⟨w.heap.size, 0, none⟩ = some (.int .i64 q.group) := by subst hWW0; (first | (simp (disch := first | omega | (simp; omega)) [World.cell?_alloc_past, World.frozen?_alloc_past, *]; done) | (simp (disch := first | omega | (simp; omega)) [World.cell?_setCell_far, World.cell?_alloc_past, *]; done) | (simp (disch := first | omega | (simp; omega)) [World.cell?_alloc_past, World.frozen?_alloc_past, *]; rfl) | (simp (disch := first | omega | (simp; omega)) [World.cell?_setCell_far, World.cell?_alloc_past, *]; rfl) | (simp [go_sem, *]; done) | (simp (disch := first | omega | (simp; omega) | (simp [go_sem, *]; done)) [go_sem, World.cell?_setCell_far, World.cell?_alloc_past, World.frozen?_alloc_past, *]; done))
  have e01 : WW0.cell? ⟨w.heap.size, 1, none⟩ = some (.int .i64 q.ping) := by subst hWW0; (first | (simp (disch := first | omega | (simp; omega)) [World.cell?_alloc_past, World.frozen?_alloc_past, *]; done) | (simp (disch := first | omega | (simp; omega)) [World.cell?_setCell_far, World.cell?_alloc_past, *]; done) | (simp (disch := first | omega | (simp; omega)) [World.cell?_alloc_past, World.frozen?_alloc_past, *]; rfl) | (simp (disch := first | omega | (simp; omega)) [World.cell?_setCell_far, World.cell?_alloc_past, *]; rfl) | (simp [go_sem, *]; done) | (simp (disch := first | omega | (simp; omega) | (simp [go_sem, *]; done)) [go_sem, World.cell?_setCell_far, World.cell?_alloc_past, World.frozen?_alloc_past, *]; done))
  have e02 : WW0.cell? ⟨w.heap.size, 2, none⟩ = some (.int .i64 q.work) := by subst hWW0; (first | (simp (disch := first | omega | (simp; omega)) [World.cell?_alloc_past, World.frozen?_alloc_past, *]; done) | (simp (disch := first | omega | (simp; omega)) [World.cell?_setCell_far, World.cell?_alloc_past, *]; done) | (simp (disch := first | omega | (simp; omega)) [World.cell?_alloc_past, World.frozen?_alloc_past, *]; rfl) | (simp (disch := first | omega | (simp; omega)) [World.cell?_setCell_far, World.cell?_alloc_past, *]; rfl) | (simp [go_sem, *]; done) | (simp (disch := first | omega | (simp; omega) | (simp [go_sem, *]; done)) [go_sem, World.cell?_setCell_far, World.cell?_alloc_past, World.frozen?_alloc_past, *]; done))
  have e03 : WW0.cell? ⟨w.heap.size, 3, none⟩ = some (.int .i64 q.time) := by subst hWW0; (first | (simp (disch := first | omega | (simp; omega)) [World.cell?_alloc_past, World.frozen?_alloc_past, *]; done) | (simp (disch := first | omega | (simp; omega)) [World.cell?_setCell_far, World.cell?_alloc_past, *]; done) | (simp (disch := first | omega | (simp; omega)) [World.cell?_alloc_past, World.frozen?_alloc_past, *]; rfl) | (simp (disch := first | omega | (simp; omega)) [World.cell?_setCell_far, World.cell?_alloc_past, *]; rfl) | (simp [go_sem, *]; done) | (simp (disch := first | omega | (simp; omega) | (simp [go_sem, *]; done)) [go_sem, World.cell?_setCell_far, World.cell?_alloc_past, World.frozen?_alloc_past, *]; done))
  have bw0 : Below w.heap.size w WW0 := by subst hWW0; (repeat (first | assumption | exact Below.refl _ _ | refine Below.setCell ?_ (by first | omega | (simp; done) | (simp; omega)) _ | refine Below.alloc ?_ (by first | omega | (simp; done) | (simp; omega)) _ | refine Below.drew ?_ | (refine Below.trans ?_ (Below.mono (by assumption) (by first | omega | (simp; done) | (simp; omega))))))
  have zw0 : _ := bw0.size
  have lW00 : w.heap.size < WW0.heap.size := by subst hWW0; first | omega | (simp; done) | (simp; omega)
  clear hWW0
  have HB0 := Lib.hid bw0
  go_upto_region 3 with (go_at_call 62; (with_reducible refine (HU.out _ HB0.out).mono ?_); rintro e w1 ⟨rfl, b1⟩)
  have g0 := keep b1 lW00 e00; have g1 := keep b1 lW00 e01; have g2 := keep b1 lW00 e02; have g3 := keep b1 lW00 e03
  have hl1 : w.heap.size < w1.heap.size := Nat.lt_of_lt_of_le lW00 b1.size
  have HB1 := Lib.hid (below2 HB0.out b1)
  clear b1 e00 e01 e02 e03 HU
  go_upto_region 4 with (go_at_call 57; (with_reducible refine (HC.out _ HB1.out).mono ?_); rintro e w6 ⟨rfl, b6⟩)
  have f0 := keep b6 hl1 g0; have f1 := keep b6 hl1 g1; have f2 := keep b6 hl1 g2; have f3 := keep b6 hl1 g3
  have hl6 : w.heap.size < w6.heap.size := Nat.lt_of_lt_of_le hl1 b6.size
  have HB6 := Lib.hid (below2 HB1.out b6)
  go_name_world W7 hW7
  have b67 : Below w6.heap.size w6 W7 := by subst hW7; (repeat (first | with_reducible assumption | with_reducible exact Below.refl _ _ | with_reducible refine Below.setCell ?_ (by first | omega | (simp; done) | (simp; omega)) _ | with_reducible refine Below.alloc ?_ (by first | omega | (simp; done) | (simp; omega)) _ | with_reducible refine Below.drew ?_ | (with_reducible refine Below.trans ?_ (Below.mono (by with_reducible assumption) (by first | omega | (simp; done) | (simp; omega)))) | (refine Below.trans ?_ (Below.mono (by assumption) (by first | omega | (simp; done) | (simp; omega))))))
  have hE7 : BlockIs W7 w6.heap.size [.bool en.ad.v6, .int .u64 en.ad.hi, .int .u64 en.ad.lo, .int .i64 en.port] 30 := by subst hW7; with_reducible exact BlockIs.newAt' w6 _ _ (by first | rfl | simp)
  have HB7 := Lib.hid (below2 HB6.out b67)
  have c0 := keep b67 hl6 f0; have c1 := keep b67 hl6 f1; have c2 := keep b67 hl6 f2; have c3 := keep b67 hl6 f3
  have hl7 : w.heap.size < W7.heap.size := Nat.lt_of_lt_of_le hl6 b67.size
  have HE7 := Lib.hid hE7
  obtain ⟨B, hBe⟩ : ∃ B, B = w6.heap.size := ⟨_, rfl⟩
  rw [← hBe] at HE7
  rw [← hBe]
  clear hW7 b67 hE7 b6 g0 g1 g2 g3 f0 f1 f2 f3 hBe HC
  go_upto_region 5 with (go_at_call 63; (with_reducible refine (HCm.out _ HB7.out).mono ?_); rintro e w8 ⟨r8, rfl, o8, b8⟩)
  obtain ⟨hmA, pA, cA, rfl, h3A⟩ := pes_open o8
  have HSv := Lib.hid (fun W (hW : Below w8.heap.size w8 W) => ref_saved_any _ A HFA.out q s hs W (ReadsL.below o8 hW) hnA)
  have HIf0 := Lib.hid (fun (i : Int) W (hW : Below w8.heap.size w8 W) => ref_inside_any _ A HFA.out i q s hs W (ReadsL.below o8 hW) hnA)
  have g0 := keep b8 hl7 c0; have g1 := keep b8 hl7 c1; have g2 := keep b8 hl7 c2; have g3 := keep b8 hl7 c3
  have hl8 : w.heap.size < w8.heap.size := Nat.lt_of_lt_of_le hl7 b8.size
  have HB8 := Lib.hid (below2 HB7.out b8)
  have HE8 := Lib.hid (HE7.out.below b8)
  clear b8 o8 c0 c1 c2 c3 HCm
  go_upto_region 6 with (go_at_call 52; (with_reducible refine (HSv.out _ (by (repeat (first | with_reducible assumption | with_reducible exact Below.refl _ _ | with_reducible refine Below.setCell ?_ (by first | omega | (simp; done) | (simp; omega)) _ | with_reducible refine Below.alloc ?_ (by first | omega | (simp; done) | (simp; omega)) _ | with_reducible refine Below.drew ?_ | (with_reducible refine Below.trans ?_ (Below.mono (by with_reducible assumption) (by first | omega | (simp; done) | (simp; omega)))) | (refine Below.trans ?_ (Below.mono (by assumption) (by first | omega | (simp; done) | (simp; omega)))))))).mono ?_); rintro e w9 ⟨r9, rfl, o9, b9⟩)
  generalize svO A q s 4 = O at *
  obtain ⟨_, hm9, a9, c9, rfl, k9⟩ := o9.open
  have e0 := keep b9 hl8 g0; have e1 := keep b9 hl8 g1; have e2 := keep b9 hl8 g2; have e3 := keep b9 hl8 g3
  have hl9 : w.heap.size < w9.heap.size := Nat.lt_of_lt_of_le hl8 b9.size
  have HB9 := Lib.hid (below2 HB8.out b9)
  have HE9 := Lib.hid (HE8.out.below b9)
  have HBA := Lib.hid b9
  clear o9 b9 g0 g1 g2 g3 HSv
  go_wp2_with fail
  go_loopw [11, 12, 13] (fun n' f' i' wr => ∃ k : Nat, k ≤ A.length ∧ i' = .int .i64 k ∧ n' = .int .i64 ((leftOf (List.range k) O).length : Nat) ∧ f' = .bool (ok && decide (j < k)) ∧ Hid (Below w9.heap.size w9 wr)) (fun _ _ i' _ => A.length - (intOf i').toNat)
  case atStart => exact ⟨0, by omega, rfl, rfl, by simp, Below.refl _ _⟩
  case round =>
    obtain ⟨k, hk, rfl, rfl, rfl, HB⟩ := hrel
    have hnk : (leftOf (List.range k) O).length ≤ k := Nat.le_trans (List.length_filter_le _ _) (by simp)
    by_cases hlt : k < A.length
    · obtain ⟨p, hp⟩ : ∃ p, A[k]? = some p := ⟨_, List.getElem?_eq_getElem hlt⟩
      obtain ⟨b, o, rfl, h4, h5, h6⟩ := h3A (by omega)
      obtain ⟨bx, ox, rfl, hcx, hbx, hxx⟩ := k9 (by omega)
      have hcell : wr.cell? ⟨bx, ox + k, none⟩ = some (.bool (decide (k ∈ O))) := keep HB.out hbx (hxx k _ (usedV_get hlt))
      have hgp := rkGet_at hp
      have q1 : (0 : Int) ≤ (k : Int) := by omega
      have q2 : (k : Int) < (A.length : Int) := by omega
      have K := ((h6 k p hp).below (below2 HBA.out HB.out) h5).ext (Nat.lt_of_lt_of_le h5 (below2 HBA.out HB.out).size)
      have x0 := fun y => (K y).1; have x1 := fun y => (K y).2.1; have x2 := fun y => (K y).2.2.1; have x3 := fun y => (K y).2.2.2.1
      have hE := HE9.out.below HB.out
      have y0 := fun y => (hE.below (ext_below wr y)).cell (i := 0) rfl; have y1 := fun y => (hE.below (ext_below wr y)).cell (i := 1) rfl; have y2 := fun y => (hE.below (ext_below wr y)).cell (i := 2) rfl; have y3 := fun y => (hE.below (ext_below wr y)).cell (i := 3) rfl
      have a0 := fun y => (ext_cell wr y (p := ⟨w.heap.size, 0, none⟩) (Nat.lt_of_lt_of_le hl9 HB.out.size)).trans (keep HB.out hl9 e0)
      have a1 := fun y => (ext_cell wr y (p := ⟨w.heap.size, 1, none⟩) (Nat.lt_of_lt_of_le hl9 HB.out.size)).trans (keep HB.out hl9 e1)
      have a2 := fun y => (ext_cell wr y (p := ⟨w.heap.size, 2, none⟩) (Nat.lt_of_lt_of_le hl9 HB.out.size)).trans (keep HB.out hl9 e2)
      have a3 := fun y => (ext_cell wr y (p := ⟨w.heap.size, 3, none⟩) (Nat.lt_of_lt_of_le hl9 HB.out.size)).trans (keep HB.out hl9 e3)
      have hq := fun W => eqlEn p.en en W
      have HD := Lib.hid (lfK_succ A.length O k)
      have hjk : ok = true → p.en = en → j = k := fun h1 h2 => by
        obtain ⟨u1, u2, u3⟩ := HJ.out h1
        exact HINJ.out j k u1 hlt (by rw [hgp, ← u3, h2])
      have hjn : ok = true → p.en ≠ en → j ≠ k := fun h1 h2 e => by
        obtain ⟨u1, u2, u3⟩ := HJ.out h1
        exact h2 (by rw [u3, e, hgp])
      have HFN : Hid ((ok = true → p.en ≠ en) → (ok && decide (j < k + 1)) = (ok && decide (j < k))) := fun hne => by
        cases ok with
        | false => rfl
        | true =>
          have := hjn rfl (hne rfl)
          show decide _ = decide _
          exact decide_eq_decide.2 (by omega)
      clear hp h6 hxx hgp K hE
      by_cases hin : k ∈ O
      · have HN2 : Hid (Value.int .i64 ((leftOf (List.range k) O).length : Nat) = .int .i64 ((leftOf (List.range (k + 1)) O).length : Nat)) := by show _ = _; rw [HD.out, if_pos hin, List.append_nil]
        have hne : ok = true → p.en ≠ en := fun h1 h2 => by
          obtain rfl := hjk h1 h2
          exact (HJ.out h1).2.1 hin
        have HF2 : Hid (Value.bool (ok && decide (j < k)) = .bool (ok && decide (j < k + 1))) := by show _ = _; rw [HFN.out hne]
        rw [decide_eq_true hin] at hcell
        cases ok with
        | false =>
          clear hjk hjn hin hne
          go_upto_region 12 with fail
          refine wp_region_ext (by kernel_rfl) (by kernel_rfl) ?_
          repeat (go_big_quiet_step (fail))
          refine wpQuiet_nil ?_
          first | (intro _ hw'; obtain ⟨gx, hw''⟩ := hw'; subst hw'') | intro gx
          clear x0 x1 x2 x3 y0 y1 y2 y3 hq
          go_wp2_with fail
          go_roundw
          case rel => exact ⟨k + 1, by omega, by go_num, HN2.out, HF2.out, below2 HB.out (ext_below wr gx)⟩
          case measure => simp [intOf]; omega
        | true =>
          rw [decide_eq_false (hne rfl)] at hq
          clear hjk hjn hin hne
          go_upto_region 12 with fail
          refine wp_region_ext (by kernel_rfl) (by kernel_rfl) ?_
          repeat (go_big_quiet_step (fail))
          refine wpQuiet_nil ?_
          first | (intro _ hw'; obtain ⟨gx, hw''⟩ := hw'; subst hw'') | intro gx
          clear x0 x1 x2 x3 y0 y1 y2 y3 hq
          go_wp2_with fail
          go_roundw
          case rel => exact ⟨k + 1, by omega, by go_num, HN2.out, HF2.out, below2 HB.out (ext_below wr gx)⟩
          case measure => simp [intOf]; omega
      · have HN2 : Hid (Value.int .i64 (((leftOf (List.range k) O).length : Int) + 1) = .int .i64 ((leftOf (List.range (k + 1)) O).length : Nat)) := by
          show _ = _; rw [HD.out, if_neg hin, List.length_append]; go_num
        rw [decide_eq_false hin] at hcell
        by_cases hmt : ok = true ∧ p.en = en
        · obtain ⟨rfl, hpe⟩ := hmt
          obtain rfl := hjk rfl hpe
          have HF2 : Hid (Value.bool true = .bool (true && decide (j < j + 1))) := by show _ = _; rw [decide_eq_true (Nat.lt_succ_self j)]; rfl
          have HIf : Hid (∀ W, Below w8.heap.size w8 W → Calls Try.prog 49 #[.slice (some ⟨b, o, none⟩) A.length cA, .int .i64 j, .agg #[.int .i64 q.group, .int .i64 q.ping, .int .i64 q.work, .int .i64 q.time], .int .u64 s] W fun e w' => e = .returned (.bool false) ∧ Below W.heap.size W w') := fun W hW => by
            have := HIf0.out j W hW
            rwa [HIS.out j hlt hin] at this
          rw [decide_eq_true hpe] at hq
          clear hjk hjn hpe hin
          go_upto_region 12 with fail
          refine wp_region_ext (by kernel_rfl) (by kernel_rfl) ?_
          repeat (go_big_quiet_step (fail))
          refine wpQuiet_nil ?_
          first | (intro _ hw'; obtain ⟨gx, hw''⟩ := hw'; subst hw'') | intro gx
          have hcell2 := (ext_cell wr gx (p := ⟨bx, ox + j, none⟩) (Nat.lt_of_lt_of_le hbx HB.out.size)).trans hcell
          have t0 := a0 gx; have t1 := a1 gx; have t2 := a2 gx; have t3 := a3 gx
          clear x0 x1 x2 x3 y0 y1 y2 y3 hq
          have HB8 := Lib.hid (below2 HB.out (ext_below wr gx))
          have HIN := Lib.hid (HIf.out (ext wr gx) (below2 HBA.out HB8.out))
          generalize ext wr gx = W8 at *
          go_wp2_with (go_at_call 49; (with_reducible refine (HIN.out).mono ?_); rintro e w7 ⟨rfl, b7⟩)
          go_roundw
          case rel => exact ⟨j + 1, by omega, by go_num, HN2.out, HF2.out, below2 HB8.out b7⟩
          case measure => simp [intOf]; omega
        · have hne : ok = true → p.en ≠ en := fun h1 h2 => hmt ⟨h1, h2⟩
          have HF2 : Hid (Value.bool (ok && decide (j < k)) = .bool (ok && decide (j < k + 1))) := by show _ = _; rw [HFN.out hne]
          cases ok with
          | false =>
            clear hjk hjn hin hne hmt
            go_upto_region 12 with fail
            refine wp_region_ext (by kernel_rfl) (by kernel_rfl) ?_
            repeat (go_big_quiet_step (fail))
            refine wpQuiet_nil ?_
            first | (intro _ hw'; obtain ⟨gx, hw''⟩ := hw'; subst hw'') | intro gx
            clear x0 x1 x2 x3 y0 y1 y2 y3 hq
            go_wp2_with fail
            go_roundw
            case rel => exact ⟨k + 1, by omega, by go_num, HN2.out, HF2.out, below2 HB.out (ext_below wr gx)⟩
            case measure => simp [intOf]; omega
          | true =>
            rw [decide_eq_false (hne rfl)] at hq
            clear hjk hjn hin hne hmt
            go_upto_region 12 with fail
            refine wp_region_ext (by kernel_rfl) (by kernel_rfl) ?_
            repeat (go_big_quiet_step (fail))
            refine wpQuiet_nil ?_
            first | (intro _ hw'; obtain ⟨gx, hw''⟩ := hw'; subst hw'') | intro gx
            clear x0 x1 x2 x3 y0 y1 y2 y3 hq
            go_wp2_with fail
            go_roundw
            case rel => exact ⟨k + 1, by omega, by go_num, HN2.out, HF2.out, below2 HB.out (ext_below wr gx)⟩
            case measure => simp [intOf]; omega
    · obtain rfl : k = A.length := by omega
      have hE := HE9.out.below HB.out
      cases ok with
      | true =>
        obtain ⟨u1, u2, u3⟩ := HJ.out rfl
        have hpos : 0 < (leftOf (List.range A.length) O).length := List.length_pos_of_mem (left_mem.2 ⟨List.mem_range.2 u1, u2⟩)
        have hd1 : decide (j < A.length) = true := decide_eq_true u1
        rw [hd1]
        generalize (leftOf (List.range A.length) O).length = n at *
        have hnz : (0 : Int) < (n : Int) := by omega
        clear u1 u2 u3 hd1
        go_wp2_with (go_at_call 56; (with_reducible refine (HA.out _).mono ?_); rintro e w11 ⟨rfl, b11⟩)
        go_ret
        exact ⟨rfl, below2 (below2 HB9.out HB.out) b11⟩
      | false =>
        obtain ⟨u1, u2⟩ := HZ.out rfl
        have hz : (leftOf (List.range A.length) O).length = 0 := by rw [← HLF.out, u1]; rfl
        subst u2
        rw [hz]
        have y0 := hE.cell (i := 0) rfl; have y1 := hE.cell (i := 1) rfl; have y2 := hE.cell (i := 2) rfl; have y3 := hE.cell (i := 3) rfl
        clear hz u1 hE hnk
        have hq := fun W => eqlEn zEn zEn W
        go_wp2_with (go_at_call 56; (with_reducible refine (HA.out _).mono ?_); rintro e w11 ⟨rfl, b11⟩)
        go_ret
        exact ⟨rfl, below2 (below2 HB9.out HB.out) b11⟩
end Go.Proofs.Ytdjmejdfcceknaa
/- The law of eviction: however they are turned. No condition. -/
namespace Go.Proofs.Ytdjmejdfcceknaa
open Go.RowKit
set_option linter.unusedSimpArgs false
set_option linter.unusedVariables false

set_option maxRecDepth 100000 in
set_option maxHeartbeats 16000000 in
theorem evictTurned_any (v : Value) (l : List Pe) (q : Qu) (ks : Int × Int) (w : World) (h : ReadsL peV 10 w v l) (hl : ∀ x ∈ l, x.fits) (hq : q.fits) (hk1 : -9223372036854775808 ≤ ks.1 ∧ ks.1 ≤ 9223372036854775807) (hk2 : -9223372036854775808 ≤ ks.2 ∧ ks.2 ≤ 9223372036854775807) :
    Calls Try.prog 14 #[v, .agg #[.int .i64 q.group, .int .i64 q.ping, .int .i64 q.work, .int .i64 q.time], .agg #[.int .i64 ks.1, .int .i64 ks.2]] w fun e w' => e = .returned (.bool true) ∧ Below w.heap.size w w' := by
  have h0 := Lib.hid h
  obtain ⟨hm, p, c, rfl, h3⟩ := pes_open h
  clear h
  have HA := Lib.hid (fun w => awake21_any w)
  rcases Int.lt_or_le 30 (l.length : Int) with hlen | hlen
  · go_enter Try.func14, Try.ntmps14
    go_wp2_with (go_at_call 56; (with_reducible refine (HA.out _).mono ?_); rintro e w2 ⟨rfl, b2⟩; obtain ⟨c2, f2⟩ := bcell b2; have z2 := b2.size; (try simp at z2); clear c2 f2)
    go_ret
    refine ⟨rfl, ?_⟩
    (repeat (first | with_reducible assumption | with_reducible exact Below.refl _ _ | with_reducible refine Below.setCell ?_ (by first | omega | (simp; done) | (simp; omega)) _ | with_reducible refine Below.alloc ?_ (by first | omega | (simp; done) | (simp; omega)) _ | with_reducible refine Below.drew ?_ | (with_reducible refine Below.trans ?_ (Below.mono (by with_reducible assumption) (by first | omega | (simp; done) | (simp; omega)))) | (refine Below.trans ?_ (Below.mono (by assumption) (by first | omega | (simp; done) | (simp; omega))))))
  have hn : l.length ≤ 1000000 := by omega
  rcases Nat.eq_zero_or_pos l.length with hz | hz
  · have hzz : (l.length : Int) = 0 := by omega
    rw [hz]
    go_enter Try.func14, Try.ntmps14
    go_wp2_with (go_at_call 56; (with_reducible refine (HA.out _).mono ?_); rintro e w2 ⟨rfl, b2⟩; obtain ⟨c2, f2⟩ := bcell b2; have z2 := b2.size; (try simp at z2); clear c2 f2)
    go_ret
    refine ⟨rfl, ?_⟩
    (repeat (first | with_reducible assumption | with_reducible exact Below.refl _ _ | with_reducible refine Below.setCell ?_ (by first | omega | (simp; done) | (simp; omega)) _ | with_reducible refine Below.alloc ?_ (by first | omega | (simp; done) | (simp; omega)) _ | with_reducible refine Below.drew ?_ | (with_reducible refine Below.trans ?_ (Below.mono (by with_reducible assumption) (by first | omega | (simp; done) | (simp; omega)))) | (refine Below.trans ?_ (Below.mono (by assumption) (by first | omega | (simp; done) | (simp; omega))))))
  have hzz : ¬ ((l.length : Int) = 0) := by omega
  have hzb : ((l.length : Int) == 0) = false := beq_eq_false_iff_ne.2 hzz
  by_cases hUn : UnlikeC l
  rotate_left
  · have HU : Hid (∀ W, Below w.heap.size w W → Calls Try.prog 62 #[.slice p l.length c] W fun e w' => e = .returned (.bool false) ∧ Below W.heap.size W w') := fun W hW => (unlike_any _ l W (ReadsL.below h0.out hW) hn).mono fun e w' ⟨bb, he, hb, hB⟩ => by
      cases bb with
      | true => exact absurd (hb.1 rfl) hUn
      | false => exact ⟨he, hB⟩
    go_enter Try.func14, Try.ntmps14
    go_wp2_with (first | (go_at_call 62; (with_reducible refine (HU.out _ (by (repeat (first | with_reducible assumption | with_reducible exact Below.refl _ _ | with_reducible refine Below.setCell ?_ (by first | omega | (simp; done) | (simp; omega)) _ | with_reducible refine Below.alloc ?_ (by first | omega | (simp; done) | (simp; omega)) _ | with_reducible refine Below.drew ?_ | (with_reducible refine Below.trans ?_ (Below.mono (by with_reducible assumption) (by first | omega | (simp; done) | (simp; omega)))) | (refine Below.trans ?_ (Below.mono (by assumption) (by first | omega | (simp; done) | (simp; omega)))))))).mono ?_); rintro e w1 ⟨rfl, b1⟩; have z1 := b1.size; (try simp at z1)) | (go_at_call 56; (with_reducible refine (HA.out _).mono ?_); rintro e w2 ⟨rfl, b2⟩))
    go_ret
    refine ⟨rfl, ?_⟩
    (repeat (first | with_reducible assumption | with_reducible exact Below.refl _ _ | with_reducible refine Below.setCell ?_ (by first | omega | (simp; done) | (simp; omega)) _ | with_reducible refine Below.alloc ?_ (by first | omega | (simp; done) | (simp; omega)) _ | with_reducible refine Below.drew ?_ | (with_reducible refine Below.trans ?_ (Below.mono (by with_reducible assumption) (by first | omega | (simp; done) | (simp; omega)))) | (refine Below.trans ?_ (Below.mono (by assumption) (by first | omega | (simp; done) | (simp; omega))))))
  have HUN := Lib.hid hUn
  have HU : Hid (∀ W, Below w.heap.size w W → Calls Try.prog 62 #[.slice p l.length c] W fun e w' => e = .returned (.bool true) ∧ Below W.heap.size W w') := fun W hW => (unlike_any _ l W (ReadsL.below h0.out hW) hn).mono fun e w' ⟨bb, he, hb, hB⟩ => by
    rw [hb.2 hUn] at he; exact ⟨he, hB⟩
  clear hUn
  obtain ⟨b, o, rfl, h4, h5, h6⟩ := h3 hz
  clear h3 h6
  obtain ⟨k, hk, hB⟩ := below_any ks.1 l.length hk1 hz (by omega)
  have HBL := Lib.hid hB
  go_enter Try.func14, Try.ntmps14
  go_upto_region 1 with fail
  go_name_world W0 hW0
  have d0 : W0.cell? ⟨w.heap.size, 0, none⟩ = some (.int .i64 q.group) := by subst hW0; (first | (simp [go_sem, *]; done) | (simp (disch := first | omega | (simp; omega) | (simp [go_sem, *]; done)) [go_sem, World.cell?_setCell_far, World.cell?_alloc_past, World.frozen?_alloc_past, *]; done))
  have d1 : W0.cell? ⟨w.heap.size, 1, none⟩ = some (.int .i64 q.ping) := by subst hW0; (first | (simp [go_sem, *]; done) | (simp (disch := first | omega | (simp; omega) | (simp [go_sem, *]; done)) [go_sem, World.cell?_setCell_far, World.cell?_alloc_past, World.frozen?_alloc_past, *]; done))
  have d2 : W0.cell? ⟨w.heap.size, 2, none⟩ = some (.int .i64 q.work) := by subst hW0; (first | (simp [go_sem, *]; done) | (simp (disch := first | omega | (simp; omega) | (simp [go_sem, *]; done)) [go_sem, World.cell?_setCell_far, World.cell?_alloc_past, World.frozen?_alloc_past, *]; done))
  have d3 : W0.cell? ⟨w.heap.size, 3, none⟩ = some (.int .i64 q.time) := by subst hW0; (first | (simp [go_sem, *]; done) | (simp (disch := first | omega | (simp; omega) | (simp [go_sem, *]; done)) [go_sem, World.cell?_setCell_far, World.cell?_alloc_past, World.frozen?_alloc_past, *]; done))
  have d4 : W0.cell? ⟨w.heap.size + 1, 0, none⟩ = some (.int .i64 ks.1) := by subst hW0; (first | (simp [go_sem, *]; done) | (simp (disch := first | omega | (simp; omega) | (simp [go_sem, *]; done)) [go_sem, World.cell?_setCell_far, World.cell?_alloc_past, World.frozen?_alloc_past, *]; done))
  have d5 : W0.cell? ⟨w.heap.size + 1, 1, none⟩ = some (.int .i64 ks.2) := by subst hW0; (first | (simp [go_sem, *]; done) | (simp (disch := first | omega | (simp; omega) | (simp [go_sem, *]; done)) [go_sem, World.cell?_setCell_far, World.cell?_alloc_past, World.frozen?_alloc_past, *]; done))
  have b0 : Below w.heap.size w W0 := by subst hW0; (repeat (first | with_reducible assumption | with_reducible exact Below.refl _ _ | with_reducible refine Below.setCell ?_ (by first | omega | (simp; done) | (simp; omega)) _ | with_reducible refine Below.alloc ?_ (by first | omega | (simp; done) | (simp; omega)) _ | with_reducible refine Below.drew ?_ | (with_reducible refine Below.trans ?_ (Below.mono (by with_reducible assumption) (by first | omega | (simp; done) | (simp; omega)))) | (refine Below.trans ?_ (Below.mono (by assumption) (by first | omega | (simp; done) | (simp; omega))))))
  have z0 : w.heap.size + 2 ≤ W0.heap.size := by subst hW0; simp
  have HB0 := Lib.hid b0
  clear hW0 b0
  go_upto_region 3 with (go_at_call 62; (with_reducible refine (HU.out _ HB0.out).mono ?_); rintro e wo ⟨rfl, b1⟩)
  have e0 := keep b1 (show w.heap.size < W0.heap.size by omega) d0; have e1 := keep b1 (show w.heap.size < W0.heap.size by omega) d1; have e2 := keep b1 (show w.heap.size < W0.heap.size by omega) d2; have e3 := keep b1 (show w.heap.size < W0.heap.size by omega) d3
  have e4 := keep b1 (show w.heap.size + 1 < W0.heap.size by omega) d4; have e5 := keep b1 (show w.heap.size + 1 < W0.heap.size by omega) d5
  have hlo : w.heap.size + 2 ≤ wo.heap.size := Nat.le_trans z0 b1.size
  have hbw : Below w.heap.size w wo := below2 HB0.out b1
  clear b1 d0 d1 d2 d3 d4 d5 z0 HU
  have hRr : ReadsL peV 10 wo (.slice (some ⟨b, o, none⟩) l.length c) l := Reads.below h0.out hbw
  have hd1 : (l.drop k).length = l.length - k := List.length_drop
  have hd2 : (l.take k).length = k := by rw [List.length_take]; omega
  have r1 := reads_dropP hRr (Nat.le_of_lt hk)
  have r2 := reads_takeP hRr (Nat.le_of_lt hk)
  unfold ReadsL at r1 r2
  rw [hd1] at r1
  rw [hd2] at r2
  have R1 := Lib.hid r1; have R2 := Lib.hid r2
  have hk1 := Lib.hid hd1; have hk2 := Lib.hid hd2
  clear r1 r2 hd1 hd2
  have q1 : (0 : Int) ≤ (k : Int) := by omega
  have q2 : (k : Int) ≤ (l.length : Int) := by omega
  have q3 : (k : Int) ≤ (c : Int) := by omega
  have hck : ¬ c = k := by omega
  have hckz : ¬ (c : Int) = (k : Int) := by omega
  have zt1 : ((l.length : Int) - (k : Int)).toNat = l.length - k := by omega
  have zt2 : ((c : Int) - (k : Int)).toNat = c - k := by omega
  clear hB hRr
  go_upto_region 4 with (go_at_call 23; (with_reducible refine (HBL.out _).mono ?_); rintro e w' ⟨rfl, rfl⟩)
  go_region_held3 (fun _ => True) (first | trivial) (first | (refine step_app_reads peRow (by rfl) (.tmp 34) (.tmp 37) (by rfl) wo.heap.size _ 0 [] (by rfl) (World.ownsRow_made _ #[] 0 (Nat.le_refl _) (Nat.zero_le _) rfl) _ (l.length - k) ((l.drop k).flatMap peV) (by rfl) (Reads.below R1.out (by (repeat (first | with_reducible assumption | with_reducible exact Below.refl _ _ | with_reducible refine Below.setCell ?_ (by first | omega | (simp; done) | (simp; omega)) _ | with_reducible refine Below.alloc ?_ (by first | omega | (simp; done) | (simp; omega)) _ | with_reducible refine Below.drew ?_ | (with_reducible refine Below.trans ?_ (Below.mono (by with_reducible assumption) (by first | omega | (simp; done) | (simp; omega)))) | (refine Below.trans ?_ (Below.mono (by assumption) (by first | omega | (simp; done) | (simp; omega)))))))) (peV_ones _) (by omega) (by omega) (by simp) wo.heap.size wo (by (repeat (first | with_reducible assumption | with_reducible exact Below.refl _ _ | with_reducible refine Below.setCell ?_ (by first | omega | (simp; done) | (simp; omega)) _ | with_reducible refine Below.alloc ?_ (by first | omega | (simp; done) | (simp; omega)) _ | with_reducible refine Below.drew ?_ | (with_reducible refine Below.trans ?_ (Below.mono (by with_reducible assumption) (by first | omega | (simp; done) | (simp; omega)))) | (refine Below.trans ?_ (Below.mono (by assumption) (by first | omega | (simp; done) | (simp; omega))))))) (Nat.le_refl _) ?_; intro v1 w1 o1 b1; simp only [Nat.zero_add, List.nil_append] at o1) | (refine step_app_reads peRow (by rfl) (.tmp 38) (.tmp 41) (by rfl) wo.heap.size v1 (l.length - k) ((l.drop k).flatMap peV) (by rfl) o1 _ k ((l.take k).flatMap peV) (by rfl) (Reads.below R2.out b1) (peV_ones _) (by omega) (by omega) (b1.size) wo.heap.size wo b1 (Nat.le_refl _) ?_; intro v2 w2 o2 b2))
  have HBW := Lib.hid hbw
  obtain ⟨tl, htl⟩ : ∃ t, t = l.drop k ++ l.take k := ⟨_, rfl⟩
  have htlen : tl.length = l.length - k + k := by rw [htl, List.length_append, hk1.out, hk2.out]
  have hO2 : w2.ownsRow wo.heap.size 34 10 v2 tl.length (tl.flatMap peV) := by
    rw [htlen, htl, List.flatMap_append]; exact o2
  have hpm : l.Perm tl := by
    rw [htl]
    conv => lhs; rw [← List.take_append_drop k l]
    exact List.perm_append_comm
  obtain ⟨g, cap, rfl, hgo⟩ : ∃ g cap, v2 = .slice (some ⟨g, 0, none⟩) tl.length cap ∧ wo.heap.size ≤ g := by
    rcases hO2.2 with ⟨_, h0'⟩ | ⟨g, cap, cur, e, h1, _⟩
    · omega
    · exact ⟨g, cap, e, h1⟩
  have hnT : tl.length ≤ 1000000 := by omega
  have HO2 := Lib.hid hO2; have HPM := Lib.hid hpm; have HB2 := Lib.hid b2
  obtain ⟨n, hnn⟩ : ∃ n, n = tl.length := ⟨_, rfl⟩
  rw [← hnn] at HO2 hnT
  rw [← hnn]
  have HNN := Lib.hid hnn
  clear o1 o2 b1 b2 htl htlen hO2 hpm hnn zt1 zt2 hckz hck hbw R1 R2 hk1 hk2 q1 q2 q3
  go_wp2_with fail
  go_loopw [9] (fun i' wr => ∃ (i : Nat) (m : List Pe), i ≤ n + 1 ∧ i' = .int .i64 i ∧ Hid (l.Perm m) ∧ Hid (m.length = n) ∧ Hid (wr.ownsRow wo.heap.size 34 10 (.slice (some ⟨g, 0, none⟩) n cap) n (m.flatMap peV)) ∧ Hid (Below wo.heap.size wo wr)) (fun i' _ => n + 1 - (intOf i').toNat)
  case atStart => exact ⟨0, tl, by omega, rfl, HPM.out, HNN.out.symm, HO2.out, HB2.out⟩
  case round =>
    obtain ⟨i, m, hi, rfl, HP, HM, HO, HB⟩ := hrel
    by_cases hlt : i + 1 < n
    · obtain ⟨i2, hi2⟩ : ∃ i2, i2 = i + 1 := ⟨_, rfl⟩
      have hml : m.length = n := HM.out
      obtain ⟨p, hp⟩ : ∃ p, m[i]? = some p := ⟨_, List.getElem?_eq_getElem (show i < m.length by omega)⟩
      obtain ⟨r, hr⟩ : ∃ r, m[i2]? = some r := ⟨_, List.getElem?_eq_getElem (show i2 < m.length by omega)⟩
      have hgl := (HO.out.lt g rfl).2
      have K := own_pe HO.out hp
      obtain ⟨k0, k1, k2, k3, k4, k5, k6, k7, k8, k9⟩ := K
      have q0 : (i : Int) + 1 = (i2 : Int) := by omega
      have q1 : (0 : Int) ≤ (i : Int) := by omega
      have q2 : (i : Int) < (n : Int) := by omega
      have q3 : (0 : Int) ≤ (i2 : Int) := by omega
      have q4 : (i2 : Int) < (n : Int) := by omega
      have q5 : IntKind.i64.wrap ((i : Int) + 1) = (i2 : Int) := by rw [q0]; exact IntWalk.i64_in _ (by omega)
      have q7 : ∀ z : Int, z = (i2 : Int) → wrap64 z = (i2 : Int) := fun z hz => by rw [hz]; exact IntWalk.wrap64_in _ ⟨by omega, by omega⟩
      have hmn : n ≤ 9223372036854775807 := by omega
      have HPi := Lib.hid hp; have HRi := Lib.hid hr; have HI2 := Lib.hid hi2; have HML := Lib.hid hml
      clear hp hr hi2 hml
      go_upto_region 9 with (refine list_store_blk rfl 34 _ _ rfl (wr.heap.size) _ _ 34 (BlockIs.newAt' _ _ _ (by simp)) rfl rfl (by kernel_rfl) rfl (by simp [Value.oneCell']) wr.heap.size wr (by (repeat (first | with_reducible assumption | with_reducible exact Below.refl _ _ | with_reducible refine Below.setCell ?_ (by first | omega | (simp; done) | (simp; omega)) _ | with_reducible refine Below.alloc ?_ (by first | omega | (simp; done) | (simp; omega)) _ | with_reducible refine Below.drew ?_ | (with_reducible refine Below.trans ?_ (Below.mono (by with_reducible assumption) (by first | omega | (simp; done) | (simp; omega)))) | (refine Below.trans ?_ (Below.mono (by assumption) (by first | omega | (simp; done) | (simp; omega))))))) (Nat.le_refl _) ?_; intro W5 hPb hoth hsz b5; clear hoth hsz)
      clear k0 k1 k2 k3 k4 k5 k6 k7 k8 k9
      have HO5 := Lib.hid (owns_below HO.out b5)
      have HB5 := Lib.hid (below2 HB.out b5)
      have hg5 := (HO5.out.lt g rfl).2
      obtain ⟨B, hBe⟩ : ∃ B, B = wr.heap.size := ⟨_, rfl⟩
      rw [← hBe] at hPb
      rw [← hBe]
      have hBg : B ≠ g := by omega
      have HPb := Lib.hid hPb; have HBg := Lib.hid hBg
      obtain ⟨arr, hA⟩ := own_blk HO5.out
      have hfz := hA.frozen
      have X := own_pe HO5.out HRi.out
      have Y := own_pe HO5.out HPi.out
      obtain ⟨x0, x1, x2, x3, x4, x5, x6, x7, x8, x9⟩ := X
      obtain ⟨y0, y1, y2, y3, y4, y5, y6, y7, y8, y9⟩ := Y
      clear b5 hPb hA hBe hBg
      go_upto_region 10 with fail
      go_name_world W6 hW6
      obtain ⟨hO6, hG6⟩ := own_setP HO5.out i r (by have := HML.out; omega)
      rw [hW6] at hO6 hG6
      have HO6 := Lib.hid hO6; have HG6 := Lib.hid hG6
      have hP6 := blk_far HPb.out hG6 HBg.out
      have HB6 := Lib.hid (below_far HB5.out hG6 hgo hg5)
      clear hW6 hO6 hG6 x0 x1 x2 x3 x4 x5 x6 x7 x8 x9 y0 y1 y2 y3 y4 y5 y6 y7 y8 y9 hfz
      have hg6 := (HO6.out.lt g rfl).2
      obtain ⟨arr2, hA2⟩ := own_blk HO6.out
      have hfz := hA2.frozen
      have HR6 : Hid ((m.set i r)[i2]? = some r) := by
        show _ = _; rw [List.getElem?_set_ne (by have := HI2.out; omega)]; exact HRi.out
      have X := own_pe HO6.out HR6.out
      obtain ⟨x0, x1, x2, x3, x4, x5, x6, x7, x8, x9⟩ := X
      have y0 := hP6.cell (i := 0) rfl
      have y1 := hP6.cell (i := 1) rfl
      have y2 := hP6.cell (i := 2) rfl
      have y3 := hP6.cell (i := 3) rfl
      have y4 := hP6.cell (i := 4) rfl
      have y5 := hP6.cell (i := 5) rfl
      have y6 := hP6.cell (i := 6) rfl
      have y7 := hP6.cell (i := 7) rfl
      have y8 := hP6.cell (i := 8) rfl
      have y9 := hP6.cell (i := 9) rfl
      have yf := hP6.frozen
      have yl := hP6.lt
      clear hA2
      go_upto_region 7 with fail
      go_name_world W7 hW7
      obtain ⟨hO7, hG7⟩ := own_setP HO6.out i2 p (by have := HML.out; have := HI2.out; simp; omega)
      rw [hW7] at hO7 hG7
      have HO7 := Lib.hid hO7
      have HB7 := Lib.hid (below_far HB6.out hG7 hgo hg6)
      have HP7 : Hid (l.Perm ((m.set i r).set i2 p)) := HP.out.trans (by
        have e := HI2.out; subst e
        exact (perm_swap HPi.out HRi.out).symm)
      clear hW7 hO7 hG7 x0 x1 x2 x3 x4 x5 x6 x7 x8 x9 hfz
      go_wp2_with fail
      go_roundw
      case rel => exact ⟨i + 2, (m.set i r).set i2 p, by omega, by go_num, HP7.out, by show _ = _; simp [HML.out], HO7.out, HB7.out⟩
      case measure => simp [intOf]; omega
    · have hne : ¬ ((i : Int) + 1 < (n : Int)) := by omega
      have e0 := keep HB.out (show w.heap.size < wo.heap.size by omega) e0; have e1 := keep HB.out (show w.heap.size < wo.heap.size by omega) e1; have e2 := keep HB.out (show w.heap.size < wo.heap.size by omega) e2; have e3 := keep HB.out (show w.heap.size < wo.heap.size by omega) e3; have e5 := keep HB.out (show w.heap.size + 1 < wo.heap.size by omega) e5
      have hfm : ∀ x ∈ m, x.fits := fun x hx => hl x (HP.out.mem_iff.2 hx)
      have hRm : ReadsL peV 10 wr (.slice (some ⟨g, 0, none⟩) n cap) m := by
        unfold ReadsL; rw [HM.out]; exact owns_reads HO.out
      have HBr := Lib.hid (below2 HBW.out HB.out)
      obtain ⟨s, hs, hs2⟩ : ∃ s : Nat, IntKind.u64.wrap ks.snd = (s : Int) ∧ s < 18446744073709551616 := by
        have h1 : 0 ≤ IntKind.u64.wrap ks.snd ∧ IntKind.u64.wrap ks.snd < 18446744073709551616 := by rw [IntKind.wrap_u64]; omega
        exact ⟨(IntKind.u64.wrap ks.snd).toNat, by omega, by omega⟩
      obtain ⟨hE1, hE2⟩ := ch_turned HUN.out HP.out q s
      have hC := fun W (hW : Below w.heap.size w W) => choose_any _ l hl q hq s hs2 W (ReadsL.below h0.out hW) hn
      have hC2 := fun W (hW : Below wr.heap.size wr W) => choose_any _ m hfm q hq s hs2 W (ReadsL.below hRm hW) (by rw [HM.out]; exact hnT)
      rw [hE1, hE2] at hC2
      generalize chE l q s = en at hC hC2
      generalize chB l q s = ok at hC hC2
      rw [← hs] at hC hC2
      have HC := Lib.hid hC; have HC2 := Lib.hid hC2
      have hok : (ok == ok) = true := by simp
      have hEq := fun W => eqlEn en en W
      rw [decide_eq_true rfl] at hEq
      have hlr : w.heap.size + 2 ≤ wr.heap.size := Nat.le_trans hlo HB.out.size
      clear hC hC2 hE1 hE2 hs hs2 hfm hRm hl hlo
      go_upto_region 12 with (go_at_call 57; (with_reducible refine (HC.out _ HBr.out).mono ?_); rintro e w6 ⟨rfl, b6⟩)
      have g0 := keep b6 (show w.heap.size < wr.heap.size by omega) e0; have g1 := keep b6 (show w.heap.size < wr.heap.size by omega) e1; have g2 := keep b6 (show w.heap.size < wr.heap.size by omega) e2; have g3 := keep b6 (show w.heap.size < wr.heap.size by omega) e3; have g5 := keep b6 (show w.heap.size + 1 < wr.heap.size by omega) e5
      have hl6 := b6.size
      go_name_world W7 hW7
      have b67 : Below w6.heap.size w6 W7 := by subst hW7; (repeat (first | with_reducible assumption | with_reducible exact Below.refl _ _ | with_reducible refine Below.setCell ?_ (by first | omega | (simp; done) | (simp; omega)) _ | with_reducible refine Below.alloc ?_ (by first | omega | (simp; done) | (simp; omega)) _ | with_reducible refine Below.drew ?_ | (with_reducible refine Below.trans ?_ (Below.mono (by with_reducible assumption) (by first | omega | (simp; done) | (simp; omega)))) | (refine Below.trans ?_ (Below.mono (by assumption) (by first | omega | (simp; done) | (simp; omega))))))
      have hE7 : BlockIs W7 w6.heap.size [.bool en.ad.v6, .int .u64 en.ad.hi, .int .u64 en.ad.lo, .int .i64 en.port] 30 := by subst hW7; with_reducible exact BlockIs.newAt' w6 _ _ (by first | rfl | simp)
      have c0 := keep b67 (show w.heap.size < w6.heap.size by omega) g0; have c1 := keep b67 (show w.heap.size < w6.heap.size by omega) g1; have c2 := keep b67 (show w.heap.size < w6.heap.size by omega) g2; have c3 := keep b67 (show w.heap.size < w6.heap.size by omega) g3; have c5 := keep b67 (show w.heap.size + 1 < w6.heap.size by omega) g5
      have b17 := below2 b6 b67
      have HB7 := Lib.hid b17; have HE7 := Lib.hid hE7
      clear hW7 b67 b6 hE7 e0 e1 e2 e3 e5 g0 g1 g2 g3 g5 b17
      go_upto_region 13 with (go_at_call 57; (with_reducible refine (HC2.out _ HB7.out).mono ?_); rintro e w8 ⟨rfl, b8⟩)
      go_name_world W9 hW9
      have b89 : Below w8.heap.size w8 W9 := by subst hW9; (repeat (first | with_reducible assumption | with_reducible exact Below.refl _ _ | with_reducible refine Below.setCell ?_ (by first | omega | (simp; done) | (simp; omega)) _ | with_reducible refine Below.alloc ?_ (by first | omega | (simp; done) | (simp; omega)) _ | with_reducible refine Below.drew ?_ | (with_reducible refine Below.trans ?_ (Below.mono (by with_reducible assumption) (by first | omega | (simp; done) | (simp; omega)))) | (refine Below.trans ?_ (Below.mono (by assumption) (by first | omega | (simp; done) | (simp; omega))))))
      have hE9 : BlockIs W9 w8.heap.size [.bool en.ad.v6, .int .u64 en.ad.hi, .int .u64 en.ad.lo, .int .i64 en.port] 30 := by subst hW9; with_reducible exact BlockIs.newAt' w8 _ _ (by first | rfl | simp)
      have hE7' := HE7.out.below (below2 b8 b89)
      have HB9 := Lib.hid (below2 HBr.out (below2 HB7.out (below2 b8 b89)))
      have x0 := hE9.cell (i := 0) rfl; have x1 := hE9.cell (i := 1) rfl; have x2 := hE9.cell (i := 2) rfl; have x3 := hE9.cell (i := 3) rfl
      have y0 := hE7'.cell (i := 0) rfl; have y1 := hE7'.cell (i := 1) rfl; have y2 := hE7'.cell (i := 2) rfl; have y3 := hE7'.cell (i := 3) rfl
      clear hW9 b89 b8 hE9 hE7' c0 c1 c2 c3 c5
      go_wp2_with (go_at_call 56; (with_reducible refine (HA.out _).mono ?_); rintro e w11 ⟨rfl, b11⟩)
      go_ret
      exact ⟨rfl, below2 HB9.out b11⟩
end Go.Proofs.Ytdjmejdfcceknaa
