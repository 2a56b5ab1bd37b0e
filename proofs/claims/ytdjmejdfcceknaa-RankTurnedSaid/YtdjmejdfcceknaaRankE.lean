/- The contract of rank.First: the places of those that count, as they stand, cut. Conditions: numbers are 64 bits. -/
import Derived.Test.YtdjmejdfcceknaaRankD
namespace Go.Proofs.Ytdjmejdfcceknaa
open Go.Shelf Go.RowKit Go.Lib Go.Sort

/-- what the sort's order wants: in every world of the sort the closure answers -/
theorem rk_cmpB (l : List Pe) (hl : ∀ x ∈ l, x.fits) (hn : 0 < l.length) (q : Int) (s : Nat) (hs : s < 18446744073709551616) (v : Value) (B1 B2 B3 g : Nat) (n : Nat) (w : World) (h : ReadsL peV 10 w v l)
    (c1 : w.cell? ⟨B1, 0, none⟩ = some v) (c2 : w.cell? ⟨B2, 0, none⟩ = some (.int .i64 q)) (c3 : w.cell? ⟨B3, 0, none⟩ = some (.int .u64 s)) (l1 : B1 < w.heap.size) (l2 : B2 < w.heap.size) (l3 : B3 < w.heap.size) (n1 : B1 ≠ g) (n2 : B2 ≠ g) (n3 : B3 ≠ g)
    (hb : ∀ b o c, v = .slice (some ⟨b, o, none⟩) l.length c → b ≠ g) (inst : Inhabited (Ix l)) :
    CmpB Try.prog 91 #[.pointer (some ⟨B1, 0, none⟩), .pointer (some ⟨B2, 0, none⟩), .pointer (some ⟨B3, 0, none⟩)] (ixV l) (fun x y => rkFull (rkGet l x.1) (rkGet l y.1) q s) g 0 n w := by
  intro W dk hsz hS x y
  have hx : l[x.1]? = some (rkGet l x.1) := by unfold rkGet; rw [List.getElem?_eq_getElem x.2]; rfl
  have hy : l[y.1]? = some (rkGet l y.1) := by unfold rkGet; rw [List.getElem?_eq_getElem y.2]; rfl
  have hz := hS.size
  have hR : ReadsL peV 10 W v l := by
    obtain ⟨h1, h2, h3⟩ := h
    refine ⟨h1, h2, ?_⟩
    rcases h3 with ⟨h0, _⟩ | ⟨hp, b, o, c, hv, hc, hlt, hxs⟩
    · omega
    · refine Or.inr ⟨hp, b, o, c, hv, hc, by omega, fun j x hj => ?_⟩
      rw [hS.other (p := ⟨b, o + j, none⟩) (hb b o c hv) hlt]; exact hxs j x hj
  exact rk_closure v l hl q s hs B1 B2 B3 x.1 y.1 _ _ hx hy W hR ((hS.other (p := ⟨B1, 0, none⟩) n1 l1).trans c1) ((hS.other (p := ⟨B2, 0, none⟩) n2 l2).trans c2) ((hS.other (p := ⟨B3, 0, none⟩) n3 l3).trans c3) (by omega) (by omega) (by omega)
theorem ixV_one (l : List Pe) : OneCell (ixV l) := fun _ => rfl
theorem reads_take {w : World} {v : Value} {n : Nat} {xs : List Value} {b : Nat} {c k : Nat} (h : Reads w v n 1 xs) (hv : v = .slice (some ⟨b, 0, none⟩) n c) (hk : k ≤ n) : Reads w (.slice (some ⟨b, 0, none⟩) k c) k 1 (xs.take k) := by
  subst hv
  obtain ⟨h1, h2, h3⟩ := h
  refine ⟨by rw [List.length_take]; omega, by omega, ?_⟩
  rcases h3 with ⟨h0, a', c', hv⟩ | ⟨hp, b', o, c', hv, hc, hlt, hx⟩
  · exact Or.inl ⟨by omega, _, _, by rw [show k = 0 by omega]⟩
  · injection hv with e1 e2 e3
    injection e1 with e1
    injection e1 with e4 e5
    subst e4 e5 e3
    by_cases hk0 : k = 0
    · exact Or.inl ⟨hk0, _, _, by rw [hk0]⟩
    · exact Or.inr ⟨by omega, b, 0, c, rfl, by omega, hlt, fun j x hj => by
        rw [List.getElem?_take] at hj
        split at hj
        · exact hx j x hj
        · cases hj⟩
theorem first_end (l : List Pe) (q n : Int) (s : Nat) (xs : List (Ix l)) (g cap nn kk : Nat) (wr w6 : World) [inst : Inhabited (Ix l)] (R : Go.Proofs.Row1 (ixV l) wr g 0 xs.toArray)
    (W : WO fun x y : Ix l => decide (rkFull (rkGet l x.1) (rkGet l y.1) q s < 0)) (HL : (ssort (fun x y : Ix l => decide (rkFull (rkGet l x.1) (rkGet l y.1) q s < 0)) xs).map Subtype.val = ssort (rkLt l q s) (rkIdx l q l.length))
    (S : SB (ixV l) wr g 0 (stableA (ltOf fun x y : Ix l => rkFull (rkGet l x.1) (rkGet l y.1) q s) xs.toArray) w6) (hc : xs.length ≤ cap) (hn : nn = n.toNat) (hk : kk = min nn xs.length) (hx : xs.length ≤ 9223372036854775807) :
    Reads w6 (.slice (some ⟨g, 0, none⟩) kk cap) (rkFirst l q n s).length 1 ((rkFirst l q n s).map natV) := by
  have hD : (stableA (ltOf fun x y : Ix l => rkFull (rkGet l x.1) (rkGet l y.1) q s) xs.toArray).toList = ssort (fun x y : Ix l => decide (rkFull (rkGet l x.1) (rkGet l y.1) q s < 0)) xs := by
    have := stableA_is (lt := ltOf fun x y : Ix l => rkFull (rkGet l x.1) (rkGet l y.1) q s) W xs.toArray
    rw [this]; rfl
  generalize stableA (ltOf fun x y : Ix l => rkFull (rkGet l x.1) (rkGet l y.1) q s) xs.toArray = D at *
  have hs : D.size = xs.length := by
    rw [← Array.length_toList, hD, ssort_len]
  have hm : D.toList.map (ixV l) = (ssort (rkLt l q s) (rkIdx l q l.length)).map natV := by
    rw [hD, ← HL, List.map_map]; rfl
  have hlen : (ssort (rkLt l q s) (rkIdx l q l.length)).length = xs.length := by rw [← HL, List.length_map, ssort_len]
  have hr : Reads w6 (.slice (some ⟨g, 0, none⟩) xs.length cap) xs.length 1 ((ssort (rkLt l q s) (rkIdx l q l.length)).map natV) := by
    refine ⟨by rw [List.length_map, hlen]; omega, hx, ?_⟩
    rcases Nat.eq_zero_or_pos xs.length with h0 | h0
    · exact Or.inl ⟨h0, _, _, by rw [h0]⟩
    · refine Or.inr ⟨h0, g, 0, cap, rfl, hc, Nat.lt_of_lt_of_le R.hblk S.size, fun j x hj => ?_⟩
      rw [← hm] at hj
      have hjl : j < D.size := by
        have := (List.getElem?_eq_some_iff.1 hj).1
        simpa using this
      have := S.c1 R (by simp [hs]) j hjl
      rw [this]
      rw [List.getElem?_map] at hj
      have e : D[j]! = D.toList[j]?.getD default := arr_get D j
      rw [e]
      rw [List.getElem?_eq_getElem (by simpa using hjl)] at hj ⊢
      simpa using hj
  have hk2 : (rkFirst l q n s).length = kk := by
    unfold rkFirst; rw [List.length_take, hlen, hk, hn]
  have ht := reads_take hr rfl (k := kk) (by omega)
  rw [hk2]
  have e : (rkFirst l q n s).map natV = ((ssort (rkLt l q s) (rkIdx l q l.length)).map natV).take kk := by
    unfold rkFirst
    rw [← List.map_take]
    congr 1
    rw [hk, ← hn]
    rcases Nat.le_total nn xs.length with h | h
    · rw [Nat.min_eq_left h]
    · rw [Nat.min_eq_right h, List.take_of_length_le (by omega), List.take_of_length_le (by omega)]
  rw [e]; exact ht
set_option maxRecDepth 100000 in
set_option maxHeartbeats 8000000 in
theorem rk_first_any (v : Value) (l : List Pe) (hl : ∀ x ∈ l, x.fits) (q n : Int) (hn64 : -9223372036854775808 ≤ n ∧ n ≤ 9223372036854775807) (s : Nat) (hs : s < 18446744073709551616) (w : World) (h : ReadsL peV 10 w v l) (hn : l.length ≤ 1000000) :
    Calls Try.prog 43 #[v, .int .i64 q, .int .i64 n, .int .u64 s] w fun e w' => ∃ r, e = .returned r ∧ Reads w' r (rkFirst l q n s).length 1 ((rkFirst l q n s).map natV) ∧ Below w.heap.size w w' := by
  have h0 := h
  obtain ⟨hm, p, c, rfl, h3⟩ := pes_open h
  clear h
  go_enter Try.func43, Try.ntmps43
  go_upto_region 2 with fail
  go_name_world W0 hW0
  have z0 : W0.heap.size = w.heap.size + 3 := by subst hW0; simp
  have c1 : W0.cell? ⟨w.heap.size, 0, none⟩ = some (.slice p l.length c) := by subst hW0; (first | (simp [go_sem, *]; done) | (simp (disch := first | omega | (simp; omega) | (simp [go_sem, *]; done)) [go_sem, World.cell?_setCell_far, World.cell?_alloc_past, World.frozen?_alloc_past, *]; done))
  have c2 : W0.cell? ⟨w.heap.size + 1, 0, none⟩ = some (.int .i64 q) := by subst hW0; (first | (simp [go_sem, *]; done) | (simp (disch := first | omega | (simp; omega) | (simp [go_sem, *]; done)) [go_sem, World.cell?_setCell_far, World.cell?_alloc_past, World.frozen?_alloc_past, *]; done))
  have c3 : W0.cell? ⟨w.heap.size + 2, 0, none⟩ = some (.int .u64 s) := by subst hW0; (first | (simp [go_sem, *]; done) | (simp (disch := first | omega | (simp; omega) | (simp [go_sem, *]; done)) [go_sem, World.cell?_setCell_far, World.cell?_alloc_past, World.frozen?_alloc_past, *]; done))
  have b0 : Below w.heap.size w W0 := by subst hW0; (repeat (first | with_reducible assumption | with_reducible exact Below.refl _ _ | with_reducible refine Below.setCell ?_ (by first | omega | (simp; done) | (simp; omega)) _ | with_reducible refine Below.alloc ?_ (by first | omega | (simp; done) | (simp; omega)) _ | with_reducible refine Below.drew ?_ | (with_reducible refine Below.trans ?_ (Below.mono (by with_reducible assumption) (by first | omega | (simp; done) | (simp; omega)))) | (refine Below.trans ?_ (Below.mono (by assumption) (by first | omega | (simp; done) | (simp; omega))))))
  clear hW0
  go_wp2_with fail
  go_loopw [9, 14] (fun at' i' wr => ∃ (k : Nat) (xs : List (Ix l)), k ≤ l.length ∧ i' = .int .i64 k ∧ Hid (wr.ownsRow W0.heap.size 3 1 at' xs.length (xs.map (ixV l))) ∧ Hid (Below W0.heap.size W0 wr) ∧ Hid (xs.map Subtype.val = rkIdx l q k)) (fun _ i' _ => l.length - (intOf i').toNat)
  case atStart => exact ⟨0, [], by omega, rfl, ⟨rfl, Or.inl ⟨rfl, rfl⟩⟩, Below.refl _ _, rfl⟩
  case round =>
    obtain ⟨k, xs, hk, rfl, HO, HB, HX⟩ := hrel
    have hzb := HB.out.size
    have hxl : xs.length ≤ k := by
      have := congrArg List.length HX.out
      rw [List.length_map] at this
      rw [this]; unfold rkIdx
      exact Nat.le_trans (List.length_filter_le _ _) (by simp)
    by_cases hlt : k < l.length
    · obtain ⟨p, hp⟩ : ∃ p, l[k]? = some p := ⟨_, List.getElem?_eq_getElem hlt⟩
      obtain ⟨b, o, rfl, h4, h5, h6⟩ := h3 (by omega)
      have hX := rkIdx_succ l q k
      rw [rkGet_at hp] at hX
      have hc := fun w => rk_counts_any p q w
      have K := (h6 k p hp).below (b0.trans (HB.out.mono b0.size)) h5
      have d2 : wr.cell? ⟨w.heap.size + 1, 0, none⟩ = some (.int .i64 q) := (HB.out.cell (p := ⟨w.heap.size + 1, 0, none⟩) (by show w.heap.size + 1 < _; omega)).trans c2
      have q1 : (0 : Int) ≤ (k : Int) := by omega
      have q2 : (k : Int) < (l.length : Int) := by omega
      generalize rkCounts p q = cc at *
      have HXX := Lib.hid hX; have HC := Lib.hid hc; have HL := Lib.hid hlt
      clear hX hc hp
      obtain ⟨k0, k1, k2, k3, k4, k5, k6, k7, k8, k9⟩ := K
      go_upto_region 5 with (refine list_store_blk rfl 34 _ _ rfl (wr.heap.size) _ _ 34 (BlockIs.newAt' _ _ _ (by simp)) rfl rfl (by kernel_rfl) rfl (by simp [Value.oneCell']) wr.heap.size wr (by (repeat (first | with_reducible assumption | with_reducible exact Below.refl _ _ | with_reducible refine Below.setCell ?_ (by first | omega | (simp; done) | (simp; omega)) _ | with_reducible refine Below.alloc ?_ (by first | omega | (simp; done) | (simp; omega)) _ | with_reducible refine Below.drew ?_ | (with_reducible refine Below.trans ?_ (Below.mono (by with_reducible assumption) (by first | omega | (simp; done) | (simp; omega)))) | (refine Below.trans ?_ (Below.mono (by assumption) (by first | omega | (simp; done) | (simp; omega))))))) (Nat.le_refl _) ?_; intro W5 hP hoth hsz b5; clear hoth)
      clear k0 k1 k2 k3 k4 k5 k6 k7 k8 k9
      have d5 : W5.cell? ⟨w.heap.size + 1, 0, none⟩ = some (.int .i64 q) := (b5.cell (p := ⟨w.heap.size + 1, 0, none⟩) (by show w.heap.size + 1 < _; omega)).trans d2
      have hO5 := owns_below HO.out b5
      have hB5 : Below W0.heap.size W0 W5 := HB.out.trans (b5.mono hzb)
      have x0 := hP.cell (i := 0) rfl
      have x1 := hP.cell (i := 1) rfl
      have x2 := hP.cell (i := 2) rfl
      have x3 := hP.cell (i := 3) rfl
      have x4 := hP.cell (i := 4) rfl
      have x5 := hP.cell (i := 5) rfl
      have x6 := hP.cell (i := 6) rfl
      have x7 := hP.cell (i := 7) rfl
      have x8 := hP.cell (i := 8) rfl
      have x9 := hP.cell (i := 9) rfl
      have xf := hP.frozen
      have xl := hP.lt
      clear d2
      cases cc with
      | false =>
        have HO5 := Lib.hid hO5; have HB5 := Lib.hid hB5
        clear hO5 hB5
        go_wp2_with (go_at_call 38; (with_reducible refine (HC.out _).mono ?_); rintro e w6 ⟨rfl, b6⟩)
        go_roundw
        case rel => exact ⟨k + 1, xs, by omega, by go_num, owns_below HO5.out b6, HB5.out.trans (b6.mono HB5.out.size), by show _ = _; rw [HXX.out, HX.out]; simp⟩
        case measure => simp [intOf]; omega
      | true =>
        have HO5 := Lib.hid hO5; have HB5 := Lib.hid hB5
        clear hO5 hB5
        go_upto_region 6 with (go_at_call 38; (with_reducible refine (HC.out _).mono ?_); rintro e w6 ⟨rfl, b6⟩)
        have hO6 := owns_below HO5.out b6
        have hB6 : Below W0.heap.size W0 w6 := HB5.out.trans (b6.mono HB5.out.size)
        have hz6 := hB6.size
        go_wp2_with (at_builtin; refine list_app intRow rfl _ _ rfl W0.heap.size _ xs.length (xs.map (ixV l)) rfl hO6 [.int .i64 k] rfl rfl rfl (by omega) (by omega) hz6 W0.heap.size W0 hB6 (Nat.le_refl _) ?_; intro v' w7 hO7 hB7)
        go_roundw
        case rel => exact ⟨k + 1, xs ++ [⟨k, HL.out⟩], by omega, by go_num, (show World.ownsRow _ _ _ _ _ _ _ by simpa [ixV] using hO7), hB7, by show _ = _; rw [HXX.out, List.map_append, HX.out]; simp⟩
        case measure => simp [intOf]; omega
    · obtain rfl : k = l.length := by omega
      obtain ⟨nn, hnn⟩ : ∃ nn : Nat, (max n 0) = (nn : Int) := ⟨n.toNat, by omega⟩
      have hnt : nn = n.toNat := by omega
      obtain ⟨kk, hkk⟩ : ∃ kk : Nat, min (nn : Int) (xs.length : Int) = (kk : Int) := ⟨min nn xs.length, by omega⟩
      have hkn : kk = min nn xs.length := by omega
      have HB0 := Lib.hid (b0.trans (HB.out.mono b0.size))
      have HN := Lib.hid hnt; have HK := Lib.hid hkn
      clear hnt hkn
      rcases HO.out.2 with ⟨rfl, hx0⟩ | ⟨g, cap, cur, rfl, hg, hh, hnc, hcm, hcs, hcur⟩
      · have e0 : xs = [] := List.length_eq_zero_iff.1 hx0
        subst e0
        have hkk0 : kk = 0 := by have := HK.out; simp at this; exact this
        subst hkk0
        have HE : Hid (rkFirst l q n s = []) := by
          show _ = _; unfold rkFirst; rw [← HX.out]; simp [ssort]
        clear hkk
        have hkk : min (nn : Int) 0 = 0 := by omega
        try simp only [List.length_nil]
        go_wp2_with (go_at_call 90; (with_reducible refine (sortStable_none _ _ _ _).mono ?_); rintro e w6 ⟨rfl, rfl⟩)
        go_ret
        exact ⟨_, rfl, by rw [HE.out]; exact ⟨rfl, by decide, Or.inl ⟨rfl, _, _, rfl⟩⟩, HB0.out⟩
      · rw [Nat.mul_one] at hcs hcur
        obtain ⟨g, rfl⟩ : ∃ g', g = g' := ⟨g, rfl⟩
        have hgl : g < wr.heap.size := by
          rcases Nat.lt_or_ge g wr.heap.size with h | h
          · exact h
          · rw [Array.getElem?_eq_none h] at hh; cases hh
        by_cases hx0 : xs = []
        · subst hx0
          have hkk0 : kk = 0 := by have := HK.out; simp at this; exact this
          subst hkk0
          have HE : Hid (rkFirst l q n s = []) := by
            show _ = _; unfold rkFirst; rw [← HX.out]; simp [ssort]
          clear hkk
          have hkk : min (nn : Int) 0 = 0 := by omega
          try simp only [List.length_nil]
          have HH := Lib.hid hh; clear hh hcs hcur
          go_wp2_with (go_at_call 90; (with_reducible refine (sortStable_none _ _ _ _).mono ?_); rintro e w6 ⟨rfl, rfl⟩)
          go_ret
          exact ⟨_, rfl, by rw [HE.out]; exact ⟨rfl, by decide, Or.inl ⟨rfl, _, _, rfl⟩⟩, HB0.out⟩
        · have hlen : 0 < l.length := by
            have : xs.length ≠ 0 := fun e => hx0 (List.length_eq_zero_iff.1 e)
            omega
          have inst : Inhabited (Ix l) := ⟨⟨0, hlen⟩⟩
          have hcell : ∀ (j : Nat), j < xs.toArray.size → wr.cell? ⟨g, 0 + j, none⟩ = some (ixV l xs.toArray[j]!) ∧ wr.frozen? ⟨g, 0 + j, none⟩ = false := by
            intro j hj
            have hj' : j < xs.length := by simpa using hj
            have e1 : cur[j]? = some (ixV l xs[j]) := by
              have := congrArg (fun L : List Value => L[j]?) hcur
              simp only [List.getElem?_take, hj', if_true, List.getElem?_map, List.getElem?_eq_getElem hj', Option.map_some] at this
              simpa using this
            have e2 : xs.toArray[j]! = xs[j] := by simp [hj']
            rw [e2, Nat.zero_add]
            exact ⟨by simp [World.cell?, hh, e1], by simp [World.frozen?, hh]⟩
          have hgB1 : w.heap.size ≠ g := by omega
          have hR : Go.Proofs.Row1 (ixV l) wr g 0 xs.toArray := ⟨ixV_one l, hcell, hgl⟩
          have hrd : ReadsL peV 10 wr (.slice p l.length c) l := Reads.below h0 HB0.out
          have e1 : wr.cell? ⟨w.heap.size, 0, none⟩ = some (.slice p l.length c) := (HB.out.cell (p := ⟨w.heap.size, 0, none⟩) (by show w.heap.size < _; omega)).trans c1
          have e2 : wr.cell? ⟨w.heap.size + 1, 0, none⟩ = some (.int .i64 q) := (HB.out.cell (p := ⟨w.heap.size + 1, 0, none⟩) (by show w.heap.size + 1 < _; omega)).trans c2
          have e3 : wr.cell? ⟨w.heap.size + 2, 0, none⟩ = some (.int .u64 s) := (HB.out.cell (p := ⟨w.heap.size + 2, 0, none⟩) (by show w.heap.size + 2 < _; omega)).trans c3
          have hb : ∀ b o c', Value.slice p l.length c = .slice (some ⟨b, o, none⟩) l.length c' → b ≠ g := by
            intro b o c' hv
            obtain ⟨b', o', hp', _, h5', _⟩ := h3 hlen
            injection hv with hv _ _
            rw [hp'] at hv
            injection hv with hv
            injection hv with hv _ _
            omega
          have hC := rk_cmpB l hl hlen q s hs _ w.heap.size (w.heap.size + 1) (w.heap.size + 2) g xs.toArray.size wr hrd e1 e2 e3 (by omega) (by omega) (by omega) (by omega) (by omega) (by omega) hb inst
          have hS := sortStable_s (ixV l) (fun x y => rkFull (rkGet l x.1) (rkGet l y.1) q s) 91 _ g 0 cap xs.toArray wr (enters_of Try.func91 (by kernel_rfl) rfl) hC hR (by simp; omega)
          rw [show xs.toArray.size = xs.length by simp] at hS
          have HS := Lib.hid hS
          have HL : Hid ((ssort (fun x y : Ix l => decide (rkFull (rkGet l x.1) (rkGet l y.1) q s < 0)) xs).map Subtype.val = ssort (rkLt l q s) (rkIdx l q l.length)) := by
            show _ = _
            exact (ssort_map Subtype.val (fun x y : Ix l => decide (rkFull (rkGet l x.1) (rkGet l y.1) q s < 0)) (rkLt l q s) (fun _ _ => rfl) xs).trans (by rw [HX.out])
          have HW : Hid (WO fun x y : Ix l => decide (rkFull (rkGet l x.1) (rkGet l y.1) q s < 0)) := wo_of (cmp_on (cmp_full q s) (fun x : Ix l => rkGet l x.1))
          have HR := Lib.hid hR
          clear hS hC e1 e2 e3 hb hrd hcell hcur hcs hR h3 h0 c1 c2 c3 hh
          go_wp2_with (go_at_call 90; (with_reducible refine (HS.out).mono ?_); rintro e w6 ⟨rfl, S6⟩)
          go_ret
          exact ⟨_, rfl, first_end l q n s xs g cap nn kk wr w6 HR.out HW.out HL.out S6 hnc HN.out HK.out (by omega), HB0.out.trans (S6.belowB (by omega) HB0.out.size)⟩
end Go.Proofs.Ytdjmejdfcceknaa
