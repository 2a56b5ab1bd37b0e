/- The contracts of rank.First's order, and of Rank. Conditions: numbers are 64 bits. -/
import Derived.Test.YtdjmejdfcceknaaRankB
import Derived.Test.YtdjmejdfcceknaaPeRow
import Derived.Test.YtdjmejdfcceknaaQba21a9hbayfa
import Derived.Test.YtdjmejdfcceknaaBlkQ
namespace Go.Proofs.Ytdjmejdfcceknaa
open Go.RowKit
set_option linter.unusedSimpArgs false
set_option linter.unusedVariables false

set_option maxRecDepth 100000 in
set_option maxHeartbeats 4000000 in
theorem rk_closure (v : Value) (l : List Pe) (hl : ∀ x ∈ l, x.fits) (q : Int) (s : Nat) (hs : s < 18446744073709551616) (B1 B2 B3 : Nat) (i k : Nat) (a b : Pe) (ha : l[i]? = some a) (hb : l[k]? = some b)
    (w : World) (h : ReadsL peV 10 w v l) (c1 : w.cell? ⟨B1, 0, none⟩ = some v) (c2 : w.cell? ⟨B2, 0, none⟩ = some (.int .i64 q)) (c3 : w.cell? ⟨B3, 0, none⟩ = some (.int .u64 s)) (l1 : B1 < w.heap.size) (l2 : B2 < w.heap.size) (l3 : B3 < w.heap.size) :
    Calls Try.prog 91 #[.int .i64 i, .int .i64 k, .pointer (some ⟨B1, 0, none⟩), .pointer (some ⟨B2, 0, none⟩), .pointer (some ⟨B3, 0, none⟩)] w fun e w' => e = .returned (.int .i64 (rkFull a b q s)) ∧ Below w.heap.size w w' := by
  have hi := (List.getElem?_eq_some_iff.1 ha).1
  have hk := (List.getElem?_eq_some_iff.1 hb).1
  have hf := Lib.hid (fun w => rk_full_any a b (hl a (List.mem_of_getElem? ha)) (hl b (List.mem_of_getElem? hb)) q s hs w)
  obtain ⟨hm, p, c, rfl, h3⟩ := pes_open h
  obtain ⟨B, o, rfl, h4, h5, h6⟩ := h3 (by omega)
  have X := (h6 i a ha).ext h5
  have Y := (h6 k b hb).ext h5
  have e1 := fun y => (ext_cell w y (p := ⟨B1, 0, none⟩) l1).trans c1
  have e2 := fun y => (ext_cell w y (p := ⟨B2, 0, none⟩) l2).trans c2
  have e3 := fun y => (ext_cell w y (p := ⟨B3, 0, none⟩) l3).trans c3
  have x0 := fun y => (X y).1; have x1 := fun y => (X y).2.1; have x2 := fun y => (X y).2.2.1; have x3 := fun y => (X y).2.2.2.1; have x4 := fun y => (X y).2.2.2.2.1; have x5 := fun y => (X y).2.2.2.2.2.1; have x6 := fun y => (X y).2.2.2.2.2.2.1; have x7 := fun y => (X y).2.2.2.2.2.2.2.1; have x8 := fun y => (X y).2.2.2.2.2.2.2.2.1; have x9 := fun y => (X y).2.2.2.2.2.2.2.2.2
  have y0 := fun y => (Y y).1; have y1 := fun y => (Y y).2.1; have y2 := fun y => (Y y).2.2.1; have y3 := fun y => (Y y).2.2.2.1; have y4 := fun y => (Y y).2.2.2.2.1; have y5 := fun y => (Y y).2.2.2.2.2.1; have y6 := fun y => (Y y).2.2.2.2.2.2.1; have y7 := fun y => (Y y).2.2.2.2.2.2.2.1; have y8 := fun y => (Y y).2.2.2.2.2.2.2.2.1; have y9 := fun y => (Y y).2.2.2.2.2.2.2.2.2
  have q1 : (0 : Int) ≤ (i : Int) := by omega
  have q2 : (i : Int) < (l.length : Int) := by omega
  have q3 : (0 : Int) ≤ (k : Int) := by omega
  have q4 : (k : Int) < (l.length : Int) := by omega
  clear X Y h3 h6 ha hb hl c1 c2 c3 h
  go_enter Try.func91, Try.ntmps91
  go_wp2_with fail
  refine wp_region_ext (by kernel_rfl) (by kernel_rfl) ?_
  repeat (go_big_quiet_step ((first | (go_at_call 88; with_reducible exact qe (hf.out _)))))
  refine wpQuiet_nil ?_
  intro _ hw'
  obtain ⟨x, hw''⟩ := hw'
  subst hw''
  go_wp2_with fail
  go_ret
  exact ⟨rfl, ext_below w x⟩
/-- how many of the first k count and stand ahead of a -/
def rkN (l : List Pe) (a : Pe) (q : Int) (s : Nat) (k : Nat) : Nat := ((l.take k).filter fun p => rkCounts p q && rkAhead p a q s).length
def rkRank (l : List Pe) (i : Int) (q : Int) (s : Nat) : Int := if i < 0 ∨ (l.length : Int) ≤ i then -1 else ((rkN l (l[i.toNat]?.getD ⟨⟨⟨false, 0, 0⟩, 0⟩, false, 0, 0, 0, 0, 0⟩) q s l.length : Nat) : Int)
theorem rkN_succ (l : List Pe) (a : Pe) (q : Int) (s : Nat) (k : Nat) (p : Pe) (h : l[k]? = some p) : rkN l a q s (k + 1) = rkN l a q s k + (if (rkCounts p q && rkAhead p a q s) = true then 1 else 0) := by
  unfold rkN
  rw [List.take_add_one, h, List.filter_append, List.length_append]
  congr 1
  simp only [Option.toList_some, List.filter_cons, List.filter_nil]
  split <;> rfl
theorem rkN_le (l : List Pe) (a : Pe) (q : Int) (s : Nat) (k : Nat) : rkN l a q s k ≤ l.length := by
  unfold rkN
  exact Nat.le_trans (List.length_filter_le _ _) (by rw [List.length_take]; omega)
set_option maxRecDepth 100000 in
set_option maxHeartbeats 8000000 in
theorem rk_rank_any (v : Value) (l : List Pe) (hl : ∀ x ∈ l, x.fits) (i q : Int) (s : Nat) (hs : s < 18446744073709551616) (w : World) (h : ReadsL peV 10 w v l) (hn : l.length ≤ 1000000) :
    Calls Try.prog 45 #[v, .int .i64 i, .int .i64 q, .int .u64 s] w fun e w' => e = .returned (.int .i64 (rkRank l i q s)) ∧ Below w.heap.size w w' := by
  obtain ⟨hm, p, c, rfl, h3⟩ := pes_open h
  clear h
  unfold rkRank
  by_cases h1 : i < 0
  · rw [if_pos (Or.inl h1)]
    go_enter Try.func45, Try.ntmps45
    go_wp2_with fail
    go_ret
    exact ⟨rfl, Below.refl _ _⟩
  by_cases h2 : (l.length : Int) ≤ i
  · rw [if_pos (Or.inr h2)]
    go_enter Try.func45, Try.ntmps45
    go_wp2_with fail
    go_ret
    exact ⟨rfl, Below.refl _ _⟩
  rw [if_neg (by omega)]
  obtain ⟨j, rfl⟩ : ∃ j : Nat, i = j := ⟨i.toNat, by omega⟩
  have hj : j < l.length := by omega
  have hja : l[j]? = some l[j] := List.getElem?_eq_getElem hj
  rw [show ((j : Int)).toNat = j from by omega, hja]
  have hf : l[j].fits := hl _ (List.getElem_mem _)
  generalize l[j] = a at *
  simp only [Option.getD_some]
  obtain ⟨b, o, rfl, h4, h5, h6⟩ := h3 (by omega)
  have HA := h6 j a hja
  clear h3 hja
  go_enter Try.func45, Try.ntmps45
  go_wp2_with fail
  go_loopw [9, 22] (fun n' i' wr => ∃ k : Nat, k ≤ l.length ∧ i' = .int .i64 k ∧ n' = .int .i64 ((rkN l a q s k : Nat) : Int) ∧ Below w.heap.size w wr) (fun _ i' _ => l.length - (intOf i').toNat)
  case atStart => exact ⟨0, by omega, rfl, rfl, Below.refl _ _⟩
  case round =>
    obtain ⟨k, hk, rfl, rfl, hb⟩ := hrel
    have hzb := hb.size
    by_cases hlt : k < l.length
    · obtain ⟨p, hp⟩ : ∃ p, l[k]? = some p := ⟨_, List.getElem?_eq_getElem hlt⟩
      have hN := rkN_succ l a q s k p hp
      have hNl := rkN_le l a q s k
      have fp : p.fits := hl p (List.mem_of_getElem? hp)
      have hc := fun w => rk_counts_any p q w
      have ha := fun w => rk_ahead_any p a fp hf q s hs w
      have K := (h6 k p hp).below hb h5
      have q1 : (0 : Int) ≤ (k : Int) := by omega
      have q2 : (k : Int) < (l.length : Int) := by omega
      have q3 : (0 : Int) ≤ (j : Int) := by omega
      have q4 : (j : Int) < (l.length : Int) := by omega
      generalize rkCounts p q = cc at *
      generalize rkAhead p a q s = aa at *
      generalize hg : rkN l a q s k = g at *
      have HN := Lib.hid hN; have HH := Lib.hid hc; have HAA := Lib.hid ha; have HP := Lib.hid hp; have HG := Lib.hid hg
      clear hN hc ha hp hg
      obtain ⟨k0, k1, k2, k3, k4, k5, k6, k7, k8, k9⟩ := K
      go_upto_region 7 with (refine list_store_blk rfl 34 _ _ rfl (wr.heap.size) _ _ 34 (BlockIs.newAt' _ _ _ (by simp)) rfl rfl (by kernel_rfl) rfl (by simp [Value.oneCell']) w.heap.size w (by (repeat (first | with_reducible assumption | with_reducible exact Below.refl _ _ | with_reducible refine Below.setCell ?_ (by first | omega | (simp; done) | (simp; omega)) _ | with_reducible refine Below.alloc ?_ (by first | omega | (simp; done) | (simp; omega)) _ | with_reducible refine Below.drew ?_ | (with_reducible refine Below.trans ?_ (Below.mono (by with_reducible assumption) (by first | omega | (simp; done) | (simp; omega)))) | (refine Below.trans ?_ (Below.mono (by assumption) (by first | omega | (simp; done) | (simp; omega))))))) (by have := hb.size; omega) ?_; intro W7 hP hoth hsz b7; clear hoth hsz)
      have Y := (HA.below b7 h5).ext (Nat.lt_of_lt_of_le h5 b7.size)
      clear k0 k1 k2 k3 k4 k5 k6 k7 k8 k9
      have y0 := fun y => (Y y).1; have y1 := fun y => (Y y).2.1; have y2 := fun y => (Y y).2.2.1; have y3 := fun y => (Y y).2.2.2.1; have y4 := fun y => (Y y).2.2.2.2.1; have y5 := fun y => (Y y).2.2.2.2.2.1; have y6 := fun y => (Y y).2.2.2.2.2.2.1; have y7 := fun y => (Y y).2.2.2.2.2.2.2.1; have y8 := fun y => (Y y).2.2.2.2.2.2.2.2.1; have y9 := fun y => (Y y).2.2.2.2.2.2.2.2.2
      have hQ := BlockIs.ext hP
      have x0 := fun y => (hP.below (ext_below W7 y)).cell (i := 0) rfl; have x1 := fun y => (hP.below (ext_below W7 y)).cell (i := 1) rfl; have x2 := fun y => (hP.below (ext_below W7 y)).cell (i := 2) rfl; have x3 := fun y => (hP.below (ext_below W7 y)).cell (i := 3) rfl; have x4 := fun y => (hP.below (ext_below W7 y)).cell (i := 4) rfl; have x5 := fun y => (hP.below (ext_below W7 y)).cell (i := 5) rfl; have x6 := fun y => (hP.below (ext_below W7 y)).cell (i := 6) rfl; have x7 := fun y => (hP.below (ext_below W7 y)).cell (i := 7) rfl; have x8 := fun y => (hP.below (ext_below W7 y)).cell (i := 8) rfl; have x9 := fun y => (hP.below (ext_below W7 y)).cell (i := 9) rfl
      clear Y
      cases cc with
      | false =>
        refine wp_region_ext (by kernel_rfl) (by kernel_rfl) ?_
        refine wpQuiet_load_blk (by rfl) _ _ rfl _ _ _ hQ rfl Try.underlying34 (by kernel_rfl) ?_
        go_simp
        repeat (go_big_quiet_step ((first | (go_at_call 38; with_reducible exact qe (HH.out _)) | (go_at_call 40; with_reducible exact qe (HAA.out _)))))
        refine wpQuiet_nil ?_
        first | (intro _ hw'; obtain ⟨gx, hw''⟩ := hw'; subst hw'') | intro gx
        clear x0 x1 x2 x3 x4 x5 x6 x7 x8 x9 y0 y1 y2 y3 y4 y5 y6 y7 y8 y9
        have b8 := below2 b7 (ext_below W7 gx)
        go_wp2_with fail
        go_roundw
        case rel => exact ⟨k + 1, by omega, by go_num, by rw [HN.out]; simp [], b8⟩
        case measure => simp [intOf]; omega
      | true =>
        cases aa with
        | false =>
          refine wp_region_ext (by kernel_rfl) (by kernel_rfl) ?_
          refine wpQuiet_load_blk (by rfl) _ _ rfl _ _ _ hQ rfl Try.underlying34 (by kernel_rfl) ?_
          go_simp
          repeat (go_big_quiet_step ((first | (go_at_call 38; with_reducible exact qe (HH.out _)) | (go_at_call 40; with_reducible exact qe (HAA.out _)))))
          refine wpQuiet_nil ?_
          first | (intro _ hw'; obtain ⟨gx, hw''⟩ := hw'; subst hw'') | intro gx
          clear x0 x1 x2 x3 x4 x5 x6 x7 x8 x9 y0 y1 y2 y3 y4 y5 y6 y7 y8 y9
          have b8 := below2 b7 (ext_below W7 gx)
          go_wp2_with fail
          go_roundw
          case rel => exact ⟨k + 1, by omega, by go_num, by rw [HN.out]; simp [], b8⟩
          case measure => simp [intOf]; omega
        | true =>
          refine wp_region_ext (by kernel_rfl) (by kernel_rfl) ?_
          refine wpQuiet_load_blk (by rfl) _ _ rfl _ _ _ hQ rfl Try.underlying34 (by kernel_rfl) ?_
          go_simp
          repeat (go_big_quiet_step ((first | (go_at_call 38; with_reducible exact qe (HH.out _)) | (go_at_call 40; with_reducible exact qe (HAA.out _)))))
          refine wpQuiet_nil ?_
          first | (intro _ hw'; obtain ⟨gx, hw''⟩ := hw'; subst hw'') | intro gx
          clear x0 x1 x2 x3 x4 x5 x6 x7 x8 x9 y0 y1 y2 y3 y4 y5 y6 y7 y8 y9
          have b8 := below2 b7 (ext_below W7 gx)
          go_wp2_with fail
          go_roundw
          case rel => exact ⟨k + 1, by omega, by go_num, by rw [HN.out]; simp [], b8⟩
          case measure => simp [intOf]; omega
    · obtain rfl : k = l.length := by omega
      go_wp2_with fail
      go_ret
      exact ⟨rfl, hb⟩
set_option maxRecDepth 100000 in
set_option maxHeartbeats 8000000 in
theorem ref_rank_any (v : Value) (l : List Pe) (hl : ∀ x ∈ l, x.fits) (i q : Int) (s : Nat) (hs : s < 18446744073709551616) (w : World) (h : ReadsL peV 10 w v l) (hn : l.length ≤ 1000000) :
    Calls Try.prog 46 #[v, .int .i64 i, .int .i64 q, .int .u64 s] w fun e w' => e = .returned (.int .i64 (rkRank l i q s)) ∧ Below w.heap.size w w' := by
  obtain ⟨hm, p, c, rfl, h3⟩ := pes_open h
  clear h
  unfold rkRank
  by_cases h1 : i < 0
  · rw [if_pos (Or.inl h1)]
    go_enter Try.func46, Try.ntmps46
    go_wp2_with fail
    go_ret
    exact ⟨rfl, Below.refl _ _⟩
  by_cases h2 : (l.length : Int) ≤ i
  · rw [if_pos (Or.inr h2)]
    go_enter Try.func46, Try.ntmps46
    go_wp2_with fail
    go_ret
    exact ⟨rfl, Below.refl _ _⟩
  rw [if_neg (by omega)]
  obtain ⟨j, rfl⟩ : ∃ j : Nat, i = j := ⟨i.toNat, by omega⟩
  have hj : j < l.length := by omega
  have hja : l[j]? = some l[j] := List.getElem?_eq_getElem hj
  rw [show ((j : Int)).toNat = j from by omega, hja]
  have hf : l[j].fits := hl _ (List.getElem_mem _)
  generalize l[j] = a at *
  simp only [Option.getD_some]
  obtain ⟨b, o, rfl, h4, h5, h6⟩ := h3 (by omega)
  have HA := h6 j a hja
  clear h3 hja
  go_enter Try.func46, Try.ntmps46
  go_wp2_with fail
  go_loopw [9, 10] (fun n' i' wr => ∃ k : Nat, k ≤ l.length ∧ i' = .int .i64 k ∧ n' = .int .i64 ((rkN l a q s k : Nat) : Int) ∧ Below w.heap.size w wr) (fun _ i' _ => l.length - (intOf i').toNat)
  case atStart => exact ⟨0, by omega, rfl, rfl, Below.refl _ _⟩
  case round =>
    obtain ⟨k, hk, rfl, rfl, hb⟩ := hrel
    have hzb := hb.size
    by_cases hlt : k < l.length
    · obtain ⟨p, hp⟩ : ∃ p, l[k]? = some p := ⟨_, List.getElem?_eq_getElem hlt⟩
      have hN := rkN_succ l a q s k p hp
      have hNl := rkN_le l a q s k
      have fp : p.fits := hl p (List.mem_of_getElem? hp)
      have hc := fun w => ref_counts_any p q w
      have ha := fun w => ref_ahead_any p a fp hf q s hs w
      have K := (h6 k p hp).below hb h5
      have q1 : (0 : Int) ≤ (k : Int) := by omega
      have q2 : (k : Int) < (l.length : Int) := by omega
      have q3 : (0 : Int) ≤ (j : Int) := by omega
      have q4 : (j : Int) < (l.length : Int) := by omega
      generalize rkCounts p q = cc at *
      generalize rkAhead p a q s = aa at *
      generalize hg : rkN l a q s k = g at *
      have HN := Lib.hid hN; have HH := Lib.hid hc; have HAA := Lib.hid ha; have HP := Lib.hid hp; have HG := Lib.hid hg
      clear hN hc ha hp hg
      go_upto_region 7 with fail
      have Y := (HA.below hb h5).ext (Nat.lt_of_lt_of_le h5 hb.size)
      have X := K.ext (Nat.lt_of_lt_of_le h5 hb.size)
      have y0 := fun y => (Y y).1; have y1 := fun y => (Y y).2.1; have y2 := fun y => (Y y).2.2.1; have y3 := fun y => (Y y).2.2.2.1; have y4 := fun y => (Y y).2.2.2.2.1; have y5 := fun y => (Y y).2.2.2.2.2.1; have y6 := fun y => (Y y).2.2.2.2.2.2.1; have y7 := fun y => (Y y).2.2.2.2.2.2.2.1; have y8 := fun y => (Y y).2.2.2.2.2.2.2.2.1; have y9 := fun y => (Y y).2.2.2.2.2.2.2.2.2
      have x0 := fun y => (X y).1; have x1 := fun y => (X y).2.1; have x2 := fun y => (X y).2.2.1; have x3 := fun y => (X y).2.2.2.1; have x4 := fun y => (X y).2.2.2.2.1; have x5 := fun y => (X y).2.2.2.2.2.1; have x6 := fun y => (X y).2.2.2.2.2.2.1; have x7 := fun y => (X y).2.2.2.2.2.2.2.1; have x8 := fun y => (X y).2.2.2.2.2.2.2.2.1; have x9 := fun y => (X y).2.2.2.2.2.2.2.2.2
      clear X Y K
      cases cc with
      | false =>
        refine wp_region_ext (by kernel_rfl) (by kernel_rfl) ?_
        repeat (go_big_quiet_step ((first | (go_at_call 39; with_reducible exact qe (HH.out _)) | (go_at_call 41; with_reducible exact qe (HAA.out _)))))
        refine wpQuiet_nil ?_
        intro _ hw'
        obtain ⟨gx, hw''⟩ := hw'
        subst hw''
        clear x0 x1 x2 x3 x4 x5 x6 x7 x8 x9 y0 y1 y2 y3 y4 y5 y6 y7 y8 y9
        have b8 := below2 hb (ext_below wr gx)
        go_wp2_with fail
        go_roundw
        case rel => exact ⟨k + 1, by omega, by go_num, by rw [HN.out]; simp [], b8⟩
        case measure => simp [intOf]; omega
      | true =>
        cases aa with
        | false =>
          refine wp_region_ext (by kernel_rfl) (by kernel_rfl) ?_
          repeat (go_big_quiet_step ((first | (go_at_call 39; with_reducible exact qe (HH.out _)) | (go_at_call 41; with_reducible exact qe (HAA.out _)))))
          refine wpQuiet_nil ?_
          intro _ hw'
          obtain ⟨gx, hw''⟩ := hw'
          subst hw''
          clear x0 x1 x2 x3 x4 x5 x6 x7 x8 x9 y0 y1 y2 y3 y4 y5 y6 y7 y8 y9
          have b8 := below2 hb (ext_below wr gx)
          go_wp2_with fail
          go_roundw
          case rel => exact ⟨k + 1, by omega, by go_num, by rw [HN.out]; simp [], b8⟩
          case measure => simp [intOf]; omega
        | true =>
          refine wp_region_ext (by kernel_rfl) (by kernel_rfl) ?_
          repeat (go_big_quiet_step ((first | (go_at_call 39; with_reducible exact qe (HH.out _)) | (go_at_call 41; with_reducible exact qe (HAA.out _)))))
          refine wpQuiet_nil ?_
          intro _ hw'
          obtain ⟨gx, hw''⟩ := hw'
          subst hw''
          clear x0 x1 x2 x3 x4 x5 x6 x7 x8 x9 y0 y1 y2 y3 y4 y5 y6 y7 y8 y9
          have b8 := below2 hb (ext_below wr gx)
          go_wp2_with fail
          go_roundw
          case rel => exact ⟨k + 1, by omega, by go_num, by rw [HN.out]; simp [], b8⟩
          case measure => simp [intOf]; omega
    · obtain rfl : k = l.length := by omega
      go_wp2_with fail
      go_ret
      exact ⟨rfl, hb⟩
end Go.Proofs.Ytdjmejdfcceknaa
