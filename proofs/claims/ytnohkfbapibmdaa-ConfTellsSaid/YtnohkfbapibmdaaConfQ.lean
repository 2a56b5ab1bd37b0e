/- The contracts of confs: read, the reference. -/
import Derived.Test.YtnohkfbapibmdaaConfP
import Derived.Test.YtnohkfbapibmdaaQc03ddbzkkgpc
namespace Go.Proofs.Ytnohkfbapibmdaa
open Go.RowKit
set_option linter.unusedSimpArgs false
set_option linter.unusedVariables false

theorem cf_len {f : FuncId} {args : Array Value} {W : World} {l : List (List UInt8)} (hne : l ≠ []) (h : Calls Try.prog f args W (GivesStrs W l)) :
    Calls Try.prog f args W fun e w' => ∃ (g cap : Nat), e = .returned (.slice (some ⟨g, 0, none⟩) l.length cap) ∧ Below W.heap.size W w' :=
  (gives_some hne h).mono fun _ _ ⟨g, cap, _, _, h3, _, h5⟩ => ⟨g, cap, h3, h5⟩
theorem cf_two {f : FuncId} {args : Array Value} {W : World} {x y : List UInt8} (h : Calls Try.prog f args W (GivesStrs W [x, y])) :
    Calls Try.prog f args W fun e w' => ∃ (g cap : Nat), e = .returned (.slice (some ⟨g, 0, none⟩) 2 cap) ∧ 2 ≤ cap ∧ g < w'.heap.size ∧ w'.cell? ⟨g, 0, none⟩ = some (.string (bs x)) ∧ w'.cell? ⟨g, 1, none⟩ = some (.string (bs y)) ∧ Below W.heap.size W w' :=
  (gives_some (by simp) h).mono fun _ w' ⟨g, cap, h1, _, h3, h4, h5⟩ => by
    obtain ⟨_, _, a, c, ha, ho⟩ := (owns_reads h4).open
    obtain ⟨b, o, rfl, h6, h7, h8⟩ := ho (by simp)
    cases ha
    have c0 := h8 0 (sv x) rfl
    have c1 := h8 1 (sv y) rfl
    exact ⟨_, _, h3, h1, h7, c0, c1, h5⟩
set_option maxRecDepth 100000 in
set_option maxHeartbeats 16000000 in
theorem refCfParse_any (s : ByteArray) (w : World) (hs : s.size ≤ 4000000000) : Calls Try.prog 48 #[.string s] w (GivesCf w (cfParse s.data.toList)) := by
  have hL := fun w => refLines_any s w (by omega)
  have hpl := lines_part_len s.data.toList
  rw [len_data] at hpl
  unfold cfParse
  generalize linesL s.data.toList = r at *
  obtain ⟨L, e⟩ := r
  unfold GivesLines at hL
  simp only at hL
  have HL := Lib.hid hL; clear hL
  simp only at hpl
  have HPL := Lib.hid hpl; clear hpl
  unfold GivesCf
  have hZ := BlockIs.new w [.int .i64 zeroCf.mi, .int .i64 zeroCf.mo, .int .i64 zeroCf.sh, .int .i64 zeroCf.mb, .int .i64 zeroCf.mbk, .int .u64 zeroCf.secret, .int .i64 zeroCf.qg, .int .i64 zeroCf.qp, .int .i64 zeroCf.qw, .int .i64 zeroCf.qt, .int .i64 zeroCf.half, .int .i64 zeroCf.limit, .int .i64 zeroCf.banfor, .int .i64 zeroCf.base, .int .i64 zeroCf.cap, .int .i64 zeroCf.jitter] 70
  unfold zeroCf at hZ
  simp only [show ((0 : Nat) : Int) = 0 from rfl] at hZ
  by_cases he : e ≠ 0
  · have hr : cfGo (L, e) = (zeroCf, 0, e) := if_pos he
    rw [hr]
    have q : (e != 0) = true := by simpa using he
    clear hr he
    go_enter Try.func48, Try.ntmps48
    go_wp2_with (first | (go_at_call 105; (with_reducible refine (HL.out _).mono ?_); rintro e w1 ⟨v1, rfl, ho1, b1⟩; have z1 := b1.size; have hZ1 := hZ.below b1) | (refine list_store_blk rfl 70 _ _ rfl (w.heap.size) _ _ 70 hZ1 rfl rfl (by kernel_rfl) rfl (by simp [Value.oneCell']) w.heap.size w (by (repeat (first | with_reducible assumption | with_reducible exact Below.refl _ _ | with_reducible refine Below.setCell ?_ (by first | omega | (simp; done) | (simp; omega)) _ | with_reducible refine Below.alloc ?_ (by first | omega | (simp; done) | (simp; omega)) _ | with_reducible refine Below.drew ?_ | (with_reducible refine Below.trans ?_ (Below.mono (by with_reducible assumption) (by first | omega | (simp; done) | (simp; omega)))) | (refine Below.trans ?_ (Below.mono (by assumption) (by first | omega | (simp; done) | (simp; omega))))))) (by omega) ?_; intro w2 hO hoth hsz bw2))
    exact bodyPost_ret (results_cell3 rfl rfl (hO.loadVar Try.underlying70 (by kernel_rfl)) rfl rfl) rfl ⟨rfl, bw2⟩
  · obtain rfl : e = 0 := by omega
    have HSTOP := Lib.hid (fun xs h hk hs => @cfGo_stop L xs h hk hs)
    have HALL := Lib.hid (fun xs h hk => @cfGo_all L xs h hk)
    have HW := Lib.hid (fun w => refWords_any w)
    have HAW := Lib.hid cfWd_at
    generalize cfGo (L, 0) = G at *
    generalize cfWords.map sv = WV at *
    clear he
    go_enter Try.func48, Try.ntmps48
    go_wp2_with (first | (go_at_call 105; (with_reducible refine (HL.out _).mono ?_); rintro e w1 ⟨v1, rfl, ho1, b1⟩; have z1 := b1.size; have hZ1 := hZ.below b1) | (go_at_call 106; (with_reducible refine (HW.out _).mono ?_); rintro e w2 ⟨rfl, hw2, b2⟩))
    simp only [World.size_alloc] at z1
    have z2 := b2.size
    have hwl := hw2.lt
    have bw1 : Below w.heap.size w w1 := by (repeat (first | with_reducible assumption | with_reducible exact Below.refl _ _ | with_reducible refine Below.setCell ?_ (by first | omega | (simp; done) | (simp; omega)) _ | with_reducible refine Below.alloc ?_ (by first | omega | (simp; done) | (simp; omega)) _ | with_reducible refine Below.drew ?_ | (with_reducible refine Below.trans ?_ (Below.mono (by with_reducible assumption) (by first | omega | (simp; done) | (simp; omega)))) | (refine Below.trans ?_ (Below.mono (by assumption) (by first | omega | (simp; done) | (simp; omega))))))
    have bw2 : Below w.heap.size w w2 := bw1.trans (b2.mono (by omega))
    have hZ2 := hZ1.below b2
    have hN2 : BlockIs (w2.alloc _) w2.heap.size (nArr []) 119 := BlockIs.new w2 (nArr []) 119
    obtain ⟨_, hLn, a, cap, rfl, ho⟩ := ((owns_reads ho1).below b2).open
    have HRD := Lib.hid ho
    clear ho ho1 hZ hZ1
    go_loopw [9] (fun i wr => ∃ xs : List Int, xs.length ≤ 16 ∧ i = .int .i64 xs.length ∧ Hid (RdTo cfWords L xs) ∧ Hid (BlockIs wr w2.heap.size (nArr xs) 119) ∧ Below w2.heap.size w2 wr) (fun i _ => 16 - (intOf i).toNat)
    case atStart => exact ⟨[], by simp, rfl, RdTo.nil _ _, hN2, (Below.refl _ _).alloc (Nat.le_refl _) _⟩
    case round =>
      obtain ⟨xs, hk, rfl, HT, HN, hb⟩ := hrel
      have zb := hb.size
      have hlt := BlockIs.lt HN.out
      have hZr := hZ2.below hb
      have hWr := hw2.below hb
      have bwr : Below w.heap.size w wr := bw2.trans (hb.mono (by omega))
      by_cases hk2 : xs.length < 16
      · have q1 : (xs.length : Int) < 16 := by omega
        have q0 : (0 : Int) ≤ (xs.length : Int) := by omega
        rcases Nat.lt_or_ge xs.length L.length with hl | hl
        · obtain ⟨b, o, rfl, hcap, hbl, hx⟩ := HRD.out (by omega)
          obtain ⟨l, hll⟩ : ∃ l, L[xs.length]? = some l := ⟨_, List.getElem?_eq_getElem hl⟩
          have hc := hx xs.length (sv l) (by rw [List.getElem?_map, hll]; rfl)
          have hcr := keep hb hbl hc
          have q2 : ¬ (L.length : Int) ≤ (xs.length : Int) := by omega
          have q3 : (xs.length : Int) < (L.length : Int) := by omega
          have hww := HAW.out xs.length hk2
          have hrc := rdRow_split (l := l) (show (32 : UInt8) ∉ cfWd xs.length from cfWd_no32 _)
          have hll2 := HPL.out l (List.mem_of_getElem? hll)
          have HSTP := Lib.hid (HSTOP.out xs HT.out hk2)
          have HSN := Lib.hid (fun y => RdTo.snoc (x := y) HT.out (cfWords_at _ hk2) hll)
          generalize cfWd xs.length = x at *
          have hSP := fun W => refSplit_any (bs l) 32 W (by rw [bs_size]; omega)
          rw [bs_data] at hSP
          have hne := splitL_ne 32 l
          have hpy := splitL_part_len 32 l
          generalize splitL 32 l = S at *
          have e1 := fun Y => (hWr.ext' Y).cell hww
          by_cases h2 : S.length = 2
          · obtain ⟨x', y, rfl⟩ : ∃ x' y, S = [x', y] := by
              match S, h2 with
              | [x', y], _ => exact ⟨x', y, rfl⟩
            have HSP := Lib.hid (fun W => cf_two (hSP W))
            have hyl := hpy y (by simp)
            simp only [List.getD_eq_getElem?_getD] at hrc
            simp at hrc
            clear hSP hpy hne h2
            go_upto_region 12 with (go_at_call 107; refine (HSP.out _).mono ?_; rintro e w3 ⟨g, cg, rfl, hcg, hg, c0, c1, b3⟩)
            have z3 := b3.size
            have hZ3 := hZr.below b3
            have hN3 := HN.out.below b3
            have bw3 : Below w.heap.size w w3 := bwr.trans (b3.mono (by omega))
            have b23 : Below w2.heap.size w2 w3 := hb.trans (b3.mono (by omega))
            have e1 := fun Y => ((hWr.below b3).ext' Y).cell hww
            have e2 : ∀ Y, (ext w3 Y).cell? ⟨g, 0, none⟩ = some (.string (bs x')) := fun Y => (ext_cell w3 Y (p := ⟨g, 0, none⟩) hg).trans c0
            have e3 : ∀ Y, (ext w3 Y).cell? ⟨g, 1, none⟩ = some (.string (bs y)) := fun Y => (ext_cell w3 Y (p := ⟨g, 1, none⟩) hg).trans c1
            by_cases hxx : x' = x
            · subst hxx
              have q5 : ((bs x').toList == (bs x').toList) = true := by simp
              have hDP := fun W => refParse_any (bs y) 9223372036854775807 W (by rw [bs_size]; omega) (by omega) (by omega)
              rw [bs_data] at hDP
              simp only [true_and] at hrc
              generalize decParse y 9223372036854775807 = pr at *
              obtain ⟨n, is⟩ := pr
              simp only at hDP hrc
              have HDP := Lib.hid hDP
              refine wp_region_ext (by kernel_rfl) (by kernel_rfl) ?_
              repeat (go_big_quiet_step (fail))
              refine wpQuiet_nil ?_
              first | (intro _ hw'; obtain ⟨u, hw''⟩ := hw'; subst hw'') | intro u
              have hZy := hZ3.ext' u
              have hNy := hN3.ext' u
              have bwy : Below w.heap.size w (ext w3 u) := bw3.trans ((ext_below _ _).mono (by omega))
              have b2y : Below w2.heap.size w2 (ext w3 u) := b23.trans ((ext_below _ _).mono (by omega))
              have zy := b2y.size
              have e4 := e3 u
              clear hDP e1 e2 e3
              cases is with
              | false =>
                have HS := Lib.hid (HSTP.out (Or.inr ⟨l, hll, by rw [hrc]; simp⟩))
                go_wp2_with (first | (go_at_call 108; (with_reducible refine (HDP.out _).mono ?_); rintro e w5 ⟨rfl, b5⟩; have z5 := b5.size) | (refine list_store_blk rfl 70 _ _ rfl (w.heap.size) _ _ 70 (hZy.below b5) rfl rfl (by kernel_rfl) rfl (by simp [Value.oneCell']) w.heap.size w (bwy.trans (b5.mono (by omega))) (by omega) ?_; intro wz hOz hothz hszz bwz))
                exact bodyPost_ret (results_cell3 rfl rfl (hOz.loadVar Try.underlying70 (by kernel_rfl)) rfl rfl) rfl ⟨by rw [HS.out]; rfl, bwz⟩
              | true =>
                have HS := Lib.hid (HSN.out n (by rw [hrc]; simp))
                go_upto_region 15 with (go_at_call 108; (with_reducible refine (HDP.out _).mono ?_); rintro e w5 ⟨rfl, b5⟩; have z5 := b5.size)
                have hN5 := hNy.below b5
                have n1 := hN5.cell (nArr_at hk2)
                have n2 := hN5.frozen
                have n3 := hN5.lt
                have HNS := Lib.hid (hN5.set xs.length (iv64 n))
                rw [nArr_set hk2 n] at HNS
                unfold iv64 at n1
                have b25 : Below w2.heap.size w2 w5 := b2y.trans (b5.mono (by omega))
                go_wp2_with fail
                go_roundw
                case rel => exact ⟨xs ++ [n], by simp; omega, by simp, HS.out, HNS.out, b25.setCell (p := ⟨w2.heap.size, xs.length, none⟩) (Nat.le_refl _) _⟩
                case measure => simp [intOf]; omega
            · have q5 : ((bs x').toList == (bs x).toList) = false := by rw [bs_toL, bs_toL]; simpa using hxx
              have HS := Lib.hid (HSTP.out (Or.inr ⟨l, hll, by rw [hrc, if_neg (fun c => hxx c.1)]⟩))
              refine wp_region_ext (by kernel_rfl) (by kernel_rfl) ?_
              repeat (go_big_quiet_step (fail))
              refine wpQuiet_nil ?_
              first | (intro _ hw'; obtain ⟨u, hw''⟩ := hw'; subst hw'') | intro u
              have hZy := hZ3.ext' u
              have bwy : Below w.heap.size w (ext w3 u) := bw3.trans ((ext_below _ _).mono (by omega))
              go_wp2_with (refine list_store_blk rfl 70 _ _ rfl (w.heap.size) _ _ 70 hZy rfl rfl (by kernel_rfl) rfl (by simp [Value.oneCell']) w.heap.size w bwy (by omega) ?_; intro wz hOz hothz hszz bwz)
              exact bodyPost_ret (results_cell3 rfl rfl (hOz.loadVar Try.underlying70 (by kernel_rfl)) rfl rfl) rfl ⟨by rw [HS.out]; rfl, bwz⟩
          · have q4 : ((S.length : Int) != 2) = true := by rw [bne_iff_ne]; omega
            have HSP := Lib.hid (fun W => cf_len hne (hSP W))
            have HS := Lib.hid (HSTP.out (Or.inr ⟨l, hll, by rw [hrc, if_neg (fun c => h2 c.1)]⟩))
            clear hSP hrc hpy hne
            go_upto_region 12 with (go_at_call 107; refine (HSP.out _).mono ?_; rintro e w3 ⟨g, cg, rfl, b3⟩)
            have z3 := b3.size
            have hZ3 := hZr.below b3
            have bw3 : Below w.heap.size w w3 := bwr.trans (b3.mono (by omega))
            refine wp_region_ext (by kernel_rfl) (by kernel_rfl) ?_
            repeat (go_big_quiet_step (fail))
            refine wpQuiet_nil ?_
            first | (intro _ hw'; obtain ⟨u, hw''⟩ := hw'; subst hw'') | intro u
            have hZy := hZ3.ext' u
            have bwy : Below w.heap.size w (ext w3 u) := bw3.trans ((ext_below _ _).mono (by omega))
            go_wp2_with (refine list_store_blk rfl 70 _ _ rfl (w.heap.size) _ _ 70 hZy rfl rfl (by kernel_rfl) rfl (by simp [Value.oneCell']) w.heap.size w bwy (by omega) ?_; intro wz hOz hothz hszz bwz)
            exact bodyPost_ret (results_cell3 rfl rfl (hOz.loadVar Try.underlying70 (by kernel_rfl)) rfl rfl) rfl ⟨by rw [HS.out]; rfl, bwz⟩
        · have q2 : (L.length : Int) ≤ (xs.length : Int) := by omega
          have HS := Lib.hid (HSTOP.out xs HT.out hk2 (Or.inl (List.getElem?_eq_none hl)))
          go_wp2_with (refine list_store_blk rfl 70 _ _ rfl (w.heap.size) _ _ 70 hZr rfl rfl (by kernel_rfl) rfl (by simp [Value.oneCell']) w.heap.size w bwr (by omega) ?_; intro wz hOz hothz hszz bwz)
          exact bodyPost_ret (results_cell3 rfl rfl (hOz.loadVar Try.underlying70 (by kernel_rfl)) rfl rfl) rfl ⟨by rw [HS.out]; rfl, bwz⟩
      · have h16 : xs.length = 16 := by omega
        obtain ⟨a0, a1, a2, a3, a4, a5, a6, a7, a8, a9, a10, a11, a12, a13, a14, a15, rfl⟩ : ∃ a0 a1 a2 a3 a4 a5 a6 a7 a8 a9 a10 a11 a12 a13 a14 a15, xs = [a0, a1, a2, a3, a4, a5, a6, a7, a8, a9, a10, a11, a12, a13, a14, a15] := by
          match xs, h16 with
          | [a0, a1, a2, a3, a4, a5, a6, a7, a8, a9, a10, a11, a12, a13, a14, a15], _ => exact ⟨_, _, _, _, _, _, _, _, _, _, _, _, _, _, _, _, rfl⟩
        have hNr : BlockIs wr w2.heap.size [.int .i64 a0, .int .i64 a1, .int .i64 a2, .int .i64 a3, .int .i64 a4, .int .i64 a5, .int .i64 a6, .int .i64 a7, .int .i64 a8, .int .i64 a9, .int .i64 a10, .int .i64 a11, .int .i64 a12, .int .i64 a13, .int .i64 a14, .int .i64 a15] 119 := HN.out
        have h5 : 0 ≤ a5 ∧ a5 ≤ 9223372036854775807 := rdTo_five HT.out rfl
        have hg := HALL.out _ HT.out rfl
        unfold cfDone at hg
        have hc : (cfOf fun i => [a0, a1, a2, a3, a4, a5, a6, a7, a8, a9, a10, a11, a12, a13, a14, a15].getD i 0) = ⟨a0, a1, a2, a3, a4, a5.toNat, a6, a7, a8, a9, a10, a11, a12, a13, a14, a15⟩ := rfl
        rw [hc] at hg
        clear hc HT HN HALL HSTOP HPL
        have hCR := fun w => refCfRight_any ⟨a0, a1, a2, a3, a4, a5.toNat, a6, a7, a8, a9, a10, a11, a12, a13, a14, a15⟩ w
        simp only [Int.toNat_of_nonneg h5.1] at hCR
        have hw5 : IntKind.u64.wrap a5 = a5 := by rw [wrap_u64]; omega
        have q1 : ¬ (([a0, a1, a2, a3, a4, a5, a6, a7, a8, a9, a10, a11, a12, a13, a14, a15] : List Int).length : Int) < 16 := by simp
        simp only [List.length_cons, List.length_nil] at q1 ⊢
        rcases Nat.lt_or_ge 16 L.length with hl | hl
        · have q2 : (16 : Int) < (L.length : Int) := by omega
          rw [decide_eq_true hl, if_pos rfl] at hg
          have HG := Lib.hid hg
          clear hg hCR
          go_wp2_with (refine list_store_blk rfl 70 _ _ rfl (w.heap.size) _ _ 70 hZr rfl rfl (by kernel_rfl) rfl (by simp [Value.oneCell']) w.heap.size w bwr (by omega) ?_; intro wz hOz hothz hszz bwz)
          exact bodyPost_ret (results_cell3 rfl rfl (hOz.loadVar Try.underlying70 (by kernel_rfl)) rfl rfl) rfl ⟨by rw [HG.out]; first | rfl | (simp only [Int.toNat_of_nonneg h5.1]; rfl), bwz⟩
        · have q2 : ¬ (16 : Int) < (L.length : Int) := by omega
          rw [decide_eq_false (by omega), if_neg (by simp)] at hg
          have n0 := hNr.cell (i := 0) rfl
          have n1 := hNr.cell (i := 1) rfl
          have n2 := hNr.cell (i := 2) rfl
          have n3 := hNr.cell (i := 3) rfl
          have n4 := hNr.cell (i := 4) rfl
          have n5 := hNr.cell (i := 5) rfl
          have n6 := hNr.cell (i := 6) rfl
          have n7 := hNr.cell (i := 7) rfl
          have n8 := hNr.cell (i := 8) rfl
          have n9 := hNr.cell (i := 9) rfl
          have n10 := hNr.cell (i := 10) rfl
          have n11 := hNr.cell (i := 11) rfl
          have n12 := hNr.cell (i := 12) rfl
          have n13 := hNr.cell (i := 13) rfl
          have n14 := hNr.cell (i := 14) rfl
          have n15 := hNr.cell (i := 15) rfl
          have nf := hNr.frozen
          have nl := hNr.lt
          go_upto_region 21 with (refine list_store_blk rfl 70 _ _ rfl (wr.heap.size) _ _ 70 (BlockIs.newAt' _ _ _ rfl) rfl rfl (by kernel_rfl) rfl (by simp [Value.oneCell']) w.heap.size w (bwr.alloc (by omega) _) (by omega) ?_; intro w5 hO5 hoth5 hsz5 bw5)
          have z5 := bw5.size
          have hN5 := hoth5 w2.heap.size _ _ (by omega) (hNr.alloc' _)
          have hZ5 := hoth5 w.heap.size _ _ (by omega) (hZr.alloc' _)
          clear hoth5 n0 n1 n2 n3 n4 n5 n6 n7 n8 n9 n10 n11 n12 n13 n14 n15 nf nl
          have m6 := hN5.cell (i := 6) rfl
          have m7 := hN5.cell (i := 7) rfl
          have m8 := hN5.cell (i := 8) rfl
          have m9 := hN5.cell (i := 9) rfl
          have m10 := hN5.cell (i := 10) rfl
          have m11 := hN5.cell (i := 11) rfl
          have m12 := hN5.cell (i := 12) rfl
          have m13 := hN5.cell (i := 13) rfl
          have m14 := hN5.cell (i := 14) rfl
          have m15 := hN5.cell (i := 15) rfl
          have mf := hN5.frozen
          have ml := hN5.lt
          have p6 := hO5.cell (i := 6) rfl
          have p7 := hO5.cell (i := 7) rfl
          have p8 := hO5.cell (i := 8) rfl
          have p9 := hO5.cell (i := 9) rfl
          have p10 := hO5.cell (i := 10) rfl
          have p11 := hO5.cell (i := 11) rfl
          have p12 := hO5.cell (i := 12) rfl
          have p13 := hO5.cell (i := 13) rfl
          have p14 := hO5.cell (i := 14) rfl
          have p15 := hO5.cell (i := 15) rfl
          have pf := hO5.frozen
          have pl := hO5.lt
          go_upto_region 28 with fail
          go_name_world WWx hWWx
          have hO6 : BlockIs WWx wr.heap.size [.int .i64 a0, .int .i64 a1, .int .i64 a2, .int .i64 a3, .int .i64 a4, .int .u64 a5, .int .i64 a6, .int .i64 a7, .int .i64 a8, .int .i64 a9, .int .i64 a10, .int .i64 a11, .int .i64 a12, .int .i64 a13, .int .i64 a14, .int .i64 a15] 70 := by subst hWWx; exact ((((((((((hO5).set 6 _).set 7 _).set 8 _).set 9 _).set 10 _).set 11 _).set 12 _).set 13 _).set 14 _).set 15 _
          have hZ6 : BlockIs WWx w.heap.size [.int .i64 0, .int .i64 0, .int .i64 0, .int .i64 0, .int .i64 0, .int .u64 0, .int .i64 0, .int .i64 0, .int .i64 0, .int .i64 0, .int .i64 0, .int .i64 0, .int .i64 0, .int .i64 0, .int .i64 0, .int .i64 0] 70 := by
            subst hWWx
            iterate 10 refine BlockIs.other ?_ (by show wr.heap.size ≠ w.heap.size; omega) _
            exact hZ5
          have bw6 : Below w.heap.size w WWx := by subst hWWx; (repeat (first | with_reducible assumption | with_reducible exact Below.refl _ _ | with_reducible refine Below.setCell ?_ (by first | omega | (simp; done) | (simp; omega)) _ | with_reducible refine Below.alloc ?_ (by first | omega | (simp; done) | (simp; omega)) _ | with_reducible refine Below.drew ?_ | (with_reducible refine Below.trans ?_ (Below.mono (by with_reducible assumption) (by first | omega | (simp; done) | (simp; omega)))) | (refine Below.trans ?_ (Below.mono (by assumption) (by first | omega | (simp; done) | (simp; omega))))))
          have z6 := bw6.size
          clear hWWx hO5 hN5 hZ5 m6 m7 m8 m9 m10 m11 m12 m13 m14 m15 mf ml p6 p7 p8 p9 p10 p11 p12 p13 p14 p15 pf pl
          cases hr : cfRight ⟨a0, a1, a2, a3, a4, a5.toNat, a6, a7, a8, a9, a10, a11, a12, a13, a14, a15⟩ with
          | false =>
            rw [hr, if_neg (by simp)] at hg
            rw [hr] at hCR
            have HG := Lib.hid hg
            have HCR := Lib.hid hCR
            clear hg hCR hr
            go_wp2_with (first | (refine list_load_blk rfl _ _ rfl _ _ _ hO6 rfl Try.underlying70 (by kernel_rfl) ?_) | (go_at_call 50; (with_reducible refine (HCR.out _).mono ?_); rintro e w7 ⟨rfl, b7⟩; have z7 := b7.size) | (refine list_load_blk rfl _ _ rfl _ _ _ (hO6.below b7) rfl Try.underlying70 (by kernel_rfl) ?_) | (refine list_store_blk rfl 70 _ _ rfl (w.heap.size) _ _ 70 (hZ6.below b7) rfl rfl (by kernel_rfl) rfl (by simp [Value.oneCell']) w.heap.size w (bw6.trans (b7.mono (by omega))) (by omega) ?_; intro wz hOz hothz hszz bwz))
            exact bodyPost_ret (results_cell3 rfl rfl (hOz.loadVar Try.underlying70 (by kernel_rfl)) rfl rfl) rfl ⟨by rw [HG.out]; first | rfl | (simp only [Int.toNat_of_nonneg h5.1]; rfl), bwz⟩
          | true =>
            rw [hr, if_pos rfl] at hg
            rw [hr] at hCR
            have HG := Lib.hid hg
            have HCR := Lib.hid hCR
            clear hg hCR hr
            go_wp2_with (first | (refine list_load_blk rfl _ _ rfl _ _ _ hO6 rfl Try.underlying70 (by kernel_rfl) ?_) | (go_at_call 50; (with_reducible refine (HCR.out _).mono ?_); rintro e w7 ⟨rfl, b7⟩; have z7 := b7.size) | (refine list_load_blk rfl _ _ rfl _ _ _ (hO6.below b7) rfl Try.underlying70 (by kernel_rfl) ?_) | (refine list_store_blk rfl 70 _ _ rfl (w.heap.size) _ _ 70 (hZ6.below b7) rfl rfl (by kernel_rfl) rfl (by simp [Value.oneCell']) w.heap.size w (bw6.trans (b7.mono (by omega))) (by omega) ?_; intro wz hOz hothz hszz bwz))
            exact bodyPost_ret (results_cell3 rfl rfl (hOz.loadVar Try.underlying70 (by kernel_rfl)) rfl rfl) rfl ⟨by rw [HG.out]; first | rfl | (simp only [Int.toNat_of_nonneg h5.1]; rfl), bwz⟩
end Go.Proofs.Ytnohkfbapibmdaa
