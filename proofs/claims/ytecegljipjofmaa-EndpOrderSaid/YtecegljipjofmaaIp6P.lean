/- The contracts of ipv6's reference: Parse. -/
import Derived.Test.YtecegljipjofmaaIp6H
import Derived.Deep.RegionHeld3
import Derived.Deep.DeepCutAuto
namespace Go.Proofs.Ytecegljipjofmaa
open Go.RowKit

theorem parts_len (l : List UInt8) : (partsL l).length ≤ l.length + 1 := by
  unfold partsL; split
  · simp
  · exact splitL_len 58 l
theorem parts_part (l : List UInt8) : ∀ p ∈ partsL l, p.length ≤ l.length := by
  unfold partsL; split
  · simp
  · exact splitL_part_len 58 l
theorem svs_one (l : List (List UInt8)) : ∀ u ∈ l.map sv, Value.oneCell' u = true := by
  intro u hu; obtain ⟨n, _, rfl⟩ := List.mem_map.1 hu; rfl
set_option maxRecDepth 100000 in
set_option maxHeartbeats 4000000 in
theorem ref6Parse_any (s : ByteArray) (w : World) (hs : s.size ≤ 8000000000000) :
    Calls Try.prog 103 #[.string s] w fun e w' => e = .returned (.tuple #[.int .u64 (v6parse s.data.toList).1, .int .u64 (v6parse s.data.toList).2.1, .bool (v6parse s.data.toList).2.2]) ∧ Below w.heap.size w w' := by
  rw [v6parse_eq]
  obtain ⟨R, hR⟩ : ∃ R, R = refParse6 s.data.toList := ⟨_, rfl⟩
  rw [← hR]
  have hr0 := hR
  unfold refParse6 at hr0
  rw [len_data] at hr0
  by_cases h60 : 60 < s.size
  · rw [if_pos h60] at hr0
    subst hr0; clear hR
    have q1 : (60 : Int) < (s.size : Int) := by omega
    go_enter Try.func103, Try.ntmps103
    go_wp2_with fail
    go_ret3
    exact ⟨rfl, Below.refl _ _⟩
  have q60 : ¬ (60 : Int) < (s.size : Int) := by omega
  rw [if_neg h60] at hr0
  clear hR
  have hgap := fun w => gap_any s w hs
  cases hg : gapO s.data.toList with
  | none =>
    rw [hg] at hr0; simp only at hr0
    have e : gapI s.data.toList = -1 := by unfold gapI; rw [hg]
    rw [e] at hgap
    have hp := fun w => parts_any s w hs
    have pl := parts_len s.data.toList
    have pp := parts_part s.data.toList
    rw [len_data] at pl pp
    generalize partsL s.data.toList = L at *
    have hf := fun v w hv => full_any v L w (by omega) (fun p hp => by have := pp p hp; omega) hv
    have HG := Lib.hid hgap; have HP := Lib.hid hp; have HF := Lib.hid hf; have HR := Lib.hid hr0
    clear hgap hp hf hr0 pp hg e
    go_enter Try.func103, Try.ntmps103
    go_wp2_with (first | (go_at_call 131; refine (HG.out _).mono ?_; rintro e w1 ⟨rfl, rfl⟩) | (go_at_call 133; refine (HP.out _).mono ?_; rintro e w2 ⟨v, rfl, ho, hb⟩) | (go_at_call 132; refine (HF.out _ _ (owns_reads ho)).mono ?_; rintro e w3 ⟨rfl, hb3⟩))
    go_ret3
    exact ⟨by rw [HR.out]; rfl, below2 hb hb3⟩
  | some i =>
    rw [hg] at hr0; simp only at hr0
    obtain ⟨_, _, hi⟩ := gapO_some hg
    rw [len_data] at hi
    have e : gapI s.data.toList = i := by unfold gapI; rw [hg]
    rw [e] at hgap
    have e1 : s.extract 0 i = bs (s.data.toList.take i) := extract_take s i
    have e2 : s.extract (i + 2) s.size = bs (s.data.toList.drop (i + 2)) := extract_drop s (i + 2)
    have hpa := fun w => parts_any (bs (s.data.toList.take i)) w (by rw [bs_size]; simp; omega)
    have hpb := fun w => parts_any (bs (s.data.toList.drop (i + 2))) w (by rw [bs_size]; simp; omega)
    simp only [bs_data] at hpa hpb
    rw [← e1] at hpa; rw [← e2] at hpb
    have la := parts_len (s.data.toList.take i)
    have lb := parts_len (s.data.toList.drop (i + 2))
    have ma := parts_part (s.data.toList.take i)
    have mb := parts_part (s.data.toList.drop (i + 2))
    rw [List.length_take, len_data] at la ma
    rw [List.length_drop, len_data] at lb mb
    generalize partsL (s.data.toList.take i) = pa at *
    generalize partsL (s.data.toList.drop (i + 2)) = pb at *
    have hf := fun k (hk : k ≤ 8) v w hv => full_any v (pa ++ zerosP k ++ pb) w (by simp [zerosP]; omega) (fun p hp => by
      rcases List.mem_append.1 hp with h | h
      · rcases List.mem_append.1 h with h | h
        · have := ma p h; omega
        · rw [List.eq_of_mem_replicate h]; decide
      · have := mb p h; omega) hv
    have q1 : (0 : Int) ≤ (i : Int) := by omega
    have q2 : (i : Int) ≤ (s.size : Int) := by omega
    have q3 : IntKind.i64.wrap ((i : Int) + 2) = (i : Int) + 2 := IntWalk.i64_in _ (by omega)
    have q4 : (i : Int) + 2 ≤ (s.size : Int) := by omega
    have q5 : ((i : Int) + 2).toNat = i + 2 := by omega
    have q6 : (0 : Int) ≤ (i : Int) + 2 := by omega
    have HG := Lib.hid hgap; have HPA := Lib.hid hpa; have HPB := Lib.hid hpb; have HF := Lib.hid hf; have MA := Lib.hid ma
    clear hgap hpa hpb hf ma mb hg e e1 e2
    have h3 : (¬ (0 : Int) < (pa.length : Int)) ∨ ((0 : Int) < (pa.length : Int) ∧ ((pb.length : Int) == 0) = false) ∨ ((0 : Int) < (pa.length : Int) ∧ ((pb.length : Int) == 0) = true) := by
      by_cases h : pa.length = 0
      · exact Or.inl (by omega)
      · by_cases h2 : pb.length = 0
        · exact Or.inr (Or.inr ⟨by omega, by rw [h2]; rfl⟩)
        · exact Or.inr (Or.inl ⟨by omega, by rw [beq_eq_false_iff_ne]; omega⟩)
    by_cases hlast : (0 : Int) < (pa.length : Int) ∧ ((pb.length : Int) == 0) = true
    · obtain ⟨n1, n2⟩ := hlast
      have n3 : 0 < pa.length := by omega
      have hpe : pb = [] := by rw [beq_iff_eq] at n2; exact List.eq_nil_of_length_eq_zero (by omega)
      have hla : ∃ p, pa[pa.length - 1]? = some p ∧ pa.getLastD [] = p ∧ p.length ≤ 1000 := by
        have hl : pa.length - 1 < pa.length := by omega
        refine ⟨pa[pa.length - 1], List.getElem?_eq_getElem hl, ?_, by have := MA.out _ (List.getElem_mem hl); omega⟩
        rw [List.getLastD_eq_getLast?, List.getLast?_eq_getElem?, List.getElem?_eq_getElem hl]; rfl
      obtain ⟨p, ep, ed, epl⟩ := hla
      have hph := fun w => refParseHex_any (bs p) w (by rw [bs_size]; omega)
      rw [ed] at hr0
      simp only [bs_data] at hph
      generalize (hexParse p).1 = hx at *
      cases hok : (hexParse p).2 with
      | false =>
        rw [hok] at hph hr0
        rw [if_pos ⟨by intro h; rw [h] at n1; simp at n1, hpe, rfl⟩] at hr0
        have HPH := Lib.hid hph; have EP := Lib.hid ep; have HR := Lib.hid hr0; clear hph ep hr0 h3 hpe
        go_enter Try.func103, Try.ntmps103
        go_wp2_with (first | (go_at_call 131; refine (HG.out _).mono ?_; rintro e w1 ⟨rfl, rfl⟩))
        go_region_held3 (fun w' => True) (first | go_keep | trivial) (first | (go_at_call 133; (with_reducible refine (HPA.out _).mono ?_); rintro e w1 ⟨v1, rfl, ho1, hb1⟩) | (go_at_call 133; (with_reducible refine (HPB.out _).mono ?_); rintro e w2 ⟨v2, rfl, ho2, hb2⟩))
        obtain ⟨ga, ca, rfl, _⟩ := owns_some ho1 (by omega)
        obtain ⟨a2, c2, rfl⟩ := owns_slice ho2
        have q8 : (pa.length : Int) - 1 = ((pa.length - 1 : Nat) : Int) := by omega
        have c1 : w2.cell? ⟨ga, pa.length - 1, none⟩ = some (.string (bs p)) := (owns_below ho1 hb2).cellAt (pa.length - 1) (by omega) |>.trans (by rw [List.getElem?_map, EP.out]; rfl)
        go_wp2_with (go_at_call 134; refine (HPH.out _).mono ?_; rintro e w3 ⟨rfl, rfl⟩)
        go_ret3
        exact ⟨by rw [HR.out]; rfl, below2 (Below.trans (Below.refl _ _).drew hb1) hb2⟩
      | true =>
        rw [hok] at hph hr0
        rw [if_neg (fun h => by cases h.2.2)] at hr0
        have HPH := Lib.hid hph; have EP := Lib.hid ep; have HR := Lib.hid hr0; clear hph ep hr0 h3 hpe
        go_enter Try.func103, Try.ntmps103
        go_wp2_with (first | (go_at_call 131; refine (HG.out _).mono ?_; rintro e w1 ⟨rfl, rfl⟩))
        go_region_held3 (fun w' => True) (first | go_keep | trivial) (first | (go_at_call 133; (with_reducible refine (HPA.out _).mono ?_); rintro e w1 ⟨v1, rfl, ho1, hb1⟩) | (go_at_call 133; (with_reducible refine (HPB.out _).mono ?_); rintro e w2 ⟨v2, rfl, ho2, hb2⟩))
        obtain ⟨a2, c2, rfl⟩ := owns_slice ho2
        have hB2 : Below w.heap.size w w2 := below2 (Below.trans (Below.refl _ _).drew hb1) hb2
        obtain ⟨ga, ca, rfl, _⟩ := owns_some ho1 (by omega)
        have q8 : (pa.length : Int) - 1 = ((pa.length - 1 : Nat) : Int) := by omega
        have c1 : w2.cell? ⟨ga, pa.length - 1, none⟩ = some (.string (bs p)) := (owns_below ho1 hb2).cellAt (pa.length - 1) (by omega) |>.trans (by rw [List.getElem?_map, EP.out]; rfl)
        go_wp2_with (go_at_call 134; refine (HPH.out _).mono ?_; rintro e w3 ⟨rfl, rfl⟩)
        clear c1
        go_loopw [10] (fun x wr => ∃ k : Nat, x = .int .i64 k ∧ 1 ≤ k ∧ k ≤ 9 ∧ Below w2.heap.size w2 wr ∧ Hid (R = refTry pa pb (9 - k) k)) (fun x _ => 9 - (intOf x).toNat)
        case atStart => exact ⟨1, rfl, by omega, by omega, Below.refl _ _, HR.out⟩
        case round =>
          obtain ⟨k, rfl, hk1, hk9, hb, HK⟩ := hrel
          have hbw : Below w.heap.size w wr := below2 hB2 hb
          have hzw := hb.size
          have hz1 := hb1.size
          have hz2 := hb2.size
          have hzw0 := hbw.size
          by_cases hk8 : k ≤ 8
          · have hst := HK.out
            rw [show 9 - k = (9 - (k + 1)) + 1 from by omega] at hst
            unfold refTry at hst
            have RA := Lib.hid (Reads.below (Reads.below (owns_reads ho1) hb2) hb)
            have RB := Lib.hid (Reads.below (owns_reads ho2) hb)
            have hfk := HF.out k hk8
            obtain ⟨wo, rfl⟩ : ∃ wo : World, wo = wr := ⟨_, rfl⟩
            have OA : (wo.alloc (.cells #[] 9)).drew.ownsRow wo.heap.size 9 1 (.slice (some ⟨wo.heap.size, 0, none⟩) 0 0) 0 [] := World.ownsRow_made wo #[] 0 (Nat.le_refl _) (Nat.zero_le _) rfl
            go_wp2_with (at_builtin; refine list_app_reads strRow rfl (.tmp 62) (.tmp 63) rfl wo.heap.size _ 0 [] rfl OA _ pa.length (pa.map sv) rfl (Reads.below RA.out ((Below.refl _ _).alloc (Nat.le_refl _) _)) (svs_one _) (by omega) (by omega) (by simp) wo.heap.size wo ((Below.refl _ _).alloc (Nat.le_refl _) _) (Nat.le_refl _) ?_; intro v' w' hown' hb')
            clear OA
            go_loopw [11, 12] (fun x y wr => ∃ j : Nat, y = .int .i64 j ∧ j ≤ k ∧ Below wo.heap.size wo wr ∧ Hid (wr.ownsRow wo.heap.size 9 1 x (pa.length + j) ((pa ++ zerosP j).map sv))) (fun _ y _ => k - (intOf y).toNat)
            case atStart => exact ⟨0, rfl, by omega, hb', by unfold Hid; have e : 0 + pa.length = pa.length + 0 := by omega
                                                             rw [e] at hown'; simpa [zerosP] using hown'⟩
            case round =>
              obtain ⟨j, rfl, hj, hbj, HO⟩ := hrel
              have hown := HO.out
              have hzj := hbj.size
              by_cases hjk : j < k
              · go_wp2_with (at_builtin; refine list_app strRow rfl (.tmp 70) (.tmp 71) rfl wo.heap.size _ _ _ rfl hown [_] rfl rfl rfl (by omega) (by omega) hzj wo.heap.size wo hbj (Nat.le_refl _) ?_; intro v2 w3 hown2 hb3)
                go_roundw
                case rel =>
                  refine ⟨j + 1, by go_num, by omega, hb3, ?_⟩
                  unfold Hid zerosP
                  rw [List.replicate_succ']
                  have e : (pa ++ (List.replicate j [48] ++ [[48]]) : List (List UInt8)).map sv = (pa ++ zerosP j).map sv ++ [.string ⟨#[48]⟩] := by simp [zerosP]; rfl
                  rw [e, show pa.length + (j + 1) = pa.length + j + 1 from by omega]; exact hown2
                case measure => simp [intOf]; omega
              · obtain rfl : j = k := by omega
                have hlen : (pa ++ zerosP j ++ pb).length = pa.length + j + pb.length := by simp [zerosP]; omega
                have hmap : (pa ++ zerosP j ++ pb).map sv = (pa ++ zerosP j).map sv ++ pb.map sv := by simp
                rw [hlen, hmap] at hfk
                generalize fullL (pa ++ zerosP j ++ pb) = F at *
                obtain ⟨F1, F2, F3⟩ := F
                have HFK := Lib.hid hfk; have HST := Lib.hid hst; clear hfk hst hlen hmap
                cases F3 with
                | true =>
                  go_wp2_with (first | (at_builtin; refine list_app_reads strRow rfl (.tmp 74) (.tmp 75) rfl wo.heap.size _ _ _ rfl hown _ pb.length (pb.map sv) rfl (Reads.below RB.out hbj) (svs_one _) (by omega) (by omega) hzj wo.heap.size wo hbj (Nat.le_refl _) ?_; intro v2 w3 hown2 hb3) | (go_at_call 132; refine (HFK.out _ _ (owns_reads hown2)).mono ?_; rintro e w4 ⟨rfl, hb4⟩))
                  go_ret3
                  exact ⟨by rw [HST.out]; rfl, below2 (below2 hbw hb3) hb4⟩
                | false =>
                  go_wp2_with (first | (at_builtin; refine list_app_reads strRow rfl (.tmp 74) (.tmp 75) rfl wo.heap.size _ _ _ rfl hown _ pb.length (pb.map sv) rfl (Reads.below RB.out hbj) (svs_one _) (by omega) (by omega) hzj wo.heap.size wo hbj (Nat.le_refl _) ?_; intro v2 w3 hown2 hb3) | (go_at_call 132; refine (HFK.out _ _ (owns_reads hown2)).mono ?_; rintro e w4 ⟨rfl, hb4⟩))
                  go_roundw
                  case rel => first | exact ⟨j + 1, by go_num, by omega, by omega, below2 (below2 hb hb3) hb4, by unfold Hid; rw [HST.out]; rfl⟩ | (go_meet; exact ⟨j + 1, by go_num, by omega, by omega, below2 (below2 hb hb3) hb4, by unfold Hid; rw [HST.out]; rfl⟩)
                  case measure => simp [intOf]; omega
          · obtain rfl : k = 9 := by omega
            have hres := HK.out
            go_wp2_with fail
            go_ret3
            exact ⟨by rw [hres]; rfl, hbw⟩
    · have hr1 : R = refTry pa pb 8 1 := by
        rw [hr0, if_neg]
        rintro ⟨h, h', _⟩
        apply hlast
        rw [h']
        refine ⟨?_, rfl⟩
        have := List.length_pos_iff.2 h; omega
      have HR := Lib.hid hr1; clear hr0 hr1
      rcases h3 with n1 | ⟨n1, n2⟩ | h3
      · have n3 : ¬ 0 < pa.length := by omega
        go_enter Try.func103, Try.ntmps103
        go_wp2_with (first | (go_at_call 131; refine (HG.out _).mono ?_; rintro e w1 ⟨rfl, rfl⟩))
        go_region_held3 (fun w' => True) (first | go_keep | trivial) (first | (go_at_call 133; (with_reducible refine (HPA.out _).mono ?_); rintro e w1 ⟨v1, rfl, ho1, hb1⟩) | (go_at_call 133; (with_reducible refine (HPB.out _).mono ?_); rintro e w2 ⟨v2, rfl, ho2, hb2⟩))
        obtain ⟨a2, c2, rfl⟩ := owns_slice ho2
        have hB2 : Below w.heap.size w w2 := below2 (Below.trans (Below.refl _ _).drew hb1) hb2
        obtain ⟨a1, ca, rfl⟩ := owns_slice ho1
        go_wp2_with fail
        go_loopw [10] (fun x wr => ∃ k : Nat, x = .int .i64 k ∧ 1 ≤ k ∧ k ≤ 9 ∧ Below w2.heap.size w2 wr ∧ Hid (R = refTry pa pb (9 - k) k)) (fun x _ => 9 - (intOf x).toNat)
        case atStart => exact ⟨1, rfl, by omega, by omega, Below.refl _ _, HR.out⟩
        case round =>
          obtain ⟨k, rfl, hk1, hk9, hb, HK⟩ := hrel
          have hbw : Below w.heap.size w wr := below2 hB2 hb
          have hzw := hb.size
          have hz1 := hb1.size
          have hz2 := hb2.size
          have hzw0 := hbw.size
          by_cases hk8 : k ≤ 8
          · have hst := HK.out
            rw [show 9 - k = (9 - (k + 1)) + 1 from by omega] at hst
            unfold refTry at hst
            have RA := Lib.hid (Reads.below (Reads.below (owns_reads ho1) hb2) hb)
            have RB := Lib.hid (Reads.below (owns_reads ho2) hb)
            have hfk := HF.out k hk8
            obtain ⟨wo, rfl⟩ : ∃ wo : World, wo = wr := ⟨_, rfl⟩
            have OA : (wo.alloc (.cells #[] 9)).drew.ownsRow wo.heap.size 9 1 (.slice (some ⟨wo.heap.size, 0, none⟩) 0 0) 0 [] := World.ownsRow_made wo #[] 0 (Nat.le_refl _) (Nat.zero_le _) rfl
            go_wp2_with (at_builtin; refine list_app_reads strRow rfl (.tmp 62) (.tmp 63) rfl wo.heap.size _ 0 [] rfl OA _ pa.length (pa.map sv) rfl (Reads.below RA.out ((Below.refl _ _).alloc (Nat.le_refl _) _)) (svs_one _) (by omega) (by omega) (by simp) wo.heap.size wo ((Below.refl _ _).alloc (Nat.le_refl _) _) (Nat.le_refl _) ?_; intro v' w' hown' hb')
            clear OA
            go_loopw [11, 12] (fun x y wr => ∃ j : Nat, y = .int .i64 j ∧ j ≤ k ∧ Below wo.heap.size wo wr ∧ Hid (wr.ownsRow wo.heap.size 9 1 x (pa.length + j) ((pa ++ zerosP j).map sv))) (fun _ y _ => k - (intOf y).toNat)
            case atStart => exact ⟨0, rfl, by omega, hb', by unfold Hid; have e : 0 + pa.length = pa.length + 0 := by omega
                                                             rw [e] at hown'; simpa [zerosP] using hown'⟩
            case round =>
              obtain ⟨j, rfl, hj, hbj, HO⟩ := hrel
              have hown := HO.out
              have hzj := hbj.size
              by_cases hjk : j < k
              · go_wp2_with (at_builtin; refine list_app strRow rfl (.tmp 70) (.tmp 71) rfl wo.heap.size _ _ _ rfl hown [_] rfl rfl rfl (by omega) (by omega) hzj wo.heap.size wo hbj (Nat.le_refl _) ?_; intro v2 w3 hown2 hb3)
                go_roundw
                case rel =>
                  refine ⟨j + 1, by go_num, by omega, hb3, ?_⟩
                  unfold Hid zerosP
                  rw [List.replicate_succ']
                  have e : (pa ++ (List.replicate j [48] ++ [[48]]) : List (List UInt8)).map sv = (pa ++ zerosP j).map sv ++ [.string ⟨#[48]⟩] := by simp [zerosP]; rfl
                  rw [e, show pa.length + (j + 1) = pa.length + j + 1 from by omega]; exact hown2
                case measure => simp [intOf]; omega
              · obtain rfl : j = k := by omega
                have hlen : (pa ++ zerosP j ++ pb).length = pa.length + j + pb.length := by simp [zerosP]; omega
                have hmap : (pa ++ zerosP j ++ pb).map sv = (pa ++ zerosP j).map sv ++ pb.map sv := by simp
                rw [hlen, hmap] at hfk
                generalize fullL (pa ++ zerosP j ++ pb) = F at *
                obtain ⟨F1, F2, F3⟩ := F
                have HFK := Lib.hid hfk; have HST := Lib.hid hst; clear hfk hst hlen hmap
                cases F3 with
                | true =>
                  go_wp2_with (first | (at_builtin; refine list_app_reads strRow rfl (.tmp 74) (.tmp 75) rfl wo.heap.size _ _ _ rfl hown _ pb.length (pb.map sv) rfl (Reads.below RB.out hbj) (svs_one _) (by omega) (by omega) hzj wo.heap.size wo hbj (Nat.le_refl _) ?_; intro v2 w3 hown2 hb3) | (go_at_call 132; refine (HFK.out _ _ (owns_reads hown2)).mono ?_; rintro e w4 ⟨rfl, hb4⟩))
                  go_ret3
                  exact ⟨by rw [HST.out]; rfl, below2 (below2 hbw hb3) hb4⟩
                | false =>
                  go_wp2_with (first | (at_builtin; refine list_app_reads strRow rfl (.tmp 74) (.tmp 75) rfl wo.heap.size _ _ _ rfl hown _ pb.length (pb.map sv) rfl (Reads.below RB.out hbj) (svs_one _) (by omega) (by omega) hzj wo.heap.size wo hbj (Nat.le_refl _) ?_; intro v2 w3 hown2 hb3) | (go_at_call 132; refine (HFK.out _ _ (owns_reads hown2)).mono ?_; rintro e w4 ⟨rfl, hb4⟩))
                  go_roundw
                  case rel => first | exact ⟨j + 1, by go_num, by omega, by omega, below2 (below2 hb hb3) hb4, by unfold Hid; rw [HST.out]; rfl⟩ | (go_meet; exact ⟨j + 1, by go_num, by omega, by omega, below2 (below2 hb hb3) hb4, by unfold Hid; rw [HST.out]; rfl⟩)
                  case measure => simp [intOf]; omega
          · obtain rfl : k = 9 := by omega
            have hres := HK.out
            go_wp2_with fail
            go_ret3
            exact ⟨by rw [hres]; rfl, hbw⟩
      · have n3 : 0 < pa.length := by omega
        go_enter Try.func103, Try.ntmps103
        go_wp2_with (first | (go_at_call 131; refine (HG.out _).mono ?_; rintro e w1 ⟨rfl, rfl⟩))
        go_region_held3 (fun w' => True) (first | go_keep | trivial) (first | (go_at_call 133; (with_reducible refine (HPA.out _).mono ?_); rintro e w1 ⟨v1, rfl, ho1, hb1⟩) | (go_at_call 133; (with_reducible refine (HPB.out _).mono ?_); rintro e w2 ⟨v2, rfl, ho2, hb2⟩))
        obtain ⟨a2, c2, rfl⟩ := owns_slice ho2
        have hB2 : Below w.heap.size w w2 := below2 (Below.trans (Below.refl _ _).drew hb1) hb2
        obtain ⟨a1, ca, rfl⟩ := owns_slice ho1
        go_wp2_with fail
        go_loopw [10] (fun x wr => ∃ k : Nat, x = .int .i64 k ∧ 1 ≤ k ∧ k ≤ 9 ∧ Below w2.heap.size w2 wr ∧ Hid (R = refTry pa pb (9 - k) k)) (fun x _ => 9 - (intOf x).toNat)
        case atStart => exact ⟨1, rfl, by omega, by omega, Below.refl _ _, HR.out⟩
        case round =>
          obtain ⟨k, rfl, hk1, hk9, hb, HK⟩ := hrel
          have hbw : Below w.heap.size w wr := below2 hB2 hb
          have hzw := hb.size
          have hz1 := hb1.size
          have hz2 := hb2.size
          have hzw0 := hbw.size
          by_cases hk8 : k ≤ 8
          · have hst := HK.out
            rw [show 9 - k = (9 - (k + 1)) + 1 from by omega] at hst
            unfold refTry at hst
            have RA := Lib.hid (Reads.below (Reads.below (owns_reads ho1) hb2) hb)
            have RB := Lib.hid (Reads.below (owns_reads ho2) hb)
            have hfk := HF.out k hk8
            obtain ⟨wo, rfl⟩ : ∃ wo : World, wo = wr := ⟨_, rfl⟩
            have OA : (wo.alloc (.cells #[] 9)).drew.ownsRow wo.heap.size 9 1 (.slice (some ⟨wo.heap.size, 0, none⟩) 0 0) 0 [] := World.ownsRow_made wo #[] 0 (Nat.le_refl _) (Nat.zero_le _) rfl
            go_wp2_with (at_builtin; refine list_app_reads strRow rfl (.tmp 62) (.tmp 63) rfl wo.heap.size _ 0 [] rfl OA _ pa.length (pa.map sv) rfl (Reads.below RA.out ((Below.refl _ _).alloc (Nat.le_refl _) _)) (svs_one _) (by omega) (by omega) (by simp) wo.heap.size wo ((Below.refl _ _).alloc (Nat.le_refl _) _) (Nat.le_refl _) ?_; intro v' w' hown' hb')
            clear OA
            go_loopw [11, 12] (fun x y wr => ∃ j : Nat, y = .int .i64 j ∧ j ≤ k ∧ Below wo.heap.size wo wr ∧ Hid (wr.ownsRow wo.heap.size 9 1 x (pa.length + j) ((pa ++ zerosP j).map sv))) (fun _ y _ => k - (intOf y).toNat)
            case atStart => exact ⟨0, rfl, by omega, hb', by unfold Hid; have e : 0 + pa.length = pa.length + 0 := by omega
                                                             rw [e] at hown'; simpa [zerosP] using hown'⟩
            case round =>
              obtain ⟨j, rfl, hj, hbj, HO⟩ := hrel
              have hown := HO.out
              have hzj := hbj.size
              by_cases hjk : j < k
              · go_wp2_with (at_builtin; refine list_app strRow rfl (.tmp 70) (.tmp 71) rfl wo.heap.size _ _ _ rfl hown [_] rfl rfl rfl (by omega) (by omega) hzj wo.heap.size wo hbj (Nat.le_refl _) ?_; intro v2 w3 hown2 hb3)
                go_roundw
                case rel =>
                  refine ⟨j + 1, by go_num, by omega, hb3, ?_⟩
                  unfold Hid zerosP
                  rw [List.replicate_succ']
                  have e : (pa ++ (List.replicate j [48] ++ [[48]]) : List (List UInt8)).map sv = (pa ++ zerosP j).map sv ++ [.string ⟨#[48]⟩] := by simp [zerosP]; rfl
                  rw [e, show pa.length + (j + 1) = pa.length + j + 1 from by omega]; exact hown2
                case measure => simp [intOf]; omega
              · obtain rfl : j = k := by omega
                have hlen : (pa ++ zerosP j ++ pb).length = pa.length + j + pb.length := by simp [zerosP]; omega
                have hmap : (pa ++ zerosP j ++ pb).map sv = (pa ++ zerosP j).map sv ++ pb.map sv := by simp
                rw [hlen, hmap] at hfk
                generalize fullL (pa ++ zerosP j ++ pb) = F at *
                obtain ⟨F1, F2, F3⟩ := F
                have HFK := Lib.hid hfk; have HST := Lib.hid hst; clear hfk hst hlen hmap
                cases F3 with
                | true =>
                  go_wp2_with (first | (at_builtin; refine list_app_reads strRow rfl (.tmp 74) (.tmp 75) rfl wo.heap.size _ _ _ rfl hown _ pb.length (pb.map sv) rfl (Reads.below RB.out hbj) (svs_one _) (by omega) (by omega) hzj wo.heap.size wo hbj (Nat.le_refl _) ?_; intro v2 w3 hown2 hb3) | (go_at_call 132; refine (HFK.out _ _ (owns_reads hown2)).mono ?_; rintro e w4 ⟨rfl, hb4⟩))
                  go_ret3
                  exact ⟨by rw [HST.out]; rfl, below2 (below2 hbw hb3) hb4⟩
                | false =>
                  go_wp2_with (first | (at_builtin; refine list_app_reads strRow rfl (.tmp 74) (.tmp 75) rfl wo.heap.size _ _ _ rfl hown _ pb.length (pb.map sv) rfl (Reads.below RB.out hbj) (svs_one _) (by omega) (by omega) hzj wo.heap.size wo hbj (Nat.le_refl _) ?_; intro v2 w3 hown2 hb3) | (go_at_call 132; refine (HFK.out _ _ (owns_reads hown2)).mono ?_; rintro e w4 ⟨rfl, hb4⟩))
                  go_roundw
                  case rel => first | exact ⟨j + 1, by go_num, by omega, by omega, below2 (below2 hb hb3) hb4, by unfold Hid; rw [HST.out]; rfl⟩ | (go_meet; exact ⟨j + 1, by go_num, by omega, by omega, below2 (below2 hb hb3) hb4, by unfold Hid; rw [HST.out]; rfl⟩)
                  case measure => simp [intOf]; omega
          · obtain rfl : k = 9 := by omega
            have hres := HK.out
            go_wp2_with fail
            go_ret3
            exact ⟨by rw [hres]; rfl, hbw⟩
      · exact absurd h3 hlast
end Go.Proofs.Ytecegljipjofmaa
