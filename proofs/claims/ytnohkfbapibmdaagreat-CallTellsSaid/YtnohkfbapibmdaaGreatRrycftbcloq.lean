/- Texts put together: Ip6P, Addr, AddrB, AddrC, AddrD. No condition. -/
import Derived.Test.YtnohkfbapibmdaaGreatRyngrcshbbd
import Derived.Deep.RegionHeld3
import Derived.Deep.DeepCutAuto
import Derived.Test.YtnohkfbapibmdaaGreatRctlrhhfaal
import Derived.Test.YtnohkfbapibmdaaGreatRjnnyiclkjh
import Derived.Test.YtnohkfbapibmdaaGreatRtcfsoujgbz
import Derived.Test.YtnohkfbapibmdaaGreatRwqesxugwwq
import Derived.Handy
import Derived.Test.YtnohkfbapibmdaaGreatRows
import Derived.WalkKit
import Derived.WalkSpells
import Derived.WalkLawsBesides
import Derived.BigGuardPart
import Derived.BigQuiet
import Derived.Deep.QuietTactic
import Derived.Deep.Light
import Derived.Test.YtnohkfbapibmdaaGreatRrekxwfrmvm
namespace Go.Proofs.YtnohkfbapibmdaaGreat
open Go.RowKit

theorem parts_len (l : List UInt8) : (partsL l).length ≤ l.length + 1 := by
  unfold partsL; split
  · simp
  · exact splitL_len 58 l
theorem parts_part (l : List UInt8) : ∀ p ∈ partsL l, p.length ≤ l.length := by
  unfold partsL; split
  · simp
  · exact splitL_part_len 58 l
theorem svs_one (l : List (List UInt8)) : ∀ u ∈ l.map sv, Value.oneCell' u = true := by
  intro u hu; obtain ⟨n, _, rfl⟩ := List.mem_map.1 hu; rfl
set_option maxRecDepth 100000 in
set_option maxHeartbeats 4000000 in
theorem ref6Parse_any (s : ByteArray) (w : World) (hs : s.size ≤ 8000000000000) :
    Calls Tryz.prog 45 #[.string s] w fun e w' => e = .returned (.tuple #[.int .u64 (v6parse s.data.toList).1, .int .u64 (v6parse s.data.toList).2.1, .bool (v6parse s.data.toList).2.2]) ∧ Below w.heap.size w w' := by
  rw [v6parse_eq]
  obtain ⟨R, hR⟩ : ∃ R, R = refParse6 s.data.toList := ⟨_, rfl⟩
  rw [← hR]
  have hr0 := hR
  unfold refParse6 at hr0
  rw [len_data] at hr0
  by_cases h60 : 60 < s.size
  · rw [if_pos h60] at hr0
    subst hr0; clear hR
    have q1 : (60 : Int) < (s.size : Int) := by omega
    go_enter Tryz.func45, Tryz.ntmps45
    go_wp2_with fail
    go_ret3
    exact ⟨rfl, Below.refl _ _⟩
  have q60 : ¬ (60 : Int) < (s.size : Int) := by omega
  rw [if_neg h60] at hr0
  clear hR
  have hgap := fun w => gap_any s w hs
  cases hg : gapO s.data.toList with
  | none =>
    rw [hg] at hr0; simp only at hr0
    have e : gapI s.data.toList = -1 := by unfold gapI; rw [hg]
    rw [e] at hgap
    have hp := fun w => parts_any s w hs
    have pl := parts_len s.data.toList
    have pp := parts_part s.data.toList
    rw [len_data] at pl pp
    generalize partsL s.data.toList = L at *
    have hf := fun v w hv => full_any v L w (by omega) (fun p hp => by have := pp p hp; omega) hv
    have HG := Lib.hid hgap; have HP := Lib.hid hp; have HF := Lib.hid hf; have HR := Lib.hid hr0
    clear hgap hp hf hr0 pp hg e
    go_enter Tryz.func45, Tryz.ntmps45
    go_wp2_with (first | (go_at_call 79; refine (HG.out _).mono ?_; rintro e w1 ⟨rfl, rfl⟩) | (go_at_call 81; refine (HP.out _).mono ?_; rintro e w2 ⟨v, rfl, ho, hb⟩) | (go_at_call 80; refine (HF.out _ _ (owns_reads ho)).mono ?_; rintro e w3 ⟨rfl, hb3⟩))
    go_ret3
    exact ⟨by rw [HR.out]; rfl, below2 hb hb3⟩
  | some i =>
    rw [hg] at hr0; simp only at hr0
    obtain ⟨_, _, hi⟩ := gapO_some hg
    rw [len_data] at hi
    have e : gapI s.data.toList = i := by unfold gapI; rw [hg]
    rw [e] at hgap
    have e1 : s.extract 0 i = bs (s.data.toList.take i) := extract_take s i
    have e2 : s.extract (i + 2) s.size = bs (s.data.toList.drop (i + 2)) := extract_drop s (i + 2)
    have hpa := fun w => parts_any (bs (s.data.toList.take i)) w (by rw [bs_size]; simp; omega)
    have hpb := fun w => parts_any (bs (s.data.toList.drop (i + 2))) w (by rw [bs_size]; simp; omega)
    simp only [bs_data] at hpa hpb
    rw [← e1] at hpa; rw [← e2] at hpb
    have la := parts_len (s.data.toList.take i)
    have lb := parts_len (s.data.toList.drop (i + 2))
    have ma := parts_part (s.data.toList.take i)
    have mb := parts_part (s.data.toList.drop (i + 2))
    rw [List.length_take, len_data] at la ma
    rw [List.length_drop, len_data] at lb mb
    generalize partsL (s.data.toList.take i) = pa at *
    generalize partsL (s.data.toList.drop (i + 2)) = pb at *
    have hf := fun k (hk : k ≤ 8) v w hv => full_any v (pa ++ zerosP k ++ pb) w (by simp [zerosP]; omega) (fun p hp => by
      rcases List.mem_append.1 hp with h | h
      · rcases List.mem_append.1 h with h | h
        · have := ma p h; omega
        · rw [List.eq_of_mem_replicate h]; decide
      · have := mb p h; omega) hv
    have q1 : (0 : Int) ≤ (i : Int) := by omega
    have q2 : (i : Int) ≤ (s.size : Int) := by omega
    have q3 : IntKind.i64.wrap ((i : Int) + 2) = (i : Int) + 2 := IntWalk.i64_in _ (by omega)
    have q4 : (i : Int) + 2 ≤ (s.size : Int) := by omega
    have q5 : ((i : Int) + 2).toNat = i + 2 := by omega
    have q6 : (0 : Int) ≤ (i : Int) + 2 := by omega
    have HG := Lib.hid hgap; have HPA := Lib.hid hpa; have HPB := Lib.hid hpb; have HF := Lib.hid hf; have MA := Lib.hid ma
    clear hgap hpa hpb hf ma mb hg e e1 e2
    have h3 : (¬ (0 : Int) < (pa.length : Int)) ∨ ((0 : Int) < (pa.length : Int) ∧ ((pb.length : Int) == 0) = false) ∨ ((0 : Int) < (pa.length : Int) ∧ ((pb.length : Int) == 0) = true) := by
      by_cases h : pa.length = 0
      · exact Or.inl (by omega)
      · by_cases h2 : pb.length = 0
        · exact Or.inr (Or.inr ⟨by omega, by rw [h2]; rfl⟩)
        · exact Or.inr (Or.inl ⟨by omega, by rw [beq_eq_false_iff_ne]; omega⟩)
    by_cases hlast : (0 : Int) < (pa.length : Int) ∧ ((pb.length : Int) == 0) = true
    · obtain ⟨n1, n2⟩ := hlast
      have n3 : 0 < pa.length := by omega
      have hpe : pb = [] := by rw [beq_iff_eq] at n2; exact List.eq_nil_of_length_eq_zero (by omega)
      have hla : ∃ p, pa[pa.length - 1]? = some p ∧ pa.getLastD [] = p ∧ p.length ≤ 1000 := by
        have hl : pa.length - 1 < pa.length := by omega
        refine ⟨pa[pa.length - 1], List.getElem?_eq_getElem hl, ?_, by have := MA.out _ (List.getElem_mem hl); omega⟩
        rw [List.getLastD_eq_getLast?, List.getLast?_eq_getElem?, List.getElem?_eq_getElem hl]; rfl
      obtain ⟨p, ep, ed, epl⟩ := hla
      have hph := fun w => refParseHex_any (bs p) w (by rw [bs_size]; omega)
      rw [ed] at hr0
      simp only [bs_data] at hph
      generalize (hexParse p).1 = hx at *
      cases hok : (hexParse p).2 with
      | false =>
        rw [hok] at hph hr0
        rw [if_pos ⟨by intro h; rw [h] at n1; simp at n1, hpe, rfl⟩] at hr0
        have HPH := Lib.hid hph; have EP := Lib.hid ep; have HR := Lib.hid hr0; clear hph ep hr0 h3 hpe
        go_enter Tryz.func45, Tryz.ntmps45
        go_wp2_with (first | (go_at_call 79; refine (HG.out _).mono ?_; rintro e w1 ⟨rfl, rfl⟩))
        go_region_held3 (fun w' => True) (first | go_keep | trivial) (first | (go_at_call 81; (with_reducible refine (HPA.out _).mono ?_); rintro e w1 ⟨v1, rfl, ho1, hb1⟩) | (go_at_call 81; (with_reducible refine (HPB.out _).mono ?_); rintro e w2 ⟨v2, rfl, ho2, hb2⟩))
        obtain ⟨ga, ca, rfl, _⟩ := owns_some ho1 (by omega)
        obtain ⟨a2, c2, rfl⟩ := owns_slice ho2
        have q8 : (pa.length : Int) - 1 = ((pa.length - 1 : Nat) : Int) := by omega
        have c1 : w2.cell? ⟨ga, pa.length - 1, none⟩ = some (.string (bs p)) := (owns_below ho1 hb2).cellAt (pa.length - 1) (by omega) |>.trans (by rw [List.getElem?_map, EP.out]; rfl)
        go_wp2_with (go_at_call 82; refine (HPH.out _).mono ?_; rintro e w3 ⟨rfl, rfl⟩)
        go_ret3
        exact ⟨by rw [HR.out]; rfl, below2 (Below.trans (Below.refl _ _).drew hb1) hb2⟩
      | true =>
        rw [hok] at hph hr0
        rw [if_neg (fun h => by cases h.2.2)] at hr0
        have HPH := Lib.hid hph; have EP := Lib.hid ep; have HR := Lib.hid hr0; clear hph ep hr0 h3 hpe
        go_enter Tryz.func45, Tryz.ntmps45
        go_wp2_with (first | (go_at_call 79; refine (HG.out _).mono ?_; rintro e w1 ⟨rfl, rfl⟩))
        go_region_held3 (fun w' => True) (first | go_keep | trivial) (first | (go_at_call 81; (with_reducible refine (HPA.out _).mono ?_); rintro e w1 ⟨v1, rfl, ho1, hb1⟩) | (go_at_call 81; (with_reducible refine (HPB.out _).mono ?_); rintro e w2 ⟨v2, rfl, ho2, hb2⟩))
        obtain ⟨a2, c2, rfl⟩ := owns_slice ho2
        have hB2 : Below w.heap.size w w2 := below2 (Below.trans (Below.refl _ _).drew hb1) hb2
        obtain ⟨ga, ca, rfl, _⟩ := owns_some ho1 (by omega)
        have q8 : (pa.length : Int) - 1 = ((pa.length - 1 : Nat) : Int) := by omega
        have c1 : w2.cell? ⟨ga, pa.length - 1, none⟩ = some (.string (bs p)) := (owns_below ho1 hb2).cellAt (pa.length - 1) (by omega) |>.trans (by rw [List.getElem?_map, EP.out]; rfl)
        go_wp2_with (go_at_call 82; refine (HPH.out _).mono ?_; rintro e w3 ⟨rfl, rfl⟩)
        clear c1
        go_loopw [10] (fun x wr => ∃ k : Nat, x = .int .i64 k ∧ 1 ≤ k ∧ k ≤ 9 ∧ Below w2.heap.size w2 wr ∧ Hid (R = refTry pa pb (9 - k) k)) (fun x _ => 9 - (intOf x).toNat)
        case atStart => exact ⟨1, rfl, by omega, by omega, Below.refl _ _, HR.out⟩
        case round =>
          obtain ⟨k, rfl, hk1, hk9, hb, HK⟩ := hrel
          have hbw : Below w.heap.size w wr := below2 hB2 hb
          have hzw := hb.size
          have hz1 := hb1.size
          have hz2 := hb2.size
          have hzw0 := hbw.size
          by_cases hk8 : k ≤ 8
          · have hst := HK.out
            rw [show 9 - k = (9 - (k + 1)) + 1 from by omega] at hst
            unfold refTry at hst
            have RA := Lib.hid (Reads.below (Reads.below (owns_reads ho1) hb2) hb)
            have RB := Lib.hid (Reads.below (owns_reads ho2) hb)
            have hfk := HF.out k hk8
            obtain ⟨wo, rfl⟩ : ∃ wo : World, wo = wr := ⟨_, rfl⟩
            have OA : (wo.alloc (.cells #[] 9)).drew.ownsRow wo.heap.size 9 1 (.slice (some ⟨wo.heap.size, 0, none⟩) 0 0) 0 [] := World.ownsRow_made wo #[] 0 (Nat.le_refl _) (Nat.zero_le _) rfl
            go_wp2_with (at_builtin; refine list_app_reads strRow rfl (.tmp 62) (.tmp 63) rfl wo.heap.size _ 0 [] rfl OA _ pa.length (pa.map sv) rfl (Reads.below RA.out ((Below.refl _ _).alloc (Nat.le_refl _) _)) (svs_one _) (by omega) (by omega) (by simp) wo.heap.size wo ((Below.refl _ _).alloc (Nat.le_refl _) _) (Nat.le_refl _) ?_; intro v' w' hown' hb')
            clear OA
            go_loopw [11, 12] (fun x y wr => ∃ j : Nat, y = .int .i64 j ∧ j ≤ k ∧ Below wo.heap.size wo wr ∧ Hid (wr.ownsRow wo.heap.size 9 1 x (pa.length + j) ((pa ++ zerosP j).map sv))) (fun _ y _ => k - (intOf y).toNat)
            case atStart => exact ⟨0, rfl, by omega, hb', by unfold Hid; have e : 0 + pa.length = pa.length + 0 := by omega
                                                             rw [e] at hown'; simpa [zerosP] using hown'⟩
            case round =>
              obtain ⟨j, rfl, hj, hbj, HO⟩ := hrel
              have hown := HO.out
              have hzj := hbj.size
              by_cases hjk : j < k
              · go_wp2_with (at_builtin; refine list_app strRow rfl (.tmp 70) (.tmp 71) rfl wo.heap.size _ _ _ rfl hown [_] rfl rfl rfl (by omega) (by omega) hzj wo.heap.size wo hbj (Nat.le_refl _) ?_; intro v2 w3 hown2 hb3)
                go_roundw
                case rel =>
                  refine ⟨j + 1, by go_num, by omega, hb3, ?_⟩
                  unfold Hid zerosP
                  rw [List.replicate_succ']
                  have e : (pa ++ (List.replicate j [48] ++ [[48]]) : List (List UInt8)).map sv = (pa ++ zerosP j).map sv ++ [.string ⟨#[48]⟩] := by simp [zerosP]; rfl
                  rw [e, show pa.length + (j + 1) = pa.length + j + 1 from by omega]; exact hown2
                case measure => simp [intOf]; omega
              · obtain rfl : j = k := by omega
                have hlen : (pa ++ zerosP j ++ pb).length = pa.length + j + pb.length := by simp [zerosP]; omega
                have hmap : (pa ++ zerosP j ++ pb).map sv = (pa ++ zerosP j).map sv ++ pb.map sv := by simp
                rw [hlen, hmap] at hfk
                generalize fullL (pa ++ zerosP j ++ pb) = F at *
                obtain ⟨F1, F2, F3⟩ := F
                have HFK := Lib.hid hfk; have HST := Lib.hid hst; clear hfk hst hlen hmap
                cases F3 with
                | true =>
                  go_wp2_with (first | (at_builtin; refine list_app_reads strRow rfl (.tmp 74) (.tmp 75) rfl wo.heap.size _ _ _ rfl hown _ pb.length (pb.map sv) rfl (Reads.below RB.out hbj) (svs_one _) (by omega) (by omega) hzj wo.heap.size wo hbj (Nat.le_refl _) ?_; intro v2 w3 hown2 hb3) | (go_at_call 80; refine (HFK.out _ _ (owns_reads hown2)).mono ?_; rintro e w4 ⟨rfl, hb4⟩))
                  go_ret3
                  exact ⟨by rw [HST.out]; rfl, below2 (below2 hbw hb3) hb4⟩
                | false =>
                  go_wp2_with (first | (at_builtin; refine list_app_reads strRow rfl (.tmp 74) (.tmp 75) rfl wo.heap.size _ _ _ rfl hown _ pb.length (pb.map sv) rfl (Reads.below RB.out hbj) (svs_one _) (by omega) (by omega) hzj wo.heap.size wo hbj (Nat.le_refl _) ?_; intro v2 w3 hown2 hb3) | (go_at_call 80; refine (HFK.out _ _ (owns_reads hown2)).mono ?_; rintro e w4 ⟨rfl, hb4⟩))
                  go_roundw
                  case rel => first | exact ⟨j + 1, by go_num, by omega, by omega, below2 (below2 hb hb3) hb4, by unfold Hid; rw [HST.out]; rfl⟩ | (go_meet; exact ⟨j + 1, by go_num, by omega, by omega, below2 (below2 hb hb3) hb4, by unfold Hid; rw [HST.out]; rfl⟩)
                  case measure => simp [intOf]; omega
          · obtain rfl : k = 9 := by omega
            have hres := HK.out
            go_wp2_with fail
            go_ret3
            exact ⟨by rw [hres]; rfl, hbw⟩
    · have hr1 : R = refTry pa pb 8 1 := by
        rw [hr0, if_neg]
        rintro ⟨h, h', _⟩
        apply hlast
        rw [h']
        refine ⟨?_, rfl⟩
        have := List.length_pos_iff.2 h; omega
      have HR := Lib.hid hr1; clear hr0 hr1
      rcases h3 with n1 | ⟨n1, n2⟩ | h3
      · have n3 : ¬ 0 < pa.length := by omega
        go_enter Tryz.func45, Tryz.ntmps45
        go_wp2_with (first | (go_at_call 79; refine (HG.out _).mono ?_; rintro e w1 ⟨rfl, rfl⟩))
        go_region_held3 (fun w' => True) (first | go_keep | trivial) (first | (go_at_call 81; (with_reducible refine (HPA.out _).mono ?_); rintro e w1 ⟨v1, rfl, ho1, hb1⟩) | (go_at_call 81; (with_reducible refine (HPB.out _).mono ?_); rintro e w2 ⟨v2, rfl, ho2, hb2⟩))
        obtain ⟨a2, c2, rfl⟩ := owns_slice ho2
        have hB2 : Below w.heap.size w w2 := below2 (Below.trans (Below.refl _ _).drew hb1) hb2
        obtain ⟨a1, ca, rfl⟩ := owns_slice ho1
        go_wp2_with fail
        go_loopw [10] (fun x wr => ∃ k : Nat, x = .int .i64 k ∧ 1 ≤ k ∧ k ≤ 9 ∧ Below w2.heap.size w2 wr ∧ Hid (R = refTry pa pb (9 - k) k)) (fun x _ => 9 - (intOf x).toNat)
        case atStart => exact ⟨1, rfl, by omega, by omega, Below.refl _ _, HR.out⟩
        case round =>
          obtain ⟨k, rfl, hk1, hk9, hb, HK⟩ := hrel
          have hbw : Below w.heap.size w wr := below2 hB2 hb
          have hzw := hb.size
          have hz1 := hb1.size
          have hz2 := hb2.size
          have hzw0 := hbw.size
          by_cases hk8 : k ≤ 8
          · have hst := HK.out
            rw [show 9 - k = (9 - (k + 1)) + 1 from by omega] at hst
            unfold refTry at hst
            have RA := Lib.hid (Reads.below (Reads.below (owns_reads ho1) hb2) hb)
            have RB := Lib.hid (Reads.below (owns_reads ho2) hb)
            have hfk := HF.out k hk8
            obtain ⟨wo, rfl⟩ : ∃ wo : World, wo = wr := ⟨_, rfl⟩
            have OA : (wo.alloc (.cells #[] 9)).drew.ownsRow wo.heap.size 9 1 (.slice (some ⟨wo.heap.size, 0, none⟩) 0 0) 0 [] := World.ownsRow_made wo #[] 0 (Nat.le_refl _) (Nat.zero_le _) rfl
            go_wp2_with (at_builtin; refine list_app_reads strRow rfl (.tmp 62) (.tmp 63) rfl wo.heap.size _ 0 [] rfl OA _ pa.length (pa.map sv) rfl (Reads.below RA.out ((Below.refl _ _).alloc (Nat.le_refl _) _)) (svs_one _) (by omega) (by omega) (by simp) wo.heap.size wo ((Below.refl _ _).alloc (Nat.le_refl _) _) (Nat.le_refl _) ?_; intro v' w' hown' hb')
            clear OA
            go_loopw [11, 12] (fun x y wr => ∃ j : Nat, y = .int .i64 j ∧ j ≤ k ∧ Below wo.heap.size wo wr ∧ Hid (wr.ownsRow wo.heap.size 9 1 x (pa.length + j) ((pa ++ zerosP j).map sv))) (fun _ y _ => k - (intOf y).toNat)
            case atStart => exact ⟨0, rfl, by omega, hb', by unfold Hid; have e : 0 + pa.length = pa.length + 0 := by omega
                                                             rw [e] at hown'; simpa [zerosP] using hown'⟩
            case round =>
              obtain ⟨j, rfl, hj, hbj, HO⟩ := hrel
              have hown := HO.out
              have hzj := hbj.size
              by_cases hjk : j < k
              · go_wp2_with (at_builtin; refine list_app strRow rfl (.tmp 70) (.tmp 71) rfl wo.heap.size _ _ _ rfl hown [_] rfl rfl rfl (by omega) (by omega) hzj wo.heap.size wo hbj (Nat.le_refl _) ?_; intro v2 w3 hown2 hb3)
                go_roundw
                case rel =>
                  refine ⟨j + 1, by go_num, by omega, hb3, ?_⟩
                  unfold Hid zerosP
                  rw [List.replicate_succ']
                  have e : (pa ++ (List.replicate j [48] ++ [[48]]) : List (List UInt8)).map sv = (pa ++ zerosP j).map sv ++ [.string ⟨#[48]⟩] := by simp [zerosP]; rfl
                  rw [e, show pa.length + (j + 1) = pa.length + j + 1 from by omega]; exact hown2
                case measure => simp [intOf]; omega
              · obtain rfl : j = k := by omega
                have hlen : (pa ++ zerosP j ++ pb).length = pa.length + j + pb.length := by simp [zerosP]; omega
                have hmap : (pa ++ zerosP j ++ pb).map sv = (pa ++ zerosP j).map sv ++ pb.map sv := by simp
                rw [hlen, hmap] at hfk
                generalize fullL (pa ++ zerosP j ++ pb) = F at *
                obtain ⟨F1, F2, F3⟩ := F
                have HFK := Lib.hid hfk; have HST := Lib.hid hst; clear hfk hst hlen hmap
                cases F3 with
                | true =>
                  go_wp2_with (first | (at_builtin; refine list_app_reads strRow rfl (.tmp 74) (.tmp 75) rfl wo.heap.size _ _ _ rfl hown _ pb.length (pb.map sv) rfl (Reads.below RB.out hbj) (svs_one _) (by omega) (by omega) hzj wo.heap.size wo hbj (Nat.le_refl _) ?_; intro v2 w3 hown2 hb3) | (go_at_call 80; refine (HFK.out _ _ (owns_reads hown2)).mono ?_; rintro e w4 ⟨rfl, hb4⟩))
                  go_ret3
                  exact ⟨by rw [HST.out]; rfl, below2 (below2 hbw hb3) hb4⟩
                | false =>
                  go_wp2_with (first | (at_builtin; refine list_app_reads strRow rfl (.tmp 74) (.tmp 75) rfl wo.heap.size _ _ _ rfl hown _ pb.length (pb.map sv) rfl (Reads.below RB.out hbj) (svs_one _) (by omega) (by omega) hzj wo.heap.size wo hbj (Nat.le_refl _) ?_; intro v2 w3 hown2 hb3) | (go_at_call 80; refine (HFK.out _ _ (owns_reads hown2)).mono ?_; rintro e w4 ⟨rfl, hb4⟩))
                  go_roundw
                  case rel => first | exact ⟨j + 1, by go_num, by omega, by omega, below2 (below2 hb hb3) hb4, by unfold Hid; rw [HST.out]; rfl⟩ | (go_meet; exact ⟨j + 1, by go_num, by omega, by omega, below2 (below2 hb hb3) hb4, by unfold Hid; rw [HST.out]; rfl⟩)
                  case measure => simp [intOf]; omega
          · obtain rfl : k = 9 := by omega
            have hres := HK.out
            go_wp2_with fail
            go_ret3
            exact ⟨by rw [hres]; rfl, hbw⟩
      · have n3 : 0 < pa.length := by omega
        go_enter Tryz.func45, Tryz.ntmps45
        go_wp2_with (first | (go_at_call 79; refine (HG.out _).mono ?_; rintro e w1 ⟨rfl, rfl⟩))
        go_region_held3 (fun w' => True) (first | go_keep | trivial) (first | (go_at_call 81; (with_reducible refine (HPA.out _).mono ?_); rintro e w1 ⟨v1, rfl, ho1, hb1⟩) | (go_at_call 81; (with_reducible refine (HPB.out _).mono ?_); rintro e w2 ⟨v2, rfl, ho2, hb2⟩))
        obtain ⟨a2, c2, rfl⟩ := owns_slice ho2
        have hB2 : Below w.heap.size w w2 := below2 (Below.trans (Below.refl _ _).drew hb1) hb2
        obtain ⟨a1, ca, rfl⟩ := owns_slice ho1
        go_wp2_with fail
        go_loopw [10] (fun x wr => ∃ k : Nat, x = .int .i64 k ∧ 1 ≤ k ∧ k ≤ 9 ∧ Below w2.heap.size w2 wr ∧ Hid (R = refTry pa pb (9 - k) k)) (fun x _ => 9 - (intOf x).toNat)
        case atStart => exact ⟨1, rfl, by omega, by omega, Below.refl _ _, HR.out⟩
        case round =>
          obtain ⟨k, rfl, hk1, hk9, hb, HK⟩ := hrel
          have hbw : Below w.heap.size w wr := below2 hB2 hb
          have hzw := hb.size
          have hz1 := hb1.size
          have hz2 := hb2.size
          have hzw0 := hbw.size
          by_cases hk8 : k ≤ 8
          · have hst := HK.out
            rw [show 9 - k = (9 - (k + 1)) + 1 from by omega] at hst
            unfold refTry at hst
            have RA := Lib.hid (Reads.below (Reads.below (owns_reads ho1) hb2) hb)
            have RB := Lib.hid (Reads.below (owns_reads ho2) hb)
            have hfk := HF.out k hk8
            obtain ⟨wo, rfl⟩ : ∃ wo : World, wo = wr := ⟨_, rfl⟩
            have OA : (wo.alloc (.cells #[] 9)).drew.ownsRow wo.heap.size 9 1 (.slice (some ⟨wo.heap.size, 0, none⟩) 0 0) 0 [] := World.ownsRow_made wo #[] 0 (Nat.le_refl _) (Nat.zero_le _) rfl
            go_wp2_with (at_builtin; refine list_app_reads strRow rfl (.tmp 62) (.tmp 63) rfl wo.heap.size _ 0 [] rfl OA _ pa.length (pa.map sv) rfl (Reads.below RA.out ((Below.refl _ _).alloc (Nat.le_refl _) _)) (svs_one _) (by omega) (by omega) (by simp) wo.heap.size wo ((Below.refl _ _).alloc (Nat.le_refl _) _) (Nat.le_refl _) ?_; intro v' w' hown' hb')
            clear OA
            go_loopw [11, 12] (fun x y wr => ∃ j : Nat, y = .int .i64 j ∧ j ≤ k ∧ Below wo.heap.size wo wr ∧ Hid (wr.ownsRow wo.heap.size 9 1 x (pa.length + j) ((pa ++ zerosP j).map sv))) (fun _ y _ => k - (intOf y).toNat)
            case atStart => exact ⟨0, rfl, by omega, hb', by unfold Hid; have e : 0 + pa.length = pa.length + 0 := by omega
                                                             rw [e] at hown'; simpa [zerosP] using hown'⟩
            case round =>
              obtain ⟨j, rfl, hj, hbj, HO⟩ := hrel
              have hown := HO.out
              have hzj := hbj.size
              by_cases hjk : j < k
              · go_wp2_with (at_builtin; refine list_app strRow rfl (.tmp 70) (.tmp 71) rfl wo.heap.size _ _ _ rfl hown [_] rfl rfl rfl (by omega) (by omega) hzj wo.heap.size wo hbj (Nat.le_refl _) ?_; intro v2 w3 hown2 hb3)
                go_roundw
                case rel =>
                  refine ⟨j + 1, by go_num, by omega, hb3, ?_⟩
                  unfold Hid zerosP
                  rw [List.replicate_succ']
                  have e : (pa ++ (List.replicate j [48] ++ [[48]]) : List (List UInt8)).map sv = (pa ++ zerosP j).map sv ++ [.string ⟨#[48]⟩] := by simp [zerosP]; rfl
                  rw [e, show pa.length + (j + 1) = pa.length + j + 1 from by omega]; exact hown2
                case measure => simp [intOf]; omega
              · obtain rfl : j = k := by omega
                have hlen : (pa ++ zerosP j ++ pb).length = pa.length + j + pb.length := by simp [zerosP]; omega
                have hmap : (pa ++ zerosP j ++ pb).map sv = (pa ++ zerosP j).map sv ++ pb.map sv := by simp
                rw [hlen, hmap] at hfk
                generalize fullL (pa ++ zerosP j ++ pb) = F at *
                obtain ⟨F1, F2, F3⟩ := F
                have HFK := Lib.hid hfk; have HST := Lib.hid hst; clear hfk hst hlen hmap
                cases F3 with
                | true =>
                  go_wp2_with (first | (at_builtin; refine list_app_reads strRow rfl (.tmp 74) (.tmp 75) rfl wo.heap.size _ _ _ rfl hown _ pb.length (pb.map sv) rfl (Reads.below RB.out hbj) (svs_one _) (by omega) (by omega) hzj wo.heap.size wo hbj (Nat.le_refl _) ?_; intro v2 w3 hown2 hb3) | (go_at_call 80; refine (HFK.out _ _ (owns_reads hown2)).mono ?_; rintro e w4 ⟨rfl, hb4⟩))
                  go_ret3
                  exact ⟨by rw [HST.out]; rfl, below2 (below2 hbw hb3) hb4⟩
                | false =>
                  go_wp2_with (first | (at_builtin; refine list_app_reads strRow rfl (.tmp 74) (.tmp 75) rfl wo.heap.size _ _ _ rfl hown _ pb.length (pb.map sv) rfl (Reads.below RB.out hbj) (svs_one _) (by omega) (by omega) hzj wo.heap.size wo hbj (Nat.le_refl _) ?_; intro v2 w3 hown2 hb3) | (go_at_call 80; refine (HFK.out _ _ (owns_reads hown2)).mono ?_; rintro e w4 ⟨rfl, hb4⟩))
                  go_roundw
                  case rel => first | exact ⟨j + 1, by go_num, by omega, by omega, below2 (below2 hb hb3) hb4, by unfold Hid; rw [HST.out]; rfl⟩ | (go_meet; exact ⟨j + 1, by go_num, by omega, by omega, below2 (below2 hb hb3) hb4, by unfold Hid; rw [HST.out]; rfl⟩)
                  case measure => simp [intOf]; omega
          · obtain rfl : k = 9 := by omega
            have hres := HK.out
            go_wp2_with fail
            go_ret3
            exact ⟨by rw [hres]; rfl, hbw⟩
      · exact absurd h3 hlast
end Go.Proofs.YtnohkfbapibmdaaGreat
namespace Go.Proofs.YtnohkfbapibmdaaGreat
open Go.RowKit

theorem v4_any (n : Int) (h0 : 0 ≤ n) (hn : n < 4294967296) (w : World) : Calls Tryz.prog 77 #[.int .u32 n] w fun e w' => e = .returned (.agg #[.bool false, .int .u64 0, .int .u64 n]) ∧ Below w.heap.size w w' := by
  have q : IntKind.u64.wrap n = n := IntWalk.u64_in _ (by omega)
  go_enter Tryz.func77, Tryz.ntmps77
  go_wp2_with fail
  refine bodyPost_ret (v := (.agg #[.bool false, .int .u64 0, .int .u64 n])) (by simp [results, Tryz.results77, go_sem]) rfl ⟨rfl, by go_grown⟩
theorem adOf_yes {hi lo : Nat} (h1 : (hi : Int) = 0) (h2 : ((lo : Int) / 4294967296 == 65535) = true) : adOf hi lo = ⟨false, 0, lo % 4294967296⟩ := by
  unfold adOf; rw [if_pos ⟨by omega, by rw [beq_iff_eq] at h2; omega⟩]
theorem adOf_no1 {hi lo : Nat} (h1 : ¬ (hi : Int) = 0) : adOf hi lo = ⟨true, hi, lo⟩ := by
  unfold adOf; rw [if_neg (by omega)]
theorem adOf_no2 {hi lo : Nat} (h2 : ((lo : Int) / 4294967296 == 65535) = false) : adOf hi lo = ⟨true, hi, lo⟩ := by
  unfold adOf; rw [if_neg (by rw [beq_eq_false_iff_ne] at h2; omega)]
set_option maxRecDepth 100000 in
theorem adV6_any (hi lo : Nat) (h1 : hi < 18446744073709551616) (h2 : lo < 18446744073709551616) (w : World) : Calls Tryz.prog 78 #[.int .u64 hi, .int .u64 lo] w fun e w' => e = .returned (.agg #[.bool (adOf hi lo).v6, .int .u64 (adOf hi lo).hi, .int .u64 (adOf hi lo).lo]) ∧ Below w.heap.size w w' := by
  have ha := and32_u64 lo h2
  go_enter Tryz.func78, Tryz.ntmps78
  go_wp2_with (go_at_call 77; refine (v4_any _ (by omega) (by omega) _).mono ?_; rintro e w1 ⟨rfl, b1⟩; obtain ⟨c1, f1⟩ := bcell b1)
  · have e := adOf_yes ‹_› ‹_›
    refine bodyPost_ret (v := .agg #[.bool false, .int .u64 0, .int .u64 ((lo : Int) % 4294967296)]) (by simp [results, Tryz.results78, go_sem, c1]) rfl ⟨by rw [e]; rfl, ?_⟩
    exact Below.setCell (Below.setCell (Below.setCell (((Below.refl _ _).alloc (Nat.le_refl _) _).trans (b1.mono (by simp))) (Nat.le_refl _) _) (Nat.le_refl _) _) (Nat.le_refl _) _
  · have e := adOf_no2 (hi := hi) ‹_›
    obtain rfl : hi = 0 := by omega
    refine bodyPost_ret (v := .agg #[.bool true, .int .u64 0, .int .u64 lo]) (by simp [results, Tryz.results78, go_sem]) rfl ⟨by rw [e]; rfl, by go_grown⟩
  · have e := adOf_no1 (lo := lo) ‹_›
    refine bodyPost_ret (v := .agg #[.bool true, .int .u64 hi, .int .u64 lo]) (by simp [results, Tryz.results78, go_sem]) rfl ⟨by rw [e], by go_grown⟩
set_option maxRecDepth 100000 in
theorem refAdV6_any (hi lo : Nat) (h1 : hi < 18446744073709551616) (h2 : lo < 18446744073709551616) (w : World) : Calls Tryz.prog 46 #[.int .u64 hi, .int .u64 lo] w fun e w' => e = .returned (.agg #[.bool (adOf hi lo).v6, .int .u64 (adOf hi lo).hi, .int .u64 (adOf hi lo).lo]) ∧ Below w.heap.size w w' := by
  go_enter Tryz.func46, Tryz.ntmps46
  go_wp2_with fail
  · have e := adOf_yes ‹_› ‹_›
    refine bodyPost_ret (v := .agg #[.bool false, .int .u64 0, .int .u64 ((lo : Int) % 4294967296)]) (by simp [results, Tryz.results46, go_sem]) rfl ⟨by rw [e]; rfl, by go_grown⟩
  · have e := adOf_no2 (hi := hi) ‹_›
    obtain rfl : hi = 0 := by omega
    refine bodyPost_ret (v := .agg #[.bool true, .int .u64 0, .int .u64 lo]) (by simp [results, Tryz.results46, go_sem]) rfl ⟨by rw [e]; rfl, by go_grown⟩
  · have e := adOf_no1 (lo := lo) ‹_›
    refine bodyPost_ret (v := .agg #[.bool true, .int .u64 hi, .int .u64 lo]) (by simp [results, Tryz.results46, go_sem]) rfl ⟨by rw [e], by go_grown⟩
theorem adBits_any (a : Ad) (w : World) : Calls Tryz.prog 97 #[.agg #[.bool a.v6, .int .u64 a.hi, .int .u64 a.lo]] w fun e w' => e = .returned (.int .i64 (adBits a)) ∧ Below w.heap.size w w' := by
  unfold adBits
  go_enter Tryz.func97, Tryz.ntmps97
  go_wp2
  all_goals
    go_ret
    exact ⟨ret_int (by simp [*]), (Below.refl _ _).alloc (Nat.le_refl _) _⟩
theorem refAdBits_any (a : Ad) (w : World) : Calls Tryz.prog 55 #[.agg #[.bool a.v6, .int .u64 a.hi, .int .u64 a.lo]] w fun e w' => e = .returned (.int .i64 (adBits a)) ∧ Below w.heap.size w w' := by
  unfold adBits
  go_enter Tryz.func55, Tryz.ntmps55
  go_wp2
  all_goals
    go_ret
    exact ⟨ret_int (by simp [*]), (Below.refl _ _).alloc (Nat.le_refl _) _⟩
end Go.Proofs.YtnohkfbapibmdaaGreat
namespace Go.Proofs.YtnohkfbapibmdaaGreat
open Go.RowKit

set_option maxRecDepth 100000 in
theorem adRight_any (a : Ad) (hf : a.fits) (w : World) : Calls Tryz.prog 53 #[.agg #[.bool a.v6, .int .u64 a.hi, .int .u64 a.lo]] w fun e w' => e = .returned (.bool (adRight a)) ∧ Below w.heap.size w w' := by
  obtain ⟨h1, h2⟩ := hf
  have h6 := right6 a
  have h4 := right4 a
  have q6 := fun W => eqlAd (adOf a.hi a.lo) a W
  have q4 : ∀ W, (binOp .eql 24 (.agg #[.bool false, .int .u64 0, .int .u64 ((a.lo : Int) % 4294967296)]) (.agg #[.bool a.v6, .int .u64 a.hi, .int .u64 a.lo])).run Tryz.prog W = .ok (.bool (decide (ad4 (a.lo % 4294967296) = a))) W := fun W => by
    have := eqlAd (ad4 (a.lo % 4294967296)) a W
    have e : ((ad4 (a.lo % 4294967296)).lo : Int) = (a.lo : Int) % 4294967296 := by unfold ad4; simp only; omega
    rw [e] at this; exact this
  have ha := and32_u64 a.lo h2
  have hw : IntKind.u32.wrap ((a.lo : Int) % 4294967296) = (a.lo : Int) % 4294967296 := IntWalk.u32_in _ (by omega)
  generalize hr : adRight a = r at *
  cases hv : a.v6 with
  | true =>
    rw [h6 hv] at q6
    simp only [hv] at q6
    have H6 := Lib.hid q6; clear h6 h4 q4 q6 hr
    go_enter Tryz.func53, Tryz.ntmps53
    go_wp2_with fail
    go_region_held3 (fun w' => w'.cell? ⟨w.heap.size, 0, none⟩ = some (.bool true) ∧ w'.cell? ⟨w.heap.size, 1, none⟩ = some (.int .u64 a.hi) ∧ w'.cell? ⟨w.heap.size, 2, none⟩ = some (.int .u64 a.lo)) (first | go_keep | (simp (disch := omega) [*])) (first | (go_at_call 78; refine (adV6_any a.hi a.lo h1 h2 _).mono ?_; rintro e w1 ⟨rfl, b1⟩; obtain ⟨c1, f1⟩ := bcell b1; have q6 := H6.out))
    go_wp2_with fail
    go_ret
    exact ⟨rfl, Below.trans (Below.drew ((Below.refl _ _).alloc (Nat.le_refl _) _)) (b1.mono (by simp))⟩
  | false =>
    rw [h4 hv] at q4
    simp only [hv] at q4
    have H4 := Lib.hid q4; clear h6 h4 q4 q6 hr
    go_enter Tryz.func53, Tryz.ntmps53
    go_wp2_with fail
    go_region_held3 (fun w' => w'.cell? ⟨w.heap.size, 0, none⟩ = some (.bool false) ∧ w'.cell? ⟨w.heap.size, 1, none⟩ = some (.int .u64 a.hi) ∧ w'.cell? ⟨w.heap.size, 2, none⟩ = some (.int .u64 a.lo)) (first | go_keep | (simp (disch := omega) [*])) (first | (go_at_call 77; refine (v4_any _ (by omega) (by omega) _).mono ?_; rintro e w1 ⟨rfl, b1⟩; obtain ⟨c1, f1⟩ := bcell b1; have q4 := H4.out))
    go_wp2_with fail
    go_ret
    exact ⟨rfl, Below.trans (Below.drew ((Below.refl _ _).alloc (Nat.le_refl _) _)) (b1.mono (by simp))⟩
theorem refAdRight_any (a : Ad) (hf : a.fits) (w : World) : Calls Tryz.prog 28 #[.agg #[.bool a.v6, .int .u64 a.hi, .int .u64 a.lo]] w fun e w' => e = .returned (.bool (adRight a)) ∧ Below w.heap.size w w' := by
  have hr : adRight a = if a.v6 = true then !(decide ((a.hi : Int) = 0 ∧ (a.lo : Int) / 4294967296 = 65535)) else decide ((a.hi : Int) = 0 ∧ (a.lo : Int) < 4294967296) := by
    unfold adRight
    have e1 : ((a.hi : Int) = 0 ∧ (a.lo : Int) / 4294967296 = 65535) ↔ (a.hi = 0 ∧ a.lo / 4294967296 = 65535) := by omega
    have e2 : ((a.hi : Int) = 0 ∧ (a.lo : Int) < 4294967296) ↔ (a.hi = 0 ∧ a.lo < 4294967296) := by omega
    simp only [e1, e2]
  have HR := Lib.hid hr; clear hr
  have hw : IntKind.u64.wrap ((a.lo : Int) / 4294967296) = (a.lo : Int) / 4294967296 := IntWalk.u64_in _ (by have := hf.2; omega)
  go_enter Tryz.func28, Tryz.ntmps28
  go_wp2_with fail
  all_goals
    go_ret
    refine ⟨?_, by go_grown⟩
    rw [HR.out]
    simp_all
    try rfl
theorem div_nat (n k : Nat) : (n : Int) / 2 ^ k = ((n / 2 ^ k : Nat) : Int) := by simp
set_option maxRecDepth 100000 in
theorem refAdBit_any (a : Ad) (hf : a.fits) (i : Int) (w : World) : Calls Tryz.prog 56 #[.agg #[.bool a.v6, .int .u64 a.hi, .int .u64 a.lo], .int .i64 i] w fun e w' => e = .returned (.int .i64 (adBit a i : Nat)) ∧ Below w.heap.size w w' := by
  obtain ⟨h1, h2⟩ := hf
  obtain ⟨r, hr⟩ : ∃ r, r = adBit a i := ⟨_, rfl⟩
  rw [← hr]
  unfold adBit at hr
  have hb := refAdBits_any a
  unfold adBits at hr hb
  cases hv : a.v6 with
  | true =>
    rw [hv] at hr hb
    simp only [if_true, if_false, Bool.false_eq_true] at hr hb
    by_cases h0 : i < 0
    · rw [if_pos (Or.inl h0)] at hr
      subst hr
      have HB := Lib.hid hb; clear hb
      go_enter Tryz.func56, Tryz.ntmps56
      go_wp2_with (go_at_call 55; refine (HB.out _).mono ?_; rintro e w1 ⟨rfl, b1⟩; obtain ⟨c1, f1⟩ := bcell b1)
      all_goals
        go_ret
        exact ⟨rfl, by first | exact Below.trans ((Below.refl _ _).alloc (Nat.le_refl _) _) (b1.mono (by simp)) | go_grown⟩
    by_cases h8 : (128 : Int) ≤ i
    · rw [if_pos (Or.inr h8)] at hr
      subst hr
      have HB := Lib.hid hb; clear hb
      go_enter Tryz.func56, Tryz.ntmps56
      go_wp2_with (go_at_call 55; refine (HB.out _).mono ?_; rintro e w1 ⟨rfl, b1⟩; obtain ⟨c1, f1⟩ := bcell b1)
      all_goals
        go_ret
        exact ⟨rfl, by first | exact Below.trans ((Below.refl _ _).alloc (Nat.le_refl _) _) (b1.mono (by simp)) | go_grown⟩
    rw [if_neg (by omega)] at hr
    obtain ⟨k, rfl⟩ : ∃ k : Nat, i = k := ⟨i.toNat, by omega⟩
    rw [Int.toNat_natCast] at hr
    by_cases h6 : (k : Int) < 64
    · rw [if_pos h6] at hr
      have hm : (k : Int) % 64 = k := by omega
      have hd := div_nat a.hi (63 - k)
      have hl := Nat.div_le_self a.hi (2 ^ (63 - k))
      generalize a.hi / 2 ^ (63 - k) = m at *
      have ha := and1_u64 m (by omega)
      have hs0 : (63 - (k : Int)).toNat = 63 - k := by omega
      have qa0 : (0 : Int) ≤ 63 - (k : Int) := by omega
      have qb0 : 63 - (k : Int) ≤ 64 := by omega
      have hw : IntKind.u64.wrap (63 - (k : Int)) = 63 - (k : Int) := IntWalk.u64_in _ (by omega)
      have HB := Lib.hid hb; have HR := Lib.hid hr; clear hb hr
      go_enter Tryz.func56, Tryz.ntmps56
      go_wp2_with (go_at_call 55; refine (HB.out _).mono ?_; rintro e w1 ⟨rfl, b1⟩; obtain ⟨c1, f1⟩ := bcell b1)
      go_ret
      refine ⟨ret_int (by rw [HR.out]; omega), by first | exact Below.trans ((Below.refl _ _).alloc (Nat.le_refl _) _) (b1.mono (by simp)) | go_grown⟩
    · rw [if_neg h6] at hr
      have hm : (k : Int) % 64 = (k : Int) - 64 := by omega
      have hd := div_nat a.lo (127 - k)
      have hl := Nat.div_le_self a.lo (2 ^ (127 - k))
      generalize a.lo / 2 ^ (127 - k) = m at *
      have ha := and1_u64 m (by omega)
      have hs0 : (63 - ((k : Int) - 64)).toNat = 127 - k := by omega
      have qa0 : (0 : Int) ≤ 63 - ((k : Int) - 64) := by omega
      have qb0 : 63 - ((k : Int) - 64) ≤ 64 := by omega
      have hw : IntKind.u64.wrap (63 - ((k : Int) - 64)) = 63 - ((k : Int) - 64) := IntWalk.u64_in _ (by omega)
      have HB := Lib.hid hb; have HR := Lib.hid hr; clear hb hr
      go_enter Tryz.func56, Tryz.ntmps56
      go_wp2_with (go_at_call 55; refine (HB.out _).mono ?_; rintro e w1 ⟨rfl, b1⟩; obtain ⟨c1, f1⟩ := bcell b1)
      go_ret
      refine ⟨ret_int (by rw [HR.out]; omega), by first | exact Below.trans ((Below.refl _ _).alloc (Nat.le_refl _) _) (b1.mono (by simp)) | go_grown⟩
  | false =>
    rw [hv] at hr hb
    simp only [if_true, if_false, Bool.false_eq_true] at hr hb
    by_cases h0 : i < 0
    · rw [if_pos (Or.inl h0)] at hr
      subst hr
      have HB := Lib.hid hb; clear hb
      go_enter Tryz.func56, Tryz.ntmps56
      go_wp2_with (go_at_call 55; refine (HB.out _).mono ?_; rintro e w1 ⟨rfl, b1⟩; obtain ⟨c1, f1⟩ := bcell b1)
      all_goals
        go_ret
        exact ⟨rfl, by first | exact Below.trans ((Below.refl _ _).alloc (Nat.le_refl _) _) (b1.mono (by simp)) | go_grown⟩
    by_cases h8 : (32 : Int) ≤ i
    · rw [if_pos (Or.inr h8)] at hr
      subst hr
      have HB := Lib.hid hb; clear hb
      go_enter Tryz.func56, Tryz.ntmps56
      go_wp2_with (go_at_call 55; refine (HB.out _).mono ?_; rintro e w1 ⟨rfl, b1⟩; obtain ⟨c1, f1⟩ := bcell b1)
      all_goals
        go_ret
        exact ⟨rfl, by first | exact Below.trans ((Below.refl _ _).alloc (Nat.le_refl _) _) (b1.mono (by simp)) | go_grown⟩
    rw [if_neg (by omega)] at hr
    obtain ⟨k, rfl⟩ : ∃ k : Nat, i = k := ⟨i.toNat, by omega⟩
    rw [Int.toNat_natCast] at hr
    have hd := div_nat a.lo (31 - k)
    have hl := Nat.div_le_self a.lo (2 ^ (31 - k))
    generalize a.lo / 2 ^ (31 - k) = m at *
    have ha := and1_u64 m (by omega)
    have hs0 : (31 - (k : Int)).toNat = 31 - k := by omega
    have qa0 : (0 : Int) ≤ 31 - (k : Int) := by omega
    have qb0 : 31 - (k : Int) ≤ 64 := by omega
    have hw : IntKind.u64.wrap (31 - (k : Int)) = 31 - (k : Int) := IntWalk.u64_in _ (by omega)
    have HB := Lib.hid hb; have HR := Lib.hid hr; clear hb hr
    go_enter Tryz.func56, Tryz.ntmps56
    go_wp2_with (go_at_call 55; refine (HB.out _).mono ?_; rintro e w1 ⟨rfl, b1⟩; obtain ⟨c1, f1⟩ := bcell b1)
    go_ret
    refine ⟨ret_int (by rw [HR.out]; omega), by first | exact Below.trans ((Below.refl _ _).alloc (Nat.le_refl _) _) (b1.mono (by simp)) | go_grown⟩
end Go.Proofs.YtnohkfbapibmdaaGreat
namespace Go.Proofs.YtnohkfbapibmdaaGreat
open Go.RowKit

/-- what Parse gives -/
def GivesAd (W : World) (r : Ad × Bool) (en : Ending) (w' : World) : Prop :=
  en = .returned (.tuple #[.agg #[.bool r.1.v6, .int .u64 r.1.hi, .int .u64 r.1.lo], .bool r.2]) ∧ Below W.heap.size W w'
set_option maxRecDepth 100000 in
set_option maxHeartbeats 1000000 in
theorem adParse_any (s : ByteArray) (w : World) (hs : s.size ≤ 4000000000) (hc : Cpu w) : Calls Tryz.prog 41 #[.string s] w (GivesAd w (adParse s.data.toList)) := by
  have hv4 := fun w => v4Parse_any s w (by omega)
  have hv6 := fun w hc => v6Parse_any s w hs hc
  have hl4 := @adParse_lt4 s.data.toList
  have hl6 := v6parse_lt s.data.toList
  obtain ⟨r, hr⟩ : ∃ r, r = adParse s.data.toList := ⟨_, rfl⟩
  rw [← hr]
  unfold adParse at hr
  generalize v4parse s.data.toList = p4 at *
  generalize v6parse s.data.toList = p6 at *
  obtain ⟨n, ok4⟩ := p4
  obtain ⟨hi, lo, ok6⟩ := p6
  simp only at hr hv4 hv6 hl4 hl6
  obtain ⟨l1, l2⟩ := hl6
  cases ok4 with
  | true =>
    have hn := hl4 rfl
    rw [if_pos rfl] at hr
    have HV := Lib.hid hv4; clear hv4 hv6 hl4
    subst hr
    go_enter Tryz.func41, Tryz.ntmps41
    go_wp2_with (first | (go_at_call 76; refine (HV.out _).mono ?_; rintro e w1 ⟨rfl, b1⟩; obtain ⟨c1, f1⟩ := bcell b1; have C1 := Cpu.below (Cpu.below hc ((Below.refl _ _).alloc (Nat.le_refl _) _)) b1; have z1 := b1.size; simp at z1) | (go_at_call 77; refine (v4_any _ (by omega) (by omega) _).mono ?_; rintro e w2 ⟨rfl, b2⟩; obtain ⟨c2, f2⟩ := bcell b2; have d := fun o => (c2 w.heap.size o (by omega)).trans (c1 w.heap.size o (by simp)); have fd := fun o => (f2 w.heap.size o (by omega)).trans (f1 w.heap.size o (by simp)); clear c1 f1 c2 f2))
    refine bodyPost_ret (v := .tuple #[.agg #[.bool false, .int .u64 0, .int .u64 n], .bool true]) (by simp [results, Tryz.results41, go_sem, d]) rfl ⟨rfl, ?_⟩
    exact Below.setCell (Below.setCell (Below.setCell ((((Below.refl _ _).alloc (Nat.le_refl _) _).trans (b1.mono (by simp))).trans (b2.mono (by omega))) (Nat.le_refl _) _) (Nat.le_refl _) _) (Nat.le_refl _) _
  | false =>
    rw [if_neg (by simp)] at hr
    have HV := Lib.hid hv4; have HV6 := Lib.hid hv6; clear hv4 hv6 hl4
    cases ok6 with
    | true =>
      rw [if_pos rfl] at hr
      subst hr
      go_enter Tryz.func41, Tryz.ntmps41
      go_wp2_with (first | (go_at_call 76; refine (HV.out _).mono ?_; rintro e w1 ⟨rfl, b1⟩; obtain ⟨c1, f1⟩ := bcell b1; have C1 := Cpu.below (Cpu.below hc ((Below.refl _ _).alloc (Nat.le_refl _) _)) b1; have z1 := b1.size; simp at z1) | (go_at_call 73; refine (HV6.out _ C1).mono ?_; rintro e w2 ⟨rfl, b2⟩; obtain ⟨c2, f2⟩ := bcell b2; have z2 := b2.size) | (go_at_call 78; refine (adV6_any hi lo l1 l2 _).mono ?_; rintro e w3 ⟨rfl, b3⟩; obtain ⟨c3, f3⟩ := bcell b3; have d := fun o => (c3 w.heap.size o (by omega)).trans ((c2 w.heap.size o (by omega)).trans (c1 w.heap.size o (by simp))); have fd := fun o => (f3 w.heap.size o (by omega)).trans ((f2 w.heap.size o (by omega)).trans (f1 w.heap.size o (by simp))); clear c1 f1 c2 f2 c3 f3))
      refine bodyPost_ret (v := .tuple #[.agg #[.bool (adOf hi lo).v6, .int .u64 (adOf hi lo).hi, .int .u64 (adOf hi lo).lo], .bool true]) (by simp [results, Tryz.results41, go_sem, d]) rfl ⟨rfl, ?_⟩
      exact Below.setCell (Below.setCell (Below.setCell (((((Below.refl _ _).alloc (Nat.le_refl _) _).trans (b1.mono (by simp))).trans (b2.mono (by omega))).trans (b3.mono (by omega))) (Nat.le_refl _) _) (Nat.le_refl _) _) (Nat.le_refl _) _
    | false =>
      rw [if_neg (by simp)] at hr
      subst hr
      go_enter Tryz.func41, Tryz.ntmps41
      go_wp2_with (first | (go_at_call 76; refine (HV.out _).mono ?_; rintro e w1 ⟨rfl, b1⟩; obtain ⟨c1, f1⟩ := bcell b1; have C1 := Cpu.below (Cpu.below hc ((Below.refl _ _).alloc (Nat.le_refl _) _)) b1; have z1 := b1.size; simp at z1) | (go_at_call 73; refine (HV6.out _ C1).mono ?_; rintro e w2 ⟨rfl, b2⟩; obtain ⟨c2, f2⟩ := bcell b2; have z2 := b2.size; have d := fun o => (c2 w.heap.size o (by omega)).trans (c1 w.heap.size o (by simp)); have fd := fun o => (f2 w.heap.size o (by omega)).trans (f1 w.heap.size o (by simp)); clear c1 f1 c2 f2))
      refine bodyPost_ret (v := .tuple #[.agg #[.bool false, .int .u64 0, .int .u64 0], .bool false]) (by simp [results, Tryz.results41, go_sem, d]) rfl ⟨rfl, ?_⟩
      exact Below.setCell (Below.setCell (Below.setCell ((((Below.refl _ _).alloc (Nat.le_refl _) _).trans (b1.mono (by simp))).trans (b2.mono (by omega))) (Nat.le_refl _) _) (Nat.le_refl _) _) (Nat.le_refl _) _
end Go.Proofs.YtnohkfbapibmdaaGreat
namespace Go.Proofs.YtnohkfbapibmdaaGreat
open Go.RowKit

set_option maxRecDepth 100000 in
set_option maxHeartbeats 1000000 in
theorem refAdParse_any (s : ByteArray) (w : World) (hs : s.size ≤ 8000000000000) : Calls Tryz.prog 23 #[.string s] w (GivesAd w (adParse s.data.toList)) := by
  have hv4 := fun w => ref4Parse_any s w hs
  have hv6 := fun w => ref6Parse_any s w hs
  have hl4 := @adParse_lt4 s.data.toList
  have hl6 := v6parse_lt s.data.toList
  obtain ⟨r, hr⟩ : ∃ r, r = adParse s.data.toList := ⟨_, rfl⟩
  rw [← hr]
  unfold adParse at hr
  generalize v4parse s.data.toList = p4 at *
  generalize v6parse s.data.toList = p6 at *
  obtain ⟨n, ok4⟩ := p4
  obtain ⟨hi, lo, ok6⟩ := p6
  simp only at hr hv4 hv6 hl4 hl6
  obtain ⟨l1, l2⟩ := hl6
  cases ok4 with
  | true =>
    have hn := hl4 rfl
    have hw : IntKind.u64.wrap (n : Int) = n := IntWalk.u64_in _ (by omega)
    rw [if_pos rfl] at hr
    have HV := Lib.hid hv4; clear hv4 hv6 hl4
    subst hr
    go_enter Tryz.func23, Tryz.ntmps23
    go_wp2_with (first | (go_at_call 44; refine (HV.out _).mono ?_; rintro e w1 ⟨rfl, b1⟩; obtain ⟨c1, f1⟩ := bcell b1; have z1 := b1.size; simp at z1; have d := fun o => (c1 w.heap.size o (by simp)); have fd := fun o => (f1 w.heap.size o (by simp)); clear c1 f1))
    refine bodyPost_ret (v := .tuple #[.agg #[.bool false, .int .u64 0, .int .u64 n], .bool true]) (by simp [results, Tryz.results23, go_sem, d]) rfl ⟨rfl, ?_⟩
    exact Below.setCell (Below.setCell (Below.setCell (((Below.refl _ _).alloc (Nat.le_refl _) _).trans (b1.mono (by simp))) (Nat.le_refl _) _) (Nat.le_refl _) _) (Nat.le_refl _) _
  | false =>
    rw [if_neg (by simp)] at hr
    have HV := Lib.hid hv4; have HV6 := Lib.hid hv6; clear hv4 hv6 hl4
    cases ok6 with
    | true =>
      rw [if_pos rfl] at hr
      subst hr
      go_enter Tryz.func23, Tryz.ntmps23
      go_wp2_with (first | (go_at_call 44; refine (HV.out _).mono ?_; rintro e w1 ⟨rfl, b1⟩; obtain ⟨c1, f1⟩ := bcell b1; have z1 := b1.size; simp at z1) | (go_at_call 45; refine (HV6.out _).mono ?_; rintro e w2 ⟨rfl, b2⟩; obtain ⟨c2, f2⟩ := bcell b2; have z2 := b2.size) | (go_at_call 46; refine (refAdV6_any hi lo l1 l2 _).mono ?_; rintro e w3 ⟨rfl, b3⟩; obtain ⟨c3, f3⟩ := bcell b3; have d := fun o => (c3 w.heap.size o (by omega)).trans ((c2 w.heap.size o (by omega)).trans (c1 w.heap.size o (by simp))); have fd := fun o => (f3 w.heap.size o (by omega)).trans ((f2 w.heap.size o (by omega)).trans (f1 w.heap.size o (by simp))); clear c1 f1 c2 f2 c3 f3))
      refine bodyPost_ret (v := .tuple #[.agg #[.bool (adOf hi lo).v6, .int .u64 (adOf hi lo).hi, .int .u64 (adOf hi lo).lo], .bool true]) (by simp [results, Tryz.results23, go_sem, d]) rfl ⟨rfl, ?_⟩
      exact Below.setCell (Below.setCell (Below.setCell (((((Below.refl _ _).alloc (Nat.le_refl _) _).trans (b1.mono (by simp))).trans (b2.mono (by omega))).trans (b3.mono (by omega))) (Nat.le_refl _) _) (Nat.le_refl _) _) (Nat.le_refl _) _
    | false =>
      rw [if_neg (by simp)] at hr
      subst hr
      go_enter Tryz.func23, Tryz.ntmps23
      go_wp2_with (first | (go_at_call 44; refine (HV.out _).mono ?_; rintro e w1 ⟨rfl, b1⟩; obtain ⟨c1, f1⟩ := bcell b1; have z1 := b1.size; simp at z1) | (go_at_call 45; refine (HV6.out _).mono ?_; rintro e w2 ⟨rfl, b2⟩; obtain ⟨c2, f2⟩ := bcell b2; have z2 := b2.size; have d := fun o => (c2 w.heap.size o (by omega)).trans (c1 w.heap.size o (by simp)); have fd := fun o => (f2 w.heap.size o (by omega)).trans (f1 w.heap.size o (by simp)); clear c1 f1 c2 f2))
      refine bodyPost_ret (v := .tuple #[.agg #[.bool false, .int .u64 0, .int .u64 0], .bool false]) (by simp [results, Tryz.results23, go_sem, d]) rfl ⟨rfl, ?_⟩
      exact Below.setCell (Below.setCell (Below.setCell ((((Below.refl _ _).alloc (Nat.le_refl _) _).trans (b1.mono (by simp))).trans (b2.mono (by omega))) (Nat.le_refl _) _) (Nat.le_refl _) _) (Nat.le_refl _) _
set_option maxRecDepth 100000 in
theorem adText_any (a : Ad) (hf : a.fits) (w : World) : Calls Tryz.prog 60 #[.agg #[.bool a.v6, .int .u64 a.hi, .int .u64 a.lo]] w fun e w' => e = .returned (.string (bs (adText a))) ∧ Below w.heap.size w w' := by
  have hr := adRight_any a hf
  have h6 := v6Text_any a.hi a.lo hf.1 hf.2
  obtain ⟨t, ht⟩ : ∃ t, t = adText a := ⟨_, rfl⟩
  rw [← ht]
  unfold adText at ht
  cases hx : adRight a with
  | false =>
    rw [hx] at ht hr; rw [if_neg (by simp)] at ht
    have HR := Lib.hid hr; clear hr h6
    subst ht
    go_enter Tryz.func60, Tryz.ntmps60
    go_wp2_with (go_at_call 53; refine (HR.out _).mono ?_; rintro e w1 ⟨rfl, b1⟩)
    go_ret
    exact ⟨rfl, ((Below.refl _ _).alloc (Nat.le_refl _) _).trans (b1.mono (by simp))⟩
  | true =>
    rw [hx] at ht hr; rw [if_pos rfl] at ht
    cases hv : a.v6 with
    | true =>
      rw [hv] at ht hr; rw [if_pos rfl] at ht
      rw [← ht] at h6
      have HR := Lib.hid hr; have H6 := Lib.hid h6; clear hr h6
      go_enter Tryz.func60, Tryz.ntmps60
      go_wp2_with (first | (go_at_call 53; refine (HR.out _).mono ?_; rintro e w1 ⟨rfl, b1⟩; obtain ⟨c1, f1⟩ := bcell b1; have z1 := b1.size; simp at z1) | (go_at_call 84; refine (H6.out _).mono ?_; rintro e w2 ⟨rfl, b2⟩))
      go_ret
      exact ⟨ret_str (by rw [ht]), (((Below.refl _ _).alloc (Nat.le_refl _) _).trans (b1.mono (by simp))).trans (b2.mono (by omega))⟩
    | false =>
      have hl : a.lo < 4294967296 := by
        unfold adRight at hx; rw [if_neg (by rw [hv]; simp)] at hx; exact (of_decide_eq_true hx).2
      have h4 := v4Text_any a.lo hl
      have hw : IntKind.u32.wrap (a.lo : Int) = a.lo := IntWalk.u32_in _ (by omega)
      rw [hv] at ht hr; rw [if_neg (by simp)] at ht
      rw [← ht] at h4
      have HR := Lib.hid hr; have H4 := Lib.hid h4; clear hr h6 h4
      go_enter Tryz.func60, Tryz.ntmps60
      go_wp2_with (first | (go_at_call 53; refine (HR.out _).mono ?_; rintro e w1 ⟨rfl, b1⟩; obtain ⟨c1, f1⟩ := bcell b1; have z1 := b1.size; simp at z1) | (go_at_call 85; refine (H4.out _).mono ?_; rintro e w2 ⟨rfl, b2⟩))
      go_ret
      exact ⟨ret_str (by rw [ht]), (((Below.refl _ _).alloc (Nat.le_refl _) _).trans (b1.mono (by simp))).trans (b2.mono (by omega))⟩
set_option maxRecDepth 100000 in
theorem refAdText_any (a : Ad) (hf : a.fits) (w : World) : Calls Tryz.prog 35 #[.agg #[.bool a.v6, .int .u64 a.hi, .int .u64 a.lo]] w fun e w' => e = .returned (.string (bs (adText a))) ∧ Below w.heap.size w w' := by
  have hr := refAdRight_any a hf
  have h6 := ref6Text_any a.hi a.lo hf.1 hf.2
  obtain ⟨t, ht⟩ : ∃ t, t = adText a := ⟨_, rfl⟩
  rw [← ht]
  unfold adText at ht
  cases hx : adRight a with
  | false =>
    rw [hx] at ht hr; rw [if_neg (by simp)] at ht
    have HR := Lib.hid hr; clear hr h6
    subst ht
    go_enter Tryz.func35, Tryz.ntmps35
    go_wp2_with (go_at_call 28; refine (HR.out _).mono ?_; rintro e w1 ⟨rfl, b1⟩)
    go_ret
    exact ⟨rfl, ((Below.refl _ _).alloc (Nat.le_refl _) _).trans (b1.mono (by simp))⟩
  | true =>
    rw [hx] at ht hr; rw [if_pos rfl] at ht
    cases hv : a.v6 with
    | true =>
      rw [hv] at ht hr; rw [if_pos rfl] at ht
      rw [← ht] at h6
      have HR := Lib.hid hr; have H6 := Lib.hid h6; clear hr h6
      go_enter Tryz.func35, Tryz.ntmps35
      go_wp2_with (first | (go_at_call 28; refine (HR.out _).mono ?_; rintro e w1 ⟨rfl, b1⟩; obtain ⟨c1, f1⟩ := bcell b1; have z1 := b1.size; simp at z1) | (go_at_call 63; refine (H6.out _).mono ?_; rintro e w2 ⟨rfl, b2⟩))
      go_ret
      exact ⟨ret_str (by rw [ht]), (((Below.refl _ _).alloc (Nat.le_refl _) _).trans (b1.mono (by simp))).trans (b2.mono (by omega))⟩
    | false =>
      have hl : a.lo < 4294967296 := by
        unfold adRight at hx; rw [if_neg (by rw [hv]; simp)] at hx; exact (of_decide_eq_true hx).2
      have h4 := ref4Text_any a.lo hl
      have hw : IntKind.u32.wrap (a.lo : Int) = a.lo := IntWalk.u32_in _ (by omega)
      rw [hv] at ht hr; rw [if_neg (by simp)] at ht
      rw [← ht] at h4
      have HR := Lib.hid hr; have H4 := Lib.hid h4; clear hr h6 h4
      go_enter Tryz.func35, Tryz.ntmps35
      go_wp2_with (first | (go_at_call 28; refine (HR.out _).mono ?_; rintro e w1 ⟨rfl, b1⟩; obtain ⟨c1, f1⟩ := bcell b1; have z1 := b1.size; simp at z1) | (go_at_call 64; refine (H4.out _).mono ?_; rintro e w2 ⟨rfl, b2⟩))
      go_ret
      exact ⟨ret_str (by rw [ht]), (((Below.refl _ _).alloc (Nat.le_refl _) _).trans (b1.mono (by simp))).trans (b2.mono (by omega))⟩
end Go.Proofs.YtnohkfbapibmdaaGreat
