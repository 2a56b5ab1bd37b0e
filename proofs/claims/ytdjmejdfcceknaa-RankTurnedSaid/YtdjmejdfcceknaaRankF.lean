/- The contract of rank's reference: who stands first, picked again and again. Conditions: numbers are 64 bits. -/
import Derived.Test.YtdjmejdfcceknaaRankE
import Derived.Test.YtdjmejdfcceknaaQ668131brtnvp
namespace Go.Proofs.Ytdjmejdfcceknaa
open Go.RowKit
set_option linter.unusedSimpArgs false
set_option linter.unusedVariables false

def usedV (n : Nat) (O : List Nat) : List Value := (List.range n).map fun i => .bool (decide (i ∈ O))
theorem usedV_len (n : Nat) (O : List Nat) : (usedV n O).length = n := by simp [usedV]
theorem usedV_get {n i : Nat} {O : List Nat} (h : i < n) : (usedV n O)[i]? = some (.bool (decide (i ∈ O))) := by unfold usedV; rw [List.getElem?_map, List.getElem?_range h]; rfl
theorem usedV_set {n j : Nat} {O : List Nat} (h : j < n) : (usedV n O).set j (.bool true) = usedV n (O ++ [j]) := by
  apply List.ext_getElem?
  intro i
  rw [List.getElem?_set]
  by_cases hi : i < n
  · rw [usedV_get hi, usedV_get hi]
    by_cases e : j = i
    · subst e; simp [usedV_len, h]
    · rw [if_neg e]; simp [Ne.symm e]
  · rw [List.getElem?_eq_none (by rw [usedV_len]; omega), List.getElem?_eq_none (by rw [usedV_len]; omega)]
    split
    · rw [if_neg (by rw [usedV_len]; omega)]
    · rfl
def atI : Option Nat → Int
  | none => -1
  | some j => j
theorem rkIdx_nodup (l : List Pe) (q : Int) (k : Nat) : (rkIdx l q k).Nodup := List.nodup_range.filter _
theorem rkIdx_lt {l : List Pe} {q : Int} {k i : Nat} (h : i ∈ rkIdx l q k) : i < k := List.mem_range.1 (List.mem_filter.1 h).1
theorem left_snoc (A O : List Nat) (i : Nat) : leftOf (A ++ [i]) O = leftOf A O ++ (if i ∈ O then [] else [i]) := by
  unfold leftOf; rw [List.filter_append]; congr 1
  by_cases h : i ∈ O <;> simp [h]
theorem left_nil (O : List Nat) : leftOf [] O = [] := rfl
theorem counts_in {p : Pe} {q : Int} (h : rkCounts p q = true) : 1 ≤ q ∧ q ≤ 4 := by
  unfold rkCounts at h
  by_cases h1 : q = 1
  · omega
  by_cases h4 : q = 4
  · omega
  by_cases h2 : q = 2
  · omega
  by_cases h3 : q = 3
  · omega
  · rw [if_neg h1, if_neg h4, if_neg h2, if_neg h3] at h; cases h
/-- one round of the picking -/
theorem pick_skip {l : List Pe} {q : Int} {s i : Nat} {O : List Nat} (h : i ∈ O ∨ rkCounts (rkGet l i) q = false) : pickL (rkLt l q s) (leftOf (rkIdx l q (i + 1)) O) = pickL (rkLt l q s) (leftOf (rkIdx l q i) O) := by
  rw [rkIdx_succ]
  by_cases hc : rkCounts (rkGet l i) q = true
  · rcases h with h | h
    · rw [if_pos hc, left_snoc, if_pos h, List.append_nil]
    · rw [h] at hc; cases hc
  · rw [if_neg hc, List.append_nil]
theorem pick_take {l : List Pe} {q : Int} {s i : Nat} {O : List Nat} (h : ¬ i ∈ O) (hc : rkCounts (rkGet l i) q = true) : pickL (rkLt l q s) (leftOf (rkIdx l q (i + 1)) O) = pickStep (rkLt l q s) (pickL (rkLt l q s) (leftOf (rkIdx l q i) O)) i := by
  rw [rkIdx_succ, if_pos hc, left_snoc, if_neg h, pickL_snoc]
theorem pick_in {l : List Pe} {q : Int} {s i j : Nat} {O : List Nat} (h : pickL (rkLt l q s) (leftOf (rkIdx l q i) O) = some j) : j < i := by
  obtain ⟨A, B, h1, _, _⟩ := pickL_some (wo_lt l q s) (leftOf (rkIdx l q i) O).reverse (x := j) (by rw [List.reverse_reverse]; exact h)
  rw [List.reverse_reverse] at h1
  have : j ∈ leftOf (rkIdx l q i) O := by rw [h1]; simp
  exact rkIdx_lt (List.mem_filter.1 this).1
theorem owns_ne {w : World} {base n U : Nat} {v : Value} {xs us : List Value} (h : w.ownsRow base 3 1 v n xs) (hb : BlockIs w U us 4) : v.ownBlock ≠ some U := by
  rcases h.2 with ⟨rfl, _⟩ | ⟨g, cap, cur, rfl, hg, hh, _⟩
  · simp [Value.ownBlock]
  · simp only [Value.ownBlock]
    intro e
    injection e with e
    subst e
    unfold BlockIs at hb
    rw [hh] at hb
    injection hb with hb
    injection hb with _ hb
    exact absurd hb (by decide)
theorem blk_grown {w w' : World} {U : Nat} {us : List Value} {T : TypeId} {o : Option Nat} (h : BlockIs w U us T) (hg : w.grownBy w' o) (ho : o ≠ some U) : BlockIs w' U us T := by
  unfold BlockIs at *
  rw [hg.block U (BlockIs.lt (show BlockIs w U us T from h)) (fun e => ho e.symm)]; exact h
theorem run_make_bools (n : Nat) (hn : n ≤ 1000000) (W : World) : (Instr.makeSlice 61 (.int .i64 n) (.int .i64 n)).run Try.prog W = .ok (.slice (some ⟨W.heap.size, 0, none⟩) n n) (W.alloc (.cells (usedV n []).toArray 4)) := by
  obtain ⟨i, hi, hz0, hz1, hz2⟩ := info_parts (show (Try.prog.info? 4).map (fun i => (i.zero, i.size, i.bytes)) = some (some (.bool false), 1, 1) by kernel_rfl)
  have := run_make (P := Try.prog) W 61 4 i (.bool false) Try.underlying61 hi hz0 .i64 .i64 n n (by omega) (by omega) (by rw [hz2]; omega) (by omega)
  have e1 : ((n : Nat) : Int).toNat = n := by omega
  have e2 : madeCells (Value.bool false).cells (n * 1) = (usedV n []).toArray := by
    apply Array.ext
    · simp [size_madeCells, usedV_len]
    · intro j h1 h2
      simp [madeCells, usedV, Value.cells, Nat.mod_one]
  rw [this, e1, hz1, e2]
theorem natV_one (x : Nat) : ∀ u ∈ [natV x], u.oneCell' = true := by intro u hu; rw [List.mem_singleton.1 hu]; rfl
theorem owns_set {w : World} {base n U i : Nat} {v x : Value} {xs us : List Value} (h : w.ownsRow base 3 1 v n xs) (hb : BlockIs w U us 4) : (w.setCell ⟨U, i, none⟩ x).ownsRow base 3 1 v n xs := by
  have hne := owns_ne h hb
  obtain ⟨h1, h2⟩ := h
  refine ⟨h1, ?_⟩
  rcases h2 with h2 | ⟨g, cap, cur, rfl, hg, hh, r⟩
  · exact Or.inl h2
  · refine Or.inr ⟨g, cap, cur, rfl, hg, ?_, r⟩
    have hgu : g ≠ U := fun e => hne (by rw [e]; rfl)
    rw [← hh]; exact Below.heap_setCell _ _ _ _ (fun e => hgu e)
set_option maxRecDepth 100000 in
set_option maxHeartbeats 16000000 in
theorem ref_first_any (v : Value) (l : List Pe) (hl : ∀ x ∈ l, x.fits) (q n : Int) (hn64 : -9223372036854775808 ≤ n ∧ n ≤ 9223372036854775807) (s : Nat) (hs : s < 18446744073709551616) (w : World) (h : ReadsL peV 10 w v l) (hn : l.length ≤ 1000000) :
    Calls Try.prog 44 #[v, .int .i64 q, .int .i64 n, .int .u64 s] w fun e w' => ∃ r, e = .returned r ∧ Reads w' r (rkFirst l q n s).length 1 ((rkFirst l q n s).map natV) ∧ Below w.heap.size w w' := by
  obtain ⟨hm, p, c, rfl, h3⟩ := pes_open h
  clear h
  have hmk := fun W => run_make_bools l.length hn W
  go_enter Try.func44, Try.ntmps44
  go_upto_region 4 with fail
  clear hmk
  go_name_world W0 hW0
  have hO0 : W0.ownsRow w.heap.size 3 1 (.slice (some ⟨w.heap.size, 0, none⟩) 0 0) 0 [] := by subst hW0; exact (World.ownsRow_made w #[] 0 (Nat.le_refl _) (Nat.zero_le _) rfl).alloc _
  have hU0 : BlockIs W0 (w.heap.size + 1) (usedV l.length []) 4 := by subst hW0; exact BlockIs.newAt' _ _ _ (by simp)
  have b0 : Below w.heap.size w W0 := by subst hW0; (repeat (first | with_reducible assumption | with_reducible exact Below.refl _ _ | with_reducible refine Below.setCell ?_ (by first | omega | (simp; done) | (simp; omega)) _ | with_reducible refine Below.alloc ?_ (by first | omega | (simp; done) | (simp; omega)) _ | with_reducible refine Below.drew ?_ | (with_reducible refine Below.trans ?_ (Below.mono (by with_reducible assumption) (by first | omega | (simp; done) | (simp; omega)))) | (refine Below.trans ?_ (Below.mono (by assumption) (by first | omega | (simp; done) | (simp; omega))))))
  obtain ⟨U, hU⟩ : ∃ U, U = w.heap.size + 1 := ⟨_, rfl⟩
  rw [← hU] at hU0
  rw [← hU]
  have HO0 := Lib.hid hO0; have HU0 := Lib.hid hU0; have HB00 := Lib.hid b0; have HUU := Lib.hid hU
  clear hW0 hO0 hU0 b0 hU
  have z0 : W0.heap.size = w.heap.size + 2 ∨ True := Or.inr trivial
  clear z0
  go_wp2_with fail
  go_loopw [9, 11] (fun o' k' wr => ∃ (k : Nat) (O : List Nat), k ≤ l.length ∧ (k : Int) ≤ max n 0 ∧ k' = .int .i64 k ∧ O.length = k ∧ Hid (wr.ownsRow w.heap.size 3 1 o' k (O.map natV)) ∧ Hid (BlockIs wr U (usedV l.length O) 4) ∧ Hid (Below w.heap.size w wr) ∧ Hid (ssort (rkLt l q s) (rkIdx l q l.length) = O ++ ssort (rkLt l q s) (leftOf (rkIdx l q l.length) O))) (fun _ k' _ => l.length - (intOf k').toNat)
  case atStart => exact ⟨0, [], by omega, by omega, rfl, rfl, HO0.out, HU0.out, HB00.out, (show ssort (rkLt l q s) (rkIdx l q l.length) = [] ++ ssort (rkLt l q s) (leftOf (rkIdx l q l.length) []) by rw [show leftOf (rkIdx l q l.length) [] = rkIdx l q l.length from by unfold leftOf; exact List.filter_eq_self.2 (fun _ _ => by simp)]; rfl)⟩
  case round =>
    obtain ⟨k, O, hk, hkn, rfl, hOl, HO, HU, HB0, HS⟩ := hrel
    obtain ⟨wo, rfl⟩ : ∃ wo : World, wo = wr := ⟨_, rfl⟩
    by_cases hc1 : (k : Int) < n
    · by_cases hc2 : k < l.length
      · have hc2z : (k : Int) < (l.length : Int) := by omega
        obtain ⟨b, o, rfl, h4, h5, h6⟩ := h3 (by omega)
        clear h3
        go_wp2_with fail
        go_loopw [12, 13] (fun a' i' wr => ∃ i : Nat, i ≤ l.length ∧ i' = .int .i64 i ∧ a' = .int .i64 (atI (pickL (rkLt l q s) (leftOf (rkIdx l q i) O))) ∧ Hid (Below wo.heap.size wo wr)) (fun _ i' _ => l.length - (intOf i').toNat)
        case atStart => exact ⟨0, by omega, rfl, rfl, Below.refl _ _⟩
        case round =>
          obtain ⟨i, hi, rfl, rfl, HB2⟩ := hrel
          have HU2 := HU
          by_cases hlt : i < l.length
          · obtain ⟨p, hp⟩ : ∃ p, l[i]? = some p := ⟨_, List.getElem?_eq_getElem hlt⟩
            have hu := fun y => (HU2.out.below (HB2.out.trans (ext_below wr y |>.mono HB2.out.size))).cell (usedV_get (O := O) hlt)
            have q1 : (0 : Int) ≤ (i : Int) := by omega
            have q2 : (i : Int) < (l.length : Int) := by omega
            have K := ((h6 i p hp).below (HB0.out.trans (HB2.out.mono HB0.out.size)) h5).ext (Nat.lt_of_lt_of_le h5 (HB0.out.trans (HB2.out.mono HB0.out.size)).size)
            have x0 := fun y => (K y).1; have x1 := fun y => (K y).2.1; have x2 := fun y => (K y).2.2.1; have x3 := fun y => (K y).2.2.2.1; have x4 := fun y => (K y).2.2.2.2.1; have x5 := fun y => (K y).2.2.2.2.2.1; have x6 := fun y => (K y).2.2.2.2.2.2.1; have x7 := fun y => (K y).2.2.2.2.2.2.2.1; have x8 := fun y => (K y).2.2.2.2.2.2.2.2.1; have x9 := fun y => (K y).2.2.2.2.2.2.2.2.2
            have hg := rkGet_at hp
            have HC := Lib.hid (fun w => ref_counts_any p q w)
            clear K
            by_cases hin : i ∈ O
            · have HR : Hid (pickL (rkLt l q s) (leftOf (rkIdx l q (i + 1)) O) = pickL (rkLt l q s) (leftOf (rkIdx l q i) O)) := pick_skip (Or.inl hin)
              have hu' : ∀ y, (Go.Proofs.Ytdjmejdfcceknaa.ext wr y).cell? ⟨U, i, none⟩ = some (.bool true) := fun y => by rw [hu y, decide_eq_true hin]
              have HA : Hid True := trivial
              clear hu hg hp hin
              go_wp2_with fail
              refine wp_region_ext (by kernel_rfl) (by kernel_rfl) ?_
              repeat (go_big_quiet_step ((first | (go_at_call 39; with_reducible exact qe (HC.out _)) | (go_at_call 41; with_reducible exact qe (HA.out _)))))
              refine wpQuiet_nil ?_
              intro _ hw'
              obtain ⟨gx, hw'''⟩ := hw'
              subst hw'''
              clear hu' x0 x1 x2 x3 x4 x5 x6 x7 x8 x9
              have b8 := below2 HB2.out (ext_below wr gx)
              go_wp2_with fail
              go_roundw
              case rel => exact ⟨i + 1, by omega, by go_num, by rw [HR.out], b8⟩
              case measure => simp [intOf]; omega

            have hu' : ∀ y, (Go.Proofs.Ytdjmejdfcceknaa.ext wr y).cell? ⟨U, i, none⟩ = some (.bool false) := fun y => by rw [hu y, decide_eq_false hin]
            clear hu
            cases hcc : rkCounts p q with
            | false =>
              have HR : Hid (pickL (rkLt l q s) (leftOf (rkIdx l q (i + 1)) O) = pickL (rkLt l q s) (leftOf (rkIdx l q i) O)) := pick_skip (Or.inr (by rw [hg]; exact hcc))
              have HA : Hid True := trivial
              have HC0 := HC.out
              rw [hcc] at HC0
              clear HC
              have HC := Lib.hid HC0
              clear HC0 hg hp hin hcc
              go_wp2_with fail
              refine wp_region_ext (by kernel_rfl) (by kernel_rfl) ?_
              repeat (go_big_quiet_step ((first | (go_at_call 39; with_reducible exact qe (HC.out _)) | (go_at_call 41; with_reducible exact qe (HA.out _)))))
              refine wpQuiet_nil ?_
              intro _ hw'
              obtain ⟨gx, hw'''⟩ := hw'
              subst hw'''
              clear hu' x0 x1 x2 x3 x4 x5 x6 x7 x8 x9
              have b8 := below2 HB2.out (ext_below wr gx)
              go_wp2_with fail
              go_roundw
              case rel => exact ⟨i + 1, by omega, by go_num, by rw [HR.out], b8⟩
              case measure => simp [intOf]; omega

            | true =>
              have HR := Lib.hid (pick_take (s := s) hin (show rkCounts (rkGet l i) q = true by rw [hg]; exact hcc))
              have HC0 := HC.out
              rw [hcc] at HC0
              clear HC
              have HC := Lib.hid HC0
              clear HC0
              cases hpk : pickL (rkLt l q s) (leftOf (rkIdx l q i) O) with
              | none =>
                have hat : atI none = -1 := rfl
                rw [hpk] at HR
                have HA : Hid True := trivial
                simp only [hat]
                clear hg hp hin hcc hpk hat
                go_wp2_with fail
                refine wp_region_ext (by kernel_rfl) (by kernel_rfl) ?_
                repeat (go_big_quiet_step ((first | (go_at_call 39; with_reducible exact qe (HC.out _)) | (go_at_call 41; with_reducible exact qe (HA.out _)))))
                refine wpQuiet_nil ?_
                intro _ hw'
                obtain ⟨gx, hw'''⟩ := hw'
                subst hw'''
                clear hu' x0 x1 x2 x3 x4 x5 x6 x7 x8 x9
                have b8 := below2 HB2.out (ext_below wr gx)
                go_wp2_with fail
                go_roundw
                case rel => exact ⟨i + 1, by omega, by go_num, by rw [HR.out]; rfl, b8⟩
                case measure => simp [intOf]; omega

              | some j =>
                have hji := pick_in hpk
                have hjl : j < l.length := by omega
                obtain ⟨pj, hpj⟩ : ∃ p, l[j]? = some p := ⟨_, List.getElem?_eq_getElem hjl⟩
                have K2 := ((h6 j pj hpj).below (HB0.out.trans (HB2.out.mono HB0.out.size)) h5).ext (Nat.lt_of_lt_of_le h5 (HB0.out.trans (HB2.out.mono HB0.out.size)).size)
                have y0 := fun y => (K2 y).1; have y1 := fun y => (K2 y).2.1; have y2 := fun y => (K2 y).2.2.1; have y3 := fun y => (K2 y).2.2.2.1; have y4 := fun y => (K2 y).2.2.2.2.1; have y5 := fun y => (K2 y).2.2.2.2.2.1; have y6 := fun y => (K2 y).2.2.2.2.2.2.1; have y7 := fun y => (K2 y).2.2.2.2.2.2.2.1; have y8 := fun y => (K2 y).2.2.2.2.2.2.2.2.1; have y9 := fun y => (K2 y).2.2.2.2.2.2.2.2.2
                have q3 : (0 : Int) ≤ (j : Int) := by omega
                have q4 : (j : Int) < (l.length : Int) := by omega
                have hin4 := counts_in hcc
                have hlt2 : rkLt l q s i j = rkAhead p pj q s := by rw [rkAhead_in hin4.1 hin4.2]; unfold rkLt; rw [hg, rkGet_at hpj]
                have hA0 := fun w => ref_ahead_any p pj (hl p (List.mem_of_getElem? hp)) (hl pj (List.mem_of_getElem? hpj)) q s hs w
                rw [hpk] at HR
                have hat : atI (some j) = (j : Int) := rfl
                have hnj : ¬ ((j : Int) < 0) := by omega
                have hnjd : decide ((j : Int) < 0) = false := decide_eq_false hnj
                simp only [hat]
                cases haa : rkAhead p pj q s with
                | true =>
                  have HR2 : Hid (pickL (rkLt l q s) (leftOf (rkIdx l q (i + 1)) O) = some i) := by show _ = _; rw [HR.out]; unfold pickStep; simp only; rw [hlt2, haa]; rfl
                  rw [haa] at hA0
                  have HA := Lib.hid hA0
                  clear hA0 hg hp hin hcc hpk hat K2 hpj hlt2 haa HR
                  go_wp2_with fail
                  refine wp_region_ext (by kernel_rfl) (by kernel_rfl) ?_
                  repeat (go_big_quiet_step ((first | (go_at_call 39; with_reducible exact qe (HC.out _)) | (go_at_call 41; with_reducible exact qe (HA.out _)))))
                  refine wpQuiet_nil ?_
                  intro _ hw'
                  obtain ⟨gx, hw'''⟩ := hw'
                  subst hw'''
                  clear hu' x0 x1 x2 x3 x4 x5 x6 x7 x8 x9 y0 y1 y2 y3 y4 y5 y6 y7 y8 y9
                  have b8 := below2 HB2.out (ext_below wr gx)
                  go_wp2_with fail
                  go_roundw
                  case rel => exact ⟨i + 1, by omega, by go_num, by rw [HR2.out]; rfl, b8⟩
                  case measure => simp [intOf]; omega

                | false =>
                  have HR2 : Hid (pickL (rkLt l q s) (leftOf (rkIdx l q (i + 1)) O) = some j) := by show _ = _; rw [HR.out]; unfold pickStep; simp only; rw [hlt2, haa]; rfl
                  rw [haa] at hA0
                  have HA := Lib.hid hA0
                  clear hA0 hg hp hin hcc hpk hat K2 hpj hlt2 haa HR
                  go_wp2_with fail
                  refine wp_region_ext (by kernel_rfl) (by kernel_rfl) ?_
                  repeat (go_big_quiet_step ((first | (go_at_call 39; with_reducible exact qe (HC.out _)) | (go_at_call 41; with_reducible exact qe (HA.out _)))))
                  refine wpQuiet_nil ?_
                  intro _ hw'
                  obtain ⟨gx, hw'''⟩ := hw'
                  subst hw'''
                  clear hu' x0 x1 x2 x3 x4 x5 x6 x7 x8 x9 y0 y1 y2 y3 y4 y5 y6 y7 y8 y9
                  have b8 := below2 HB2.out (ext_below wr gx)
                  go_wp2_with fail
                  go_roundw
                  case rel => exact ⟨i + 1, by omega, by go_num, by rw [HR2.out]; rfl, b8⟩
                  case measure => simp [intOf]; omega

          · obtain rfl : i = l.length := by omega
            have hB2 := HB0.out.trans (HB2.out.mono HB0.out.size)
            have HB2' := Lib.hid hB2
            have HO2 := Lib.hid (owns_below HO.out HB2.out)
            have HUw := Lib.hid (HU.out.below HB2.out)
            clear hB2
            cases hpk : pickL (rkLt l q s) (leftOf (rkIdx l q l.length) O) with
            | none =>
              have hat : atI none = -1 := rfl
              have hle := pickL_nil hpk
              have HE : Hid (rkFirst l q n s = O) := by
                show _ = _; unfold rkFirst; rw [HS.out, hle]; show (O ++ []).take _ = _; rw [List.append_nil, List.take_of_length_le (by omega)]
              simp only [hat]
              clear hpk hle hat
              go_wp2_with fail
              go_ret
              exact ⟨_, rfl, by rw [HE.out, hOl]; exact owns_reads HO2.out, HB2'.out⟩
            | some j =>
              obtain ⟨hj1, hj2, hj3⟩ := left_pick (wo_lt l q s) (rkIdx_nodup l q l.length) hpk HS.out
              have hjl := rkIdx_lt hj1
              have hat : atI (some j) = (j : Int) := rfl
              have hnj : ¬ ((j : Int) < 0) := by omega
              have q3 : (0 : Int) ≤ (j : Int) := by omega
              have q4 : (j : Int) < (l.length : Int) := by omega
              have hcu := HUw.out.cell (usedV_get (O := O) hjl)
              have hfu := HUw.out.frozen j
              have hUl := HUw.out.lt
              simp only [hat]
              have HS3 := Lib.hid hj3
              clear hpk hat hj1 hj2 hj3
              go_upto_region 15 with fail
              go_name_world W5 hW5
              have hU5 : BlockIs W5 U (usedV l.length (O ++ [j])) 4 := by subst hW5; rw [← usedV_set hjl]; exact HUw.out.set j _
              have hO5 := owns_set (i := j) (x := .bool true) HO2.out HUw.out
              rw [hW5] at hO5
              have hB5 : Below w.heap.size w W5 := by subst hW5; exact HB2'.out.setCell (by show w.heap.size ≤ U; have := HUU.out; omega) _
              clear hW5 hcu hfu
              have HU5 := Lib.hid hU5; have HB5 := Lib.hid hB5
              clear hU5 hB5
              go_wp2_with (at_builtin; refine list_app_reads_g intRow rfl _ _ rfl w.heap.size _ k (O.map natV) rfl (hO5.alloc _) _ 1 [natV j] rfl (reads_one (us := [natV j]) rfl (Nat.succ_pos 0)) (natV_one j) (by omega) (by omega) (by have := HB5.out.size; simp; omega) ?_; intro v' w7 hO7 hg7)
              go_roundw
              case rel => exact ⟨k + 1, O ++ [j], by omega, by omega, by go_num, by simp [hOl], (show World.ownsRow _ _ _ _ _ _ _ by simpa using hO7), blk_grown ((HU5.out).alloc' _) hg7 (owns_ne hO5 HU5.out), below_grown (hO5.alloc _) ((HB5.out).alloc (HB5.out.size) _) (Nat.le_refl _) (by have := HB5.out.size; simp; omega) hg7, HS3.out⟩
              case measure => simp [intOf]; omega
      · have hc2z : ¬ ((k : Int) < (l.length : Int)) := by omega
        have HE : Hid (rkFirst l q n s = O) := by
          have h1 : (ssort (rkLt l q s) (rkIdx l q l.length)).length ≤ l.length := by
            rw [ssort_len]; unfold rkIdx; exact Nat.le_trans (List.length_filter_le _ _) (by simp)
          have h2 := congrArg List.length HS.out
          rw [List.length_append] at h2
          have h4 : ssort (rkLt l q s) (leftOf (rkIdx l q l.length) O) = [] := List.length_eq_zero_iff.1 (by omega)
          show _ = _; unfold rkFirst; rw [HS.out, h4, List.append_nil, List.take_of_length_le (by omega)]
        go_wp2_with fail
        go_ret
        exact ⟨_, rfl, by rw [HE.out, hOl]; exact owns_reads HO.out, HB0.out⟩
    · have HE : Hid (rkFirst l q n s = O) := by
        show _ = _; unfold rkFirst; rw [HS.out, List.take_append_of_le_length (by omega), List.take_of_length_le (by omega)]
      go_wp2_with fail
      go_ret
      exact ⟨_, rfl, by rw [HE.out, hOl]; exact owns_reads HO.out, HB0.out⟩
end Go.Proofs.Ytdjmejdfcceknaa
