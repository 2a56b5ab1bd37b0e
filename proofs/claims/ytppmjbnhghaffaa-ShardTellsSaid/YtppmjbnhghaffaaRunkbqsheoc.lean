/- Texts put together: SortP. No condition. -/
import Derived.Test.YtppmjbnhghaffaaRtmrzfuohrc
import Derived.Test.YtppmjbnhghaffaaRmcavooviyn
import Derived.Deep.LoopGhost
import Derived.BigRegion
namespace Go.Proofs.Ytppmjbnhghaffaa
open Go.RowKit Go.Lib Go.Sort
set_option linter.unusedSimpArgs false
set_option linter.unusedVariables false

set_option maxHeartbeats 4000000 in
set_option maxRecDepth 100000 in
theorem swapRange_p (a b n : Nat) (g : Nat) (cb : Array Value) (base blk cap : Nat) (d : Array Pe) (w0 w : World) (S : SP base w0 blk cap d w) (ha : a + n ≤ d.size) (hb : b + n ≤ d.size) (hsz : d.size < 4611686018427387904) :
    Calls Try.prog 195 #[.slice (some ⟨blk, 0, none⟩) d.size cap, .int .i64 a, .int .i64 b, .int .i64 n, .func (.func g) #[] cb] w fun e w' => e = .returned (.tuple #[]) ∧ SP base w0 blk cap (swpR a b n 0 d) w' := by
  have mixed : Try.prog.follows .mixedOrders = true := by kernel_rfl
  have S0 : Aside _ := S
  clear S
  go_enter Try.func195, Try.ntmps195
  go_wp2
  go_loopg [10] n (fun g1 vi wr => ∃ (i : Nat) (dk : Array Pe), vi = .int .i64 i ∧ i ≤ n ∧ n - i ≤ g1 ∧ dk.size = d.size ∧ Aside (SP base w0 blk cap dk wr) ∧ Hid (swpR a b (n - i) i dk = swpR a b n 0 d))
  case atStart => exact ⟨0, d, by first | rfl | go_num, by omega, by omega, rfl, S0, rfl⟩
  case round =>
    clear S0
    obtain ⟨i, dk, rfl, hin, hg1, hsk, S1, HO⟩ := hrel
    by_cases hlt : i < n
    · have hltz : (i : Int) < (n : Int) := by omega
      obtain ⟨iN1, hiN1⟩ : ∃ q, q = a + i := ⟨_, rfl⟩
      obtain ⟨jN1, hjN1⟩ : ∃ q, q = b + i := ⟨_, rfl⟩
      have ea1 : ((a : Int) + (i : Int)).toNat = iN1 := by omega
      have pa1 : (0 : Int) ≤ (a : Int) + (i : Int) := by omega
      have ba1 : (a : Int) + (i : Int) < (d.size : Int) := by omega
      have ra1 : IntKind.i64.wrap ((a : Int) + (i : Int)) = (a : Int) + (i : Int) := by rw [IntKind.wrap_i64]; omega
      have ec1 : ((b : Int) + (i : Int)).toNat = jN1 := by omega
      have pc1 : (0 : Int) ≤ (b : Int) + (i : Int) := by omega
      have bc1 : (b : Int) + (i : Int) < (d.size : Int) := by omega
      have rc1 : IntKind.i64.wrap ((b : Int) + (i : Int)) = (b : Int) + (i : Int) := by rw [IntKind.wrap_i64]; omega
      obtain ⟨x1, hx1⟩ : ∃ x, x = dk[a + i]! := ⟨_, rfl⟩
      obtain ⟨y1, hy1⟩ : ∃ x, x = dk[b + i]! := ⟨_, rfl⟩
      have S3 : Aside (SP base w0 blk cap (swp dk (a + i) (b + i)) ((wr.drew.setCells blk (iN1 * 10) (peV y1)).setCells blk (jN1 * 10) (peV x1))) := by rw [hiN1, hjN1, hx1, hy1]; exact S1.out.drew.swapped2 (i := a + i) (j := b + i) (by omega) (by omega)
      have RA1 : Hid (wr.drew.rangeAt blk (iN1 * 10) (peV x1)) := by show World.rangeAt _ _ _ _; rw [hiN1, hx1]; exact S1.out.drew.range (by omega)
      have RB1 : Hid (wr.drew.rangeAt blk (jN1 * 10) (peV y1)) := by show World.rangeAt _ _ _ _; rw [hjN1, hy1]; exact S1.out.drew.range (by omega)
      have TA1 : Hid (wr.drew.there blk (iN1 * 10) 10) := by show World.there _ _ _ _; rw [hiN1]; exact S1.out.drew.there (by omega)
      have TB1 : Hid ((wr.drew.setCells blk (iN1 * 10) (peV y1)).there blk (jN1 * 10) 10) := by show World.there _ _ _ _; rw [hiN1, hjN1]; exact S1.out.drew.there2 (by omega) (by omega) _
      clear S1 hx1 hy1
      clear hiN1
      clear hjN1
      go_wp2_with fail
      refine wp_region_any (by kernel_rfl) ?_
      try (change wpAny _ _ _ _ _ _ _ (World.drew _))
      refine wpAny_take (i := 0) (v := ?_) (by simp only [List.getElem?_toArray, List.getElem?_cons_succ, List.getElem?_cons_zero]; rfl) (by kernel_rfl) (by kernel_rfl) (by kernel_rfl) ?hQ1 (Or.inl ⟨by rfl, ?hy1⟩) ?main1
      case hQ1 => exact fun _ _ _ h => h
      case hy1 => ((intro w; go_simp); try with_reducible rfl)
      simp only [Act.put, List.setIfInBounds_toArray, List.set_cons_zero, List.set_cons_succ, List.toList_toArray]
      refine wpAny_take (i := 1) (v := ?_) (by simp only [List.getElem?_toArray, List.getElem?_cons_succ, List.getElem?_cons_zero]; rfl) (by kernel_rfl) (by kernel_rfl) (by kernel_rfl) ?hQ2 (Or.inl ⟨by rfl, ?hy2⟩) ?main2
      case hQ2 => exact fun _ _ _ h => h
      case hy2 => ((intro w; go_simp); try with_reducible rfl)
      simp only [Act.put, List.setIfInBounds_toArray, List.set_cons_zero, List.set_cons_succ, List.toList_toArray]
      refine wpAny_take (i := 2) (v := ?_) (by simp only [List.getElem?_toArray, List.getElem?_cons_succ, List.getElem?_cons_zero]; rfl) (by kernel_rfl) (by kernel_rfl) (by kernel_rfl) ?hQ3 (Or.inl ⟨by rfl, ?hy3⟩) ?main3
      case hQ3 => exact fun _ _ _ h => h
      case hy3 => ((intro w; go_simp); try with_reducible rfl)
      simp only [Act.put, List.setIfInBounds_toArray, List.set_cons_zero, List.set_cons_succ, List.toList_toArray]
      refine wpAny_take (i := 3) (v := ?_) (by simp only [List.getElem?_toArray, List.getElem?_cons_succ, List.getElem?_cons_zero]; rfl) (by kernel_rfl) (by kernel_rfl) (by kernel_rfl) ?hQ4 (Or.inl ⟨by rfl, ?hy4⟩) ?main4
      case hQ4 => exact fun _ _ _ h => h
      case hy4 => ((intro w; go_simp); try with_reducible rfl)
      simp only [Act.put, List.setIfInBounds_toArray, List.set_cons_zero, List.set_cons_succ, List.toList_toArray]
      refine wpAny_take (i := 4) (v := ?_) (by simp only [List.getElem?_toArray, List.getElem?_cons_succ, List.getElem?_cons_zero]; rfl) (by kernel_rfl) (by kernel_rfl) (by kernel_rfl) ?hQ5 (Or.inl ⟨by rfl, ?hy5⟩) ?main5
      case hQ5 => exact fun _ _ _ h => h
      case hy5 => ((intro w; go_simp); try with_reducible rfl)
      simp only [Act.put, List.setIfInBounds_toArray, List.set_cons_zero, List.set_cons_succ, List.toList_toArray]
      refine wpAny_take (i := 5) (v := ?_) (by simp only [List.getElem?_toArray, List.getElem?_cons_succ, List.getElem?_cons_zero]; rfl) (by kernel_rfl) (by kernel_rfl) (by kernel_rfl) ?hQ6 (Or.inl ⟨by rfl, ?hy6⟩) ?main6
      case hQ6 => exact fun _ _ _ h => h
      case hy6 => ((intro w; go_simp); try with_reducible rfl)
      simp only [Act.put, List.setIfInBounds_toArray, List.set_cons_zero, List.set_cons_succ, List.toList_toArray]
      refine wpAny_take (i := 6) (v := ?_) (by simp only [List.getElem?_toArray, List.getElem?_cons_succ, List.getElem?_cons_zero]; rfl) (by kernel_rfl) (by kernel_rfl) (by kernel_rfl) ?hQ7 (Or.inl ⟨by rfl, ?hy7⟩) ?main7
      case hQ7 => exact fun _ _ _ h => h
      case hy7 => ((intro w; go_simp); try with_reducible rfl)
      simp only [Act.put, List.setIfInBounds_toArray, List.set_cons_zero, List.set_cons_succ, List.toList_toArray]
      refine wpAny_take (i := 7) (v := ?_) (by simp only [List.getElem?_toArray, List.getElem?_cons_succ, List.getElem?_cons_zero]; rfl) (by kernel_rfl) (by kernel_rfl) (by kernel_rfl) ?hQ8 (Or.inl ⟨by rfl, ?hy8⟩) ?main8
      case hQ8 => exact fun _ _ _ h => h
      case hy8 => ((intro w; go_simp); try with_reducible rfl)
      simp only [Act.put, List.setIfInBounds_toArray, List.set_cons_zero, List.set_cons_succ, List.toList_toArray]
      refine wpAny_take (i := 8) (v := ?_) (by simp only [List.getElem?_toArray, List.getElem?_cons_succ, List.getElem?_cons_zero]; rfl) (by kernel_rfl) (by kernel_rfl) (by kernel_rfl) ?hQ9 (Or.inl ⟨by rfl, ?hy9⟩) ?main9
      case hQ9 => exact fun _ _ _ h => h
      case hy9 => ((intro w; go_simp); try with_reducible rfl)
      simp only [Act.put, List.setIfInBounds_toArray, List.set_cons_zero, List.set_cons_succ, List.toList_toArray]
      refine wpAny_take (i := 9) (v := ?_) (by simp only [List.getElem?_toArray, List.getElem?_cons_succ, List.getElem?_cons_zero]; rfl) (by kernel_rfl) (by kernel_rfl) (by kernel_rfl) ?hQ10 (Or.inl ⟨by rfl, ?hy10⟩) ?main10
      case hQ10 => exact fun _ _ _ h => h
      case hy10 => ((intro w; go_simp); try with_reducible rfl)
      simp only [Act.put, List.setIfInBounds_toArray, List.set_cons_zero, List.set_cons_succ, List.toList_toArray]
      refine wpAny_take (i := 10) (v := ?_) (by simp only [List.getElem?_toArray, List.getElem?_cons_succ, List.getElem?_cons_zero]; rfl) (by kernel_rfl) (by kernel_rfl) (by kernel_rfl) ?hQ11 (Or.inl ⟨by rfl, ?hy11⟩) ?main11
      case hQ11 => exact fun _ _ _ h => h
      case hy11 => ((intro w; go_simp); try with_reducible rfl)
      simp only [Act.put, List.setIfInBounds_toArray, List.set_cons_zero, List.set_cons_succ, List.toList_toArray]
      refine wpAny_take (i := 11) (v := ?_) (by simp only [List.getElem?_toArray, List.getElem?_cons_succ, List.getElem?_cons_zero]; rfl) (by kernel_rfl) (by kernel_rfl) (by kernel_rfl) ?hQ12 (Or.inl ⟨by rfl, ?hy12⟩) ?main12
      case hQ12 => exact fun _ _ _ h => h
      case hy12 => ((intro w; go_simp); try with_reducible rfl)
      simp only [Act.put, List.setIfInBounds_toArray, List.set_cons_zero, List.set_cons_succ, List.toList_toArray]
      refine wpAny_take (i := 12) (v := ?_) (by simp only [List.getElem?_toArray, List.getElem?_cons_succ, List.getElem?_cons_zero]; rfl) (by kernel_rfl) (by kernel_rfl) (by kernel_rfl) ?hQ13 (Or.inl ⟨by rfl, ?hy13⟩) ?main13
      case hQ13 => exact fun _ _ _ h => h
      case hy13 => ((intro w; go_simp); try with_reducible rfl)
      simp only [Act.put, List.setIfInBounds_toArray, List.set_cons_zero, List.set_cons_succ, List.toList_toArray]
      refine wpAny_take (i := 14) (v := ?_) (by simp only [List.getElem?_toArray, List.getElem?_cons_succ, List.getElem?_cons_zero]; rfl) (by kernel_rfl) (by kernel_rfl) (by kernel_rfl) ?hQ14 (Or.inl ⟨by rfl, ?hy14⟩) ?main14
      case hQ14 => exact fun _ _ _ h => h
      case hy14 => ((intro w; go_simp); try with_reducible rfl)
      simp only [Act.put, List.setIfInBounds_toArray, List.set_cons_zero, List.set_cons_succ, List.toList_toArray]
      refine wpAny_take (i := 15) (v := ?_) (by simp only [List.getElem?_toArray, List.getElem?_cons_succ, List.getElem?_cons_zero]; rfl) (by kernel_rfl) (by kernel_rfl) (by kernel_rfl) ?hQ15 (Or.inl ⟨by rfl, ?hy15⟩) ?main15
      case hQ15 => exact fun _ _ _ h => h
      case hy15 => ((intro w; go_simp); try with_reducible rfl)
      simp only [Act.put, List.setIfInBounds_toArray, List.set_cons_zero, List.set_cons_succ, List.toList_toArray]
      refine wpAny_take (i := 16) (v := ?_) (by simp only [List.getElem?_toArray, List.getElem?_cons_succ, List.getElem?_cons_zero]; rfl) (by kernel_rfl) (by kernel_rfl) (by kernel_rfl) ?hQ16 (Or.inl ⟨by rfl, ?hy16⟩) ?main16
      case hQ16 => exact fun _ _ _ h => h
      case hy16 => ((intro w; go_simp); try with_reducible rfl)
      simp only [Act.put, List.setIfInBounds_toArray, List.set_cons_zero, List.set_cons_succ, List.toList_toArray]
      refine wpAny_take (i := 17) (v := ?_) (by simp only [List.getElem?_toArray, List.getElem?_cons_succ, List.getElem?_cons_zero]; rfl) (by kernel_rfl) (by kernel_rfl) (by kernel_rfl) ?hQ17 (Or.inl ⟨by rfl, ?hy17⟩) ?main17
      case hQ17 => exact fun _ _ _ h => h
      case hy17 => ((intro w; go_simp); try with_reducible rfl)
      simp only [Act.put, List.setIfInBounds_toArray, List.set_cons_zero, List.set_cons_succ, List.toList_toArray]
      refine wpAny_take (i := 18) (v := ?_) (by simp only [List.getElem?_toArray, List.getElem?_cons_succ, List.getElem?_cons_zero]; rfl) (by kernel_rfl) (by kernel_rfl) (by kernel_rfl) ?hQ18 (Or.inl ⟨by rfl, ?hy18⟩) ?main18
      case hQ18 => exact fun _ _ _ h => h
      case hy18 => ((intro w; go_simp); try with_reducible rfl)
      simp only [Act.put, List.setIfInBounds_toArray, List.set_cons_zero, List.set_cons_succ, List.toList_toArray]
      refine any_loads2 (i := 13) (j := 19) (by simp only [List.getElem?_toArray, List.getElem?_cons_succ, List.getElem?_cons_zero]; rfl) (by simp only [List.getElem?_toArray, List.getElem?_cons_succ, List.getElem?_cons_zero]; rfl) (by kernel_rfl) (by kernel_rfl) (by kernel_rfl) rfl rfl 66 (.tmp 28) (.tmp 34) rfl rfl blk (jN1 * 10) (iN1 * 10) _ _ _ rfl rfl rfl rfl RB1.out RA1.out Try.underlying66 rfl (by kernel_rfl) (by kernel_rfl) (by decide) rfl ?_
      simp only [Act.put, List.setIfInBounds_toArray, List.set_cons_zero, List.set_cons_succ, List.toList_toArray]
      refine wpAny_take (i := 20) (v := ?_) (by simp only [List.getElem?_toArray, List.getElem?_cons_succ, List.getElem?_cons_zero]; rfl) (by kernel_rfl) (by kernel_rfl) (by kernel_rfl) ?hQ19 (Or.inl ⟨by rfl, ?hy19⟩) ?main19
      case hQ19 => exact fun _ _ _ h => h
      case hy19 => ((intro w; go_simp); try with_reducible rfl)
      simp only [Act.put, List.setIfInBounds_toArray, List.set_cons_zero, List.set_cons_succ, List.toList_toArray]
      refine any_one (i := 21) (by kernel_rfl) ?_
      refine wpOp_store_mid (by simp only [List.getElem?_toArray, List.getElem?_cons_succ, List.getElem?_cons_zero]; rfl) rfl 66 (.tmp 36) (.tmp 29) rfl blk (iN1 * 10) (peV y1).toArray rfl rfl TA1.out (by kernel_rfl) (peV_all _) ?_
      simp only [Act.put, List.setIfInBounds_toArray, List.set_cons_zero, List.set_cons_succ, List.toList_toArray]
      refine wpAny_take (i := 22) (v := ?_) (by simp only [List.getElem?_toArray, List.getElem?_cons_succ, List.getElem?_cons_zero]; rfl) (by kernel_rfl) (by kernel_rfl) (by kernel_rfl) ?hQ20 (Or.inl ⟨by rfl, ?hy20⟩) ?main20
      case hQ20 => exact fun _ _ _ h => h
      case hy20 => ((intro w; go_simp); try with_reducible rfl)
      simp only [Act.put, List.setIfInBounds_toArray, List.set_cons_zero, List.set_cons_succ, List.toList_toArray]
      refine any_one (i := 23) (by kernel_rfl) ?_
      refine wpOp_store_mid (by simp only [List.getElem?_toArray, List.getElem?_cons_succ, List.getElem?_cons_zero]; rfl) rfl 66 (.tmp 37) (.tmp 35) rfl blk (jN1 * 10) (peV x1).toArray rfl rfl TB1.out (by kernel_rfl) (peV_all _) ?_
      simp only [Act.put, List.setIfInBounds_toArray, List.set_cons_zero, List.set_cons_succ, List.toList_toArray]
      refine wpAny_done (by kernel_rfl) ?_ _
      clear RA1 RB1 TA1 TB1
      generalize ((wr.drew.setCells blk (iN1 * 10) (peV y1)).setCells blk (jN1 * 10) (peV x1)) = w3 at S3 ⊢
      clear ea1
      clear ec1
      go_wp2
      go_roundg (n - (i + 1))
      case measure => omega
      case rel => exact ⟨i + 1, swp dk (a + i) (b + i), by first | rfl | go_num | (congr 1; omega), by omega, Nat.le_refl _, by rw [size_swp]; exact hsk, S3, (show Hid _ from by rw [← HO.out, show n - i = (n - (i + 1)) + 1 by omega]; exact rfl)⟩
    · obtain rfl : n = i := by omega
      have HF : Hid (swpR a b n 0 d = dk) := by show _ = _; rw [← HO.out, Nat.sub_self]; rfl
      go_wp2
      go_end0
      exact ⟨rfl, by rw [HF.out]; exact S1.out⟩
set_option maxHeartbeats 4000000 in
set_option maxRecDepth 100000 in
theorem rotate_p (a m b : Nat) (g : Nat) (cb : Array Value) (base blk cap : Nat) (d : Array Pe) (w0 w : World) (S : SP base w0 blk cap d w) (ha : a < m) (hm : m < b) (hb : b ≤ d.size) (hsz : d.size < 4611686018427387904) :
    Calls Try.prog 185 #[.slice (some ⟨blk, 0, none⟩) d.size cap, .int .i64 a, .int .i64 m, .int .i64 b, .func (.func g) #[] cb] w fun e w' => e = .returned (.tuple #[]) ∧ SP base w0 blk cap (rotA m (b - a) (m - a) (b - m) d) w' := by
  have mixed : Try.prog.follows .mixedOrders = true := by kernel_rfl
  have S0 : Aside _ := S
  clear S
  go_enter Try.func185, Try.ntmps185
  go_wp2
  go_loopg [10, 11] (b - a) (fun g1 vi vj wr => ∃ (i j : Nat) (dk : Array Pe), vi = .int .i64 i ∧ vj = .int .i64 j ∧ 0 < i ∧ 0 < j ∧ a + i ≤ m ∧ m + j ≤ b ∧ i + j ≤ g1 ∧ dk.size = d.size ∧ Aside (SP base w0 blk cap dk wr) ∧ Hid (∀ f, i + j ≤ f → rotA m f i j dk = rotA m (b - a) (m - a) (b - m) d))
  case atStart => exact ⟨m - a, b - m, d, by first | go_num | (congr 1; omega), by first | go_num | (congr 1; omega), by omega, by omega, by omega, by omega, by omega, rfl, S0, fun f hf => rotA_fuel m f (b - a) (m - a) (b - m) d (by omega) (by omega) (by omega) (by omega)⟩
  case round =>
    clear S0
    obtain ⟨i, j, dk, rfl, rfl, hi0, hj0, hai, hjb, hg1, hsk, S1, HO⟩ := hrel
    by_cases hne : i = j
    · subst hne
      have hsw := swapRange_p (m - i) m i g cb base blk cap dk w0 wr S1.out (by omega) (by omega) (by omega)
      rw [hsk, show ((m - i : Nat) : Int) = (m : Int) - (i : Int) by omega] at hsw
      have HF : Hid (swpR (m - i) m i 0 dk = rotA m (b - a) (m - a) (b - m) d) := by show _ = _; rw [← HO.out (i + i + 1) (by omega)]; unfold rotA; rw [if_pos rfl]
      go_wp2_with (go_at_call 195; refine hsw.mono ?_; rintro e w2 ⟨rfl, S2⟩)
      go_end0
      exact ⟨rfl, by rw [← HF.out]; exact S2⟩
    · have hnez : ((i : Int) == (j : Int)) = false := beq_eq_false_iff_ne.2 (by omega)
      have hnz : ¬ ((i : Int) = (j : Int)) := by omega
      by_cases hji : j < i
      · have hjiz : (j : Int) < (i : Int) := by omega
        have hsw := swapRange_p (m - i) m j g cb base blk cap dk w0 wr S1.out (by omega) (by omega) (by omega)
        rw [hsk, show ((m - i : Nat) : Int) = (m : Int) - (i : Int) by omega] at hsw
        go_wp2_with (go_at_call 195; refine hsw.mono ?_; rintro e w2 ⟨rfl, S2⟩)
        have S2' : Aside _ := S2
        clear S2
        go_roundg (i - j + j)
        case measure => omega
        case rel => exact ⟨i - j, j, _, by first | go_num | (congr 1; omega), rfl, by omega, hj0, by omega, hjb, by omega, by rw [size_swpR]; exact hsk, S2', (show Hid _ from fun f hf => by rw [← HO.out (f + j + 1) (by omega)]; (conv => rhs; unfold rotA; rw [if_neg hne, if_pos hji]); exact rotA_fuel m f (f + j) (i - j) j _ (by omega) hj0 (by omega) (by omega))⟩
      · have hjiz : ¬ ((j : Int) < (i : Int)) := by omega
        have hsw := swapRange_p (m - i) (m + j - i) i g cb base blk cap dk w0 wr S1.out (by omega) (by omega) (by omega)
        rw [hsk, show ((m - i : Nat) : Int) = (m : Int) - (i : Int) by omega, show ((m + j - i : Nat) : Int) = (m : Int) + (j : Int) - (i : Int) by omega] at hsw
        go_wp2_with (go_at_call 195; refine hsw.mono ?_; rintro e w2 ⟨rfl, S2⟩)
        have S2' : Aside _ := S2
        clear S2
        go_roundg (i + (j - i))
        case measure => omega
        case rel => exact ⟨i, j - i, _, rfl, by first | go_num | (congr 1; omega), hi0, by omega, hai, by omega, by omega, by rw [size_swpR]; exact hsk, S2', (show Hid _ from fun f hf => by rw [← HO.out (f + i + 1) (by omega)]; (conv => rhs; unfold rotA; rw [if_neg hne, if_neg hji]); exact rotA_fuel m f (f + i) i (j - i) _ hi0 (by omega) (by omega) (by omega))⟩
set_option maxHeartbeats 4000000 in
set_option maxRecDepth 100000 in
theorem insSort_p (a b : Nat) (cf : Pe → Pe → Int) (g : Nat) (cb : Array Value) (base blk cap : Nat) (d : Array Pe) (w0 w : World) (eg : ∀ args w, (callFunc g args).run Try.prog w = .ok (.enter g args) w) (hcmp : CmpP Try.prog g cb cf) (S : SP base w0 blk cap d w) (hab : a ≤ b) (hb : b ≤ d.size) (hsz : d.size < 4611686018427387904) :
    Calls Try.prog 165 #[.slice (some ⟨blk, 0, none⟩) d.size cap, .int .i64 a, .int .i64 b, .func (.func g) #[] cb] w fun e w' => e = .returned (.tuple #[]) ∧ SP base w0 blk cap (Sort.insertionSort (ltOf cf) d a b) w' := by
  have mixed : Try.prog.follows .mixedOrders = true := by kernel_rfl
  have HC : Aside _ := hcmp
  have S0 : Aside _ := S
  clear S hcmp
  go_enter Try.func165, Try.ntmps165
  go_wp2
  go_loopg [8] (b - a) (fun g1 vi wr => ∃ (i : Nat) (dk : Array Pe), vi = .int .i64 i ∧ a < i ∧ i ≤ b + 1 ∧ b + 1 - i ≤ g1 + 1 ∧ dk.size = d.size ∧ Aside (SP base w0 blk cap dk wr) ∧ Hid (insOuter (ltOf cf) a b i dk = insOuter (ltOf cf) a b (a + 1) d))
  case atStart => exact ⟨a + 1, d, by go_num, by omega, by omega, by omega, rfl, S0, rfl⟩
  case round =>
    clear S0
    obtain ⟨i, dk, rfl, hai, hib, hg1, hsk, S1, HO⟩ := hrel
    by_cases hlt : i < b
    · have hltz : (i : Int) < (b : Int) := by omega
      go_wp2
      go_loopg [9] i (fun g2 vj wr2 => ∃ (j : Nat) (dj : Array Pe), vj = .int .i64 j ∧ a ≤ j ∧ j ≤ i ∧ j ≤ g2 ∧ dj.size = d.size ∧ Aside (SP base w0 blk cap dj wr2) ∧ Hid (insInner (ltOf cf) a j dj = insInner (ltOf cf) a i dk))
      case atStart => exact ⟨i, dk, rfl, by omega, Nat.le_refl _, Nat.le_refl _, hsk, S1, rfl⟩
      case round =>
        clear S1
        obtain ⟨j, dj, rfl, haj, hji, hg2, hsj, SJ, HI⟩ := hrel
        have out : (j ≤ a ∨ (ltOf cf) dj[j]! dj[j - 1]! = false) → Hid (insOuter (ltOf cf) a b (i + 1) dj = insOuter (ltOf cf) a b (a + 1) d) := fun hs => by
          show _ = _
          rw [← HO.out, insOuter_go _ _ _ _ _ hlt, ← HI.out, insInner_stop _ _ _ _ hs]
        have OUT : Aside _ := out
        clear out
        by_cases hja : a < j
        · have hjaz : (a : Int) < (j : Int) := by omega
          obtain ⟨jp, hjp⟩ : ∃ q, q + 1 = j := ⟨j - 1, by omega⟩
          have zjp : (j : Int) = (jp : Int) + 1 := by omega
          have hjad : decide ((jp : Int) + 1 > (a : Int)) = true := decide_eq_true (by omega)
          have hjaz' : (a : Int) < (jp : Int) + 1 := by omega
          cases hlv : (ltOf cf) dj[j]! dj[j - 1]! with
          | true =>
            obtain ⟨iN2, hiN2⟩ : ∃ q, q = j := ⟨_, rfl⟩
            obtain ⟨jN2, hjN2⟩ : ∃ q, q = j - 1 := ⟨_, rfl⟩
            have ea2 : ((jp : Int) + 1).toNat = iN2 := by omega
            have pa2 : (0 : Int) ≤ (jp : Int) + 1 := by omega
            have ba2 : (jp : Int) + 1 < (d.size : Int) := by omega
            have ra2 : IntKind.i64.wrap ((jp : Int) + 1) = (jp : Int) + 1 := by rw [IntKind.wrap_i64]; omega
            have ec2 : ((jp : Int)).toNat = jN2 := by omega
            have pc2 : (0 : Int) ≤ (jp : Int) := by omega
            have bc2 : (jp : Int) < (d.size : Int) := by omega
            have rc2 : IntKind.i64.wrap ((jp : Int)) = (jp : Int) := by rw [IntKind.wrap_i64]; omega
            obtain ⟨x2, hx2⟩ : ∃ x, x = dj[j]! := ⟨_, rfl⟩
            obtain ⟨y2, hy2⟩ : ∃ x, x = dj[j - 1]! := ⟨_, rfl⟩
            have KA2 : ∀ Y, PeIn (Go.Proofs.Ytppmjbnhghaffaa.ext wr Y) blk (iN2 * 10) x2 := fun Y => by rw [hiN2, hx2]; exact SJ.out.cl (by omega) Y
            have KB2 : ∀ Y, PeIn (Go.Proofs.Ytppmjbnhghaffaa.ext wr Y) blk (jN2 * 10) y2 := fun Y => by rw [hjN2, hy2]; exact SJ.out.cl (by omega) Y
            have la0 := fun y => (KA2 y).1; have la1 := fun y => (KA2 y).2.1; have la2 := fun y => (KA2 y).2.2.1; have la3 := fun y => (KA2 y).2.2.2.1; have la4 := fun y => (KA2 y).2.2.2.2.1; have la5 := fun y => (KA2 y).2.2.2.2.2.1; have la6 := fun y => (KA2 y).2.2.2.2.2.2.1; have la7 := fun y => (KA2 y).2.2.2.2.2.2.2.1; have la8 := fun y => (KA2 y).2.2.2.2.2.2.2.2.1; have la9 := fun y => (KA2 y).2.2.2.2.2.2.2.2.2
            have lb0 := fun y => (KB2 y).1; have lb1 := fun y => (KB2 y).2.1; have lb2 := fun y => (KB2 y).2.2.1; have lb3 := fun y => (KB2 y).2.2.2.1; have lb4 := fun y => (KB2 y).2.2.2.2.1; have lb5 := fun y => (KB2 y).2.2.2.2.2.1; have lb6 := fun y => (KB2 y).2.2.2.2.2.2.1; have lb7 := fun y => (KB2 y).2.2.2.2.2.2.2.1; have lb8 := fun y => (KB2 y).2.2.2.2.2.2.2.2.1; have lb9 := fun y => (KB2 y).2.2.2.2.2.2.2.2.2
            have hc2 := fun Y => HC.out (Go.Proofs.Ytppmjbnhghaffaa.ext wr Y) x2 y2
            have hv2 : cf x2 y2 < 0 := by rw [hx2, hy2]; exact of_decide_eq_true hlv
            have hd2 : decide (cf x2 y2 < 0) = true := decide_eq_true hv2
            clear hx2 hy2 hiN2 hjN2 KA2 KB2
            go_wp2_with fail
            refine wp_region_ext (by kernel_rfl) (by kernel_rfl) ?_
            repeat (go_big_quiet_step ((first | (go_at_fn g; with_reducible exact qe (hc2 _)))))
            refine wpQuiet_nil ?_
            intro _ hw'
            obtain ⟨gx, hw''⟩ := hw'
            subst hw''
            have S2 : Aside (SP base w0 blk cap dj (Go.Proofs.Ytppmjbnhghaffaa.ext wr gx)) := SJ.out.ext gx
            clear la0 la1 la2 la3 la4 la5 la6 la7 la8 la9 lb0 lb1 lb2 lb3 lb4 lb5 lb6 lb7 lb8 lb9 hc2 SJ
            generalize Go.Proofs.Ytppmjbnhghaffaa.ext wr gx = w2 at S2 ⊢
            clear gx
            clear ea2 ec2
            go_wp2_with fail
            obtain ⟨iN3, hiN3⟩ : ∃ q, q = j := ⟨_, rfl⟩
            obtain ⟨jN3, hjN3⟩ : ∃ q, q = j - 1 := ⟨_, rfl⟩
            have ea3 : ((jp : Int) + 1).toNat = iN3 := by omega
            have pa3 : (0 : Int) ≤ (jp : Int) + 1 := by omega
            have ba3 : (jp : Int) + 1 < (d.size : Int) := by omega
            have ra3 : IntKind.i64.wrap ((jp : Int) + 1) = (jp : Int) + 1 := by rw [IntKind.wrap_i64]; omega
            have ec3 : ((jp : Int)).toNat = jN3 := by omega
            have pc3 : (0 : Int) ≤ (jp : Int) := by omega
            have bc3 : (jp : Int) < (d.size : Int) := by omega
            have rc3 : IntKind.i64.wrap ((jp : Int)) = (jp : Int) := by rw [IntKind.wrap_i64]; omega
            obtain ⟨x3, hx3⟩ : ∃ x, x = dj[j]! := ⟨_, rfl⟩
            obtain ⟨y3, hy3⟩ : ∃ x, x = dj[j - 1]! := ⟨_, rfl⟩
            have S3 : Aside (SP base w0 blk cap (swp dj (j) (j - 1)) ((w2.drew.setCells blk (iN3 * 10) (peV y3)).setCells blk (jN3 * 10) (peV x3))) := by rw [hiN3, hjN3, hx3, hy3]; exact S2.out.drew.swapped2 (i := j) (j := j - 1) (by omega) (by omega)
            have RA3 : Hid (w2.drew.rangeAt blk (iN3 * 10) (peV x3)) := by show World.rangeAt _ _ _ _; rw [hiN3, hx3]; exact S2.out.drew.range (by omega)
            have RB3 : Hid (w2.drew.rangeAt blk (jN3 * 10) (peV y3)) := by show World.rangeAt _ _ _ _; rw [hjN3, hy3]; exact S2.out.drew.range (by omega)
            have TA3 : Hid (w2.drew.there blk (iN3 * 10) 10) := by show World.there _ _ _ _; rw [hiN3]; exact S2.out.drew.there (by omega)
            have TB3 : Hid ((w2.drew.setCells blk (iN3 * 10) (peV y3)).there blk (jN3 * 10) 10) := by show World.there _ _ _ _; rw [hiN3, hjN3]; exact S2.out.drew.there2 (by omega) (by omega) _
            clear S2 hx3 hy3
            clear hiN3
            have hzJ3 : jp = jN3 := by omega
            clear hjN3 ec3
            subst hzJ3
            go_wp2_with fail
            refine wp_region_any (by kernel_rfl) ?_
            try (change wpAny _ _ _ _ _ _ _ (World.drew _))
            refine wpAny_take (i := 0) (v := ?_) (by simp only [List.getElem?_toArray, List.getElem?_cons_succ, List.getElem?_cons_zero]; rfl) (by kernel_rfl) (by kernel_rfl) (by kernel_rfl) ?hQ21 (Or.inl ⟨by rfl, ?hy21⟩) ?main21
            case hQ21 => exact fun _ _ _ h => h
            case hy21 => ((intro w; go_simp); try with_reducible rfl)
            simp only [Act.put, List.setIfInBounds_toArray, List.set_cons_zero, List.set_cons_succ, List.toList_toArray]
            refine wpAny_take (i := 1) (v := ?_) (by simp only [List.getElem?_toArray, List.getElem?_cons_succ, List.getElem?_cons_zero]; rfl) (by kernel_rfl) (by kernel_rfl) (by kernel_rfl) ?hQ22 (Or.inl ⟨by rfl, ?hy22⟩) ?main22
            case hQ22 => exact fun _ _ _ h => h
            case hy22 => ((intro w; go_simp); try with_reducible rfl)
            simp only [Act.put, List.setIfInBounds_toArray, List.set_cons_zero, List.set_cons_succ, List.toList_toArray]
            refine wpAny_take (i := 2) (v := ?_) (by simp only [List.getElem?_toArray, List.getElem?_cons_succ, List.getElem?_cons_zero]; rfl) (by kernel_rfl) (by kernel_rfl) (by kernel_rfl) ?hQ23 (Or.inl ⟨by rfl, ?hy23⟩) ?main23
            case hQ23 => exact fun _ _ _ h => h
            case hy23 => ((intro w; go_simp); try with_reducible rfl)
            simp only [Act.put, List.setIfInBounds_toArray, List.set_cons_zero, List.set_cons_succ, List.toList_toArray]
            refine wpAny_take (i := 3) (v := ?_) (by simp only [List.getElem?_toArray, List.getElem?_cons_succ, List.getElem?_cons_zero]; rfl) (by kernel_rfl) (by kernel_rfl) (by kernel_rfl) ?hQ24 (Or.inl ⟨by rfl, ?hy24⟩) ?main24
            case hQ24 => exact fun _ _ _ h => h
            case hy24 => ((intro w; go_simp); try with_reducible rfl)
            simp only [Act.put, List.setIfInBounds_toArray, List.set_cons_zero, List.set_cons_succ, List.toList_toArray]
            refine wpAny_take (i := 4) (v := ?_) (by simp only [List.getElem?_toArray, List.getElem?_cons_succ, List.getElem?_cons_zero]; rfl) (by kernel_rfl) (by kernel_rfl) (by kernel_rfl) ?hQ25 (Or.inl ⟨by rfl, ?hy25⟩) ?main25
            case hQ25 => exact fun _ _ _ h => h
            case hy25 => ((intro w; go_simp); try with_reducible rfl)
            simp only [Act.put, List.setIfInBounds_toArray, List.set_cons_zero, List.set_cons_succ, List.toList_toArray]
            refine wpAny_take (i := 5) (v := ?_) (by simp only [List.getElem?_toArray, List.getElem?_cons_succ, List.getElem?_cons_zero]; rfl) (by kernel_rfl) (by kernel_rfl) (by kernel_rfl) ?hQ26 (Or.inl ⟨by rfl, ?hy26⟩) ?main26
            case hQ26 => exact fun _ _ _ h => h
            case hy26 => ((intro w; go_simp); try with_reducible rfl)
            simp only [Act.put, List.setIfInBounds_toArray, List.set_cons_zero, List.set_cons_succ, List.toList_toArray]
            refine wpAny_take (i := 6) (v := ?_) (by simp only [List.getElem?_toArray, List.getElem?_cons_succ, List.getElem?_cons_zero]; rfl) (by kernel_rfl) (by kernel_rfl) (by kernel_rfl) ?hQ27 (Or.inl ⟨by rfl, ?hy27⟩) ?main27
            case hQ27 => exact fun _ _ _ h => h
            case hy27 => ((intro w; go_simp); try with_reducible rfl)
            simp only [Act.put, List.setIfInBounds_toArray, List.set_cons_zero, List.set_cons_succ, List.toList_toArray]
            refine wpAny_take (i := 7) (v := ?_) (by simp only [List.getElem?_toArray, List.getElem?_cons_succ, List.getElem?_cons_zero]; rfl) (by kernel_rfl) (by kernel_rfl) (by kernel_rfl) ?hQ28 (Or.inl ⟨by rfl, ?hy28⟩) ?main28
            case hQ28 => exact fun _ _ _ h => h
            case hy28 => ((intro w; go_simp); try with_reducible rfl)
            simp only [Act.put, List.setIfInBounds_toArray, List.set_cons_zero, List.set_cons_succ, List.toList_toArray]
            refine wpAny_take (i := 8) (v := ?_) (by simp only [List.getElem?_toArray, List.getElem?_cons_succ, List.getElem?_cons_zero]; rfl) (by kernel_rfl) (by kernel_rfl) (by kernel_rfl) ?hQ29 (Or.inl ⟨by rfl, ?hy29⟩) ?main29
            case hQ29 => exact fun _ _ _ h => h
            case hy29 => ((intro w; go_simp); try with_reducible rfl)
            simp only [Act.put, List.setIfInBounds_toArray, List.set_cons_zero, List.set_cons_succ, List.toList_toArray]
            refine wpAny_take (i := 10) (v := ?_) (by simp only [List.getElem?_toArray, List.getElem?_cons_succ, List.getElem?_cons_zero]; rfl) (by kernel_rfl) (by kernel_rfl) (by kernel_rfl) ?hQ30 (Or.inl ⟨by rfl, ?hy30⟩) ?main30
            case hQ30 => exact fun _ _ _ h => h
            case hy30 => ((intro w; go_simp); try with_reducible rfl)
            simp only [Act.put, List.setIfInBounds_toArray, List.set_cons_zero, List.set_cons_succ, List.toList_toArray]
            refine wpAny_take (i := 11) (v := ?_) (by simp only [List.getElem?_toArray, List.getElem?_cons_succ, List.getElem?_cons_zero]; rfl) (by kernel_rfl) (by kernel_rfl) (by kernel_rfl) ?hQ31 (Or.inl ⟨by rfl, ?hy31⟩) ?main31
            case hQ31 => exact fun _ _ _ h => h
            case hy31 => ((intro w; go_simp); try with_reducible rfl)
            simp only [Act.put, List.setIfInBounds_toArray, List.set_cons_zero, List.set_cons_succ, List.toList_toArray]
            refine wpAny_take (i := 12) (v := ?_) (by simp only [List.getElem?_toArray, List.getElem?_cons_succ, List.getElem?_cons_zero]; rfl) (by kernel_rfl) (by kernel_rfl) (by kernel_rfl) ?hQ32 (Or.inl ⟨by rfl, ?hy32⟩) ?main32
            case hQ32 => exact fun _ _ _ h => h
            case hy32 => ((intro w; go_simp); try with_reducible rfl)
            simp only [Act.put, List.setIfInBounds_toArray, List.set_cons_zero, List.set_cons_succ, List.toList_toArray]
            refine any_loads2 (i := 9) (j := 13) (by simp only [List.getElem?_toArray, List.getElem?_cons_succ, List.getElem?_cons_zero]; rfl) (by simp only [List.getElem?_toArray, List.getElem?_cons_succ, List.getElem?_cons_zero]; rfl) (by kernel_rfl) (by kernel_rfl) (by kernel_rfl) rfl rfl 66 (.tmp 45) (.tmp 49) rfl rfl blk (jp * 10) (iN3 * 10) _ _ _ rfl rfl rfl rfl RB3.out RA3.out Try.underlying66 rfl (by kernel_rfl) (by kernel_rfl) (by decide) rfl ?_
            simp only [Act.put, List.setIfInBounds_toArray, List.set_cons_zero, List.set_cons_succ, List.toList_toArray]
            refine wpAny_take (i := 14) (v := ?_) (by simp only [List.getElem?_toArray, List.getElem?_cons_succ, List.getElem?_cons_zero]; rfl) (by kernel_rfl) (by kernel_rfl) (by kernel_rfl) ?hQ33 (Or.inl ⟨by rfl, ?hy33⟩) ?main33
            case hQ33 => exact fun _ _ _ h => h
            case hy33 => ((intro w; go_simp); try with_reducible rfl)
            simp only [Act.put, List.setIfInBounds_toArray, List.set_cons_zero, List.set_cons_succ, List.toList_toArray]
            refine any_one (i := 15) (by kernel_rfl) ?_
            refine wpOp_store_mid (by simp only [List.getElem?_toArray, List.getElem?_cons_succ, List.getElem?_cons_zero]; rfl) rfl 66 (.tmp 51) (.tmp 46) rfl blk (iN3 * 10) (peV y3).toArray rfl rfl TA3.out (by kernel_rfl) (peV_all _) ?_
            simp only [Act.put, List.setIfInBounds_toArray, List.set_cons_zero, List.set_cons_succ, List.toList_toArray]
            refine wpAny_take (i := 16) (v := ?_) (by simp only [List.getElem?_toArray, List.getElem?_cons_succ, List.getElem?_cons_zero]; rfl) (by kernel_rfl) (by kernel_rfl) (by kernel_rfl) ?hQ34 (Or.inl ⟨by rfl, ?hy34⟩) ?main34
            case hQ34 => exact fun _ _ _ h => h
            case hy34 => ((intro w; go_simp); try with_reducible rfl)
            simp only [Act.put, List.setIfInBounds_toArray, List.set_cons_zero, List.set_cons_succ, List.toList_toArray]
            refine any_one (i := 17) (by kernel_rfl) ?_
            refine wpOp_store_mid (by simp only [List.getElem?_toArray, List.getElem?_cons_succ, List.getElem?_cons_zero]; rfl) rfl 66 (.tmp 52) (.tmp 50) rfl blk (jp * 10) (peV x3).toArray rfl rfl TB3.out (by kernel_rfl) (peV_all _) ?_
            simp only [Act.put, List.setIfInBounds_toArray, List.set_cons_zero, List.set_cons_succ, List.toList_toArray]
            refine wpAny_done (by kernel_rfl) ?_ _
            clear RA3 RB3 TA3 TB3
            generalize ((w2.drew.setCells blk (iN3 * 10) (peV y3)).setCells blk (jp * 10) (peV x3)) = w3 at S3 ⊢
            clear ea3
            go_wp2
            go_roundg (j - 1)
            case measure => omega
            case rel => exact ⟨j - 1, swp dj j (j - 1), by first | rfl | go_num | (congr 1; omega), by omega, by omega, Nat.le_refl _, by rw [size_swp]; exact hsj, S3, (show Hid _ from by rw [← HI.out, insInner_go (ltOf cf) a j dj hja hlv]; exact rfl)⟩
          | false =>
            obtain ⟨iN4, hiN4⟩ : ∃ q, q = j := ⟨_, rfl⟩
            obtain ⟨jN4, hjN4⟩ : ∃ q, q = j - 1 := ⟨_, rfl⟩
            have ea4 : ((jp : Int) + 1).toNat = iN4 := by omega
            have pa4 : (0 : Int) ≤ (jp : Int) + 1 := by omega
            have ba4 : (jp : Int) + 1 < (d.size : Int) := by omega
            have ra4 : IntKind.i64.wrap ((jp : Int) + 1) = (jp : Int) + 1 := by rw [IntKind.wrap_i64]; omega
            have ec4 : ((jp : Int)).toNat = jN4 := by omega
            have pc4 : (0 : Int) ≤ (jp : Int) := by omega
            have bc4 : (jp : Int) < (d.size : Int) := by omega
            have rc4 : IntKind.i64.wrap ((jp : Int)) = (jp : Int) := by rw [IntKind.wrap_i64]; omega
            obtain ⟨x4, hx4⟩ : ∃ x, x = dj[j]! := ⟨_, rfl⟩
            obtain ⟨y4, hy4⟩ : ∃ x, x = dj[j - 1]! := ⟨_, rfl⟩
            have KA4 : ∀ Y, PeIn (Go.Proofs.Ytppmjbnhghaffaa.ext wr Y) blk (iN4 * 10) x4 := fun Y => by rw [hiN4, hx4]; exact SJ.out.cl (by omega) Y
            have KB4 : ∀ Y, PeIn (Go.Proofs.Ytppmjbnhghaffaa.ext wr Y) blk (jN4 * 10) y4 := fun Y => by rw [hjN4, hy4]; exact SJ.out.cl (by omega) Y
            have la0 := fun y => (KA4 y).1; have la1 := fun y => (KA4 y).2.1; have la2 := fun y => (KA4 y).2.2.1; have la3 := fun y => (KA4 y).2.2.2.1; have la4 := fun y => (KA4 y).2.2.2.2.1; have la5 := fun y => (KA4 y).2.2.2.2.2.1; have la6 := fun y => (KA4 y).2.2.2.2.2.2.1; have la7 := fun y => (KA4 y).2.2.2.2.2.2.2.1; have la8 := fun y => (KA4 y).2.2.2.2.2.2.2.2.1; have la9 := fun y => (KA4 y).2.2.2.2.2.2.2.2.2
            have lb0 := fun y => (KB4 y).1; have lb1 := fun y => (KB4 y).2.1; have lb2 := fun y => (KB4 y).2.2.1; have lb3 := fun y => (KB4 y).2.2.2.1; have lb4 := fun y => (KB4 y).2.2.2.2.1; have lb5 := fun y => (KB4 y).2.2.2.2.2.1; have lb6 := fun y => (KB4 y).2.2.2.2.2.2.1; have lb7 := fun y => (KB4 y).2.2.2.2.2.2.2.1; have lb8 := fun y => (KB4 y).2.2.2.2.2.2.2.2.1; have lb9 := fun y => (KB4 y).2.2.2.2.2.2.2.2.2
            have hc4 := fun Y => HC.out (Go.Proofs.Ytppmjbnhghaffaa.ext wr Y) x4 y4
            have hv4 : ¬ cf x4 y4 < 0 := by rw [hx4, hy4]; exact of_decide_eq_false hlv
            have hd4 : decide (cf x4 y4 < 0) = false := decide_eq_false hv4
            clear hx4 hy4 hiN4 hjN4 KA4 KB4
            go_wp2_with fail
            refine wp_region_ext (by kernel_rfl) (by kernel_rfl) ?_
            repeat (go_big_quiet_step ((first | (go_at_fn g; with_reducible exact qe (hc4 _)))))
            refine wpQuiet_nil ?_
            intro _ hw'
            obtain ⟨gx, hw''⟩ := hw'
            subst hw''
            have S2 : Aside (SP base w0 blk cap dj (Go.Proofs.Ytppmjbnhghaffaa.ext wr gx)) := SJ.out.ext gx
            clear la0 la1 la2 la3 la4 la5 la6 la7 la8 la9 lb0 lb1 lb2 lb3 lb4 lb5 lb6 lb7 lb8 lb9 hc4 SJ
            generalize Go.Proofs.Ytppmjbnhghaffaa.ext wr gx = w2 at S2 ⊢
            clear gx
            clear ea4 ec4
            go_wp2
            go_roundg (b - (i + 1))
            case measure => omega
            case rel => exact ⟨i + 1, dj, by first | rfl | go_num | (congr 1; omega), by omega, by omega, by omega, hsj, S2, OUT.out (Or.inr hlv)⟩
        · have hjaz : ¬ ((a : Int) < (j : Int)) := by omega
          have hjad : decide ((j : Int) > (a : Int)) = false := decide_eq_false (by omega)
          go_wp2_with fail
          go_big_region_o
          have S2 : Aside (SP base w0 blk cap dj wr.drew) := SJ.out.drew
          clear SJ
          generalize wr.drew = w2 at S2 ⊢
          go_wp2
          go_roundg (b - (i + 1))
          case measure => omega
          case rel => exact ⟨i + 1, dj, by first | rfl | go_num | (congr 1; omega), by omega, by omega, by omega, hsj, S2, OUT.out (Or.inl (by omega))⟩
    · have HF : Hid (Sort.insertionSort (ltOf cf) d a b = dk) := by show _ = _; unfold Sort.insertionSort; rw [← HO.out, insOuter_stop _ _ _ _ _ hlt]
      have hltz : ¬ ((i : Int) < (b : Int)) := by omega
      go_wp2
      go_end0
      exact ⟨rfl, by rw [HF.out]; exact S1.out⟩
end Go.Proofs.Ytppmjbnhghaffaa
