/- The contracts of confs: written, the reference. -/
import Derived.Test.YtnohkfbapibmdaaConfT
namespace Go.Proofs.Ytnohkfbapibmdaa
open Go.RowKit
set_option linter.unusedSimpArgs false
set_option linter.unusedVariables false

theorem cfWd_at (k : Nat) (hk : k < 16) : (cfWords.map sv)[k]? = some (.string (bs (cfWd k))) := by
  rcases (by omega : k = 0 ∨ k = 1 ∨ k = 2 ∨ k = 3 ∨ k = 4 ∨ k = 5 ∨ k = 6 ∨ k = 7 ∨ k = 8 ∨ k = 9 ∨ k = 10 ∨ k = 11 ∨ k = 12 ∨ k = 13 ∨ k = 14 ∨ k = 15) with rfl | rfl | rfl | rfl | rfl | rfl | rfl | rfl | rfl | rfl | rfl | rfl | rfl | rfl | rfl | rfl <;> rfl
theorem cfNum_at (c : Cf) (k : Nat) (hk : k < 16) : ((cfNums c).map fun n => Value.int .i64 n)[k]? = some (.int .i64 (cfNum c k)) := by
  rcases (by omega : k = 0 ∨ k = 1 ∨ k = 2 ∨ k = 3 ∨ k = 4 ∨ k = 5 ∨ k = 6 ∨ k = 7 ∨ k = 8 ∨ k = 9 ∨ k = 10 ∨ k = 11 ∨ k = 12 ∨ k = 13 ∨ k = 14 ∨ k = 15) with rfl | rfl | rfl | rfl | rfl | rfl | rfl | rfl | rfl | rfl | rfl | rfl | rfl | rfl | rfl | rfl <;> rfl
theorem BlockIs.ext' {w : World} {B : Nat} {arr : List Value} {T : TypeId} (h : BlockIs w B arr T) (Y : Grow) : BlockIs (ext w Y) B arr T := h.below (ext_below w Y)
set_option maxRecDepth 100000 in
set_option maxHeartbeats 16000000 in
theorem refCfText_any (c : Cf) (w : World) : Calls Try.prog 54 #[.agg #[.int .i64 c.mi, .int .i64 c.mo, .int .i64 c.sh, .int .i64 c.mb, .int .i64 c.mbk, .int .u64 c.secret, .int .i64 c.qg, .int .i64 c.qp, .int .i64 c.qw, .int .i64 c.qt, .int .i64 c.half, .int .i64 c.limit, .int .i64 c.banfor, .int .i64 c.base, .int .i64 c.cap, .int .i64 c.jitter]] w fun r w' => r = .returned (.string (bs (cfText c))) ∧ Below w.heap.size w w' := by
  have hR := fun w => refCfRight_any c w
  have hB := BlockIs.new w [.int .i64 c.mi, .int .i64 c.mo, .int .i64 c.sh, .int .i64 c.mb, .int .i64 c.mbk, .int .u64 c.secret, .int .i64 c.qg, .int .i64 c.qp, .int .i64 c.qw, .int .i64 c.qt, .int .i64 c.half, .int .i64 c.limit, .int .i64 c.banfor, .int .i64 c.base, .int .i64 c.cap, .int .i64 c.jitter] 70
  cases hr : cfRight c with
  | false =>
    rw [show cfText c = [] from if_neg (by rw [hr]; simp)]
    rw [hr] at hR
    have HR := Lib.hid hR; clear hR hr
    go_enter Try.func54, Try.ntmps54
    go_wp2_with (first | (refine list_load_blk rfl _ _ rfl _ _ _ hB rfl Try.underlying70 (by kernel_rfl) ?_) | (go_at_call 50; (with_reducible refine (HR.out _).mono ?_); rintro e w1 ⟨rfl, b1⟩; obtain ⟨c1, f1⟩ := bcell b1; have z1 := b1.size; (try simp at z1); clear c1 f1))
    go_ret
    exact ⟨rfl, by (repeat (first | with_reducible assumption | with_reducible exact Below.refl _ _ | with_reducible refine Below.setCell ?_ (by first | omega | (simp; done) | (simp; omega)) _ | with_reducible refine Below.alloc ?_ (by first | omega | (simp; done) | (simp; omega)) _ | with_reducible refine Below.drew ?_ | (with_reducible refine Below.trans ?_ (Below.mono (by with_reducible assumption) (by first | omega | (simp; done) | (simp; omega)))) | (refine Below.trans ?_ (Below.mono (by assumption) (by first | omega | (simp; done) | (simp; omega))))))⟩
  | true =>
    rw [show cfText c = fed (cfLines c) from if_pos hr]
    rw [hr] at hR
    have HR := Lib.hid hR; clear hR
    have hs : c.secret ≤ 9223372036854775807 := ((cfRight_all c).1 hr).1
    have HW := Lib.hid (fun w => refWords_any w)
    have HN := Lib.hid (fun w => refNumbers_any c hs w)
    have hll := fun l hl => (cfLines_ok hr l hl).2
    have HLEN := Lib.hid (fun k => fed_len hll k)
    have HAT := Lib.hid (cfLine_at c)
    have HLL := Lib.hid (fun k hk => hll _ (List.mem_of_getElem? (cfLine_at c k hk)))
    have hnum : ∀ k, k < 16 → 0 ≤ cfNum c k ∧ cfNum c k ≤ 9223372036854775807 := fun k hk => cfNums_ok hr _ (by unfold cfNum; rw [List.getD_eq_getElem?_getD, List.getElem?_eq_getElem (by rw [cfNums_len]; exact hk)]; exact List.getElem_mem _)
    have HNUM := Lib.hid hnum
    have HAW := Lib.hid cfWd_at
    have HAN := Lib.hid (cfNum_at c)
    clear hs hr hll hnum
    have HL16 := Lib.hid (show (cfLines c).length = 16 from rfl)
    generalize cfLines c = L at *
    generalize (cfNums c).map (fun n => Value.int .i64 n) = NV at *
    generalize cfWords.map sv = WV at *
    go_enter Try.func54, Try.ntmps54
    go_wp2_with (first | (refine list_load_blk rfl _ _ rfl _ _ _ (by first | exact hB | exact (hB.below b1).below b2) rfl Try.underlying70 (by kernel_rfl) ?_) | (go_at_call 50; (with_reducible refine (HR.out _).mono ?_); rintro e w1 ⟨rfl, b1⟩; obtain ⟨c1, f1⟩ := bcell b1; have z1 := b1.size; (try simp at z1); clear c1 f1) | (go_at_call 106; (with_reducible refine (HW.out _).mono ?_); rintro e w2 ⟨rfl, hw2, b2⟩) | (go_at_call 112; (with_reducible refine (HN.out _).mono ?_); rintro e w3 ⟨g, rfl, hn3, b3⟩))
    have hw3 := hw2.below b3
    have bw3 : Below w.heap.size w w3 := below2 (below2 (below2 ((Below.refl _ _).alloc (Nat.le_refl _) _) b1) b2) b3
    go_loopw [3, 6] (fun s i wr => ∃ (k : Nat), k ≤ 16 ∧ s = .string (bs (fed (L.take k))) ∧ i = .int .i64 k ∧ Below w3.heap.size w3 wr) (fun _ i _ => 16 - (intOf i).toNat)
    case atStart => exact ⟨0, Nat.zero_le _, rfl, rfl, Below.refl _ _⟩
    case round =>
      obtain ⟨k, hk, rfl, rfl, hb⟩ := hrel
      have hwr := hw3.below hb
      have hnr := hn3.below hb
      by_cases hk2 : k < 16
      · have q1 : (k : Int) < 16 := by omega
        have q2 : (0 : Int) ≤ (k : Int) := by omega
        have hn := HNUM.out k hk2
        have HD := Lib.hid (fun w => refText_any (cfNum c k) (by omega) hn.2 w)
        have hat := HAT.out k hk2
        have hlen := HLEN.out k
        have hl40 := HLL.out k hk2
        have e1 := fun Y => (hwr.ext' Y).cell (HAW.out k hk2)
        have e2 := fun Y => (hnr.ext' Y).cell (HAN.out k hk2)
        unfold cfLine at hat hl40
        generalize cfWd k = x at *
        generalize decText (cfNum c k) = t at *
        have hft := fed_take hat
        simp at hl40
        have hres : bs (fed (L.take k)) ++ bs x ++ ⟨#[32]⟩ ++ bs t ++ ⟨#[10]⟩ = bs (fed (L.take (k + 1))) := by
          rw [hft, show (⟨#[32]⟩ : ByteArray) = bs [32] from rfl, show (⟨#[10]⟩ : ByteArray) = bs [10] from rfl]; simp only [bs_append]; simp
        have z0 : (bs (fed (L.take k))).size ≤ 1000 := by rw [bs_size]; omega
        have z1 : (bs x).size ≤ 40 := by rw [bs_size]; omega
        have z2 : (bs t).size ≤ 40 := by rw [bs_size]; omega
        have s0 : ¬ 9223372036854775807 < (bs (fed (L.take k))).size + (bs x).size := by omega
        have s1 : ¬ 9223372036854775807 < (bs (fed (L.take k))).size + (bs x).size + 1 := by omega
        have s2 : ¬ 9223372036854775807 < (bs (fed (L.take k))).size + (bs x).size + 1 + (bs t).size := by omega
        have s3 : ¬ 9223372036854775807 < (bs (fed (L.take k))).size + (bs x).size + 1 + (bs t).size + 1 := by omega
        have HRES := Lib.hid hres
        clear hres hft hat hl40 hlen hn z0 z1 z2 hwr hnr
        generalize fed (L.take k) = S at *
        go_upto_region 9 with fail
        refine wp_region_ext (by kernel_rfl) (by kernel_rfl) ?_
        repeat (go_big_quiet_step ((first | (go_at_call 77; with_reducible exact qe (HD.out _)))))
        refine wpQuiet_nil ?_
        first | (intro _ hw'; obtain ⟨y, hw''⟩ := hw'; subst hw'') | intro y
        go_wp2_with fail
        go_roundw
        case rel => exact ⟨k + 1, by omega, by rw [← HRES.out], by go_num, hb.trans ((ext_below _ _).mono hb.size)⟩
        case measure => simp [intOf]; omega
      · obtain rfl : k = 16 := by omega
        go_wp2_with fail
        go_ret
        exact ⟨ret_str (by rw [List.take_of_length_le (by rw [HL16.out]; exact Nat.le_refl _)]), bw3.trans (hb.mono bw3.size)⟩
end Go.Proofs.Ytnohkfbapibmdaa
