/- Texts put together: ConfT. No condition. -/
import Derived.Test.YtnohkfbapibmdaaRjehpkkwfsh
import Derived.Test.YtnohkfbapibmdaaRaasqvxtylo
import Derived.Test.YtnohkfbapibmdaaRmcubibcrhs
import Derived.Test.YtnohkfbapibmdaaRrpvybflowb
import Derived.Test.YtnohkfbapibmdaaRihmvhfnpsa
import Derived.Deep.RegionWith
import Derived.BigRegion
import Derived.Deep.DeepCutAuto
namespace Go.Proofs.Ytnohkfbapibmdaa
open Go.RowKit
set_option linter.unusedSimpArgs false
set_option linter.unusedVariables false

theorem cf_row (x t : List UInt8) (W : World) (hl : (joinL 32 [x, t]).length ≤ 140737488355328) :
    Calls Try.prog 74 #[.slice (some ⟨W.heap.size, 0, none⟩) 2 2] (W.alloc (.cells #[.string (bs x), .string (bs t)] 9)) fun e w' => e = .returned (.string (bs (joinL 32 [x, t]))) ∧ Below (W.alloc (.cells #[.string (bs x), .string (bs t)] 9)).heap.size (W.alloc (.cells #[.string (bs x), .string (bs t)] 9)) w' :=
  row_any _ [x, t] _ (by simp) ((BlockIs.new W ([x, t].map sv) 9).reads (by simp) (by simp)) hl
theorem fed_take {L : List (List UInt8)} {k : Nat} {l : List UInt8} (h : L[k]? = some l) : fed (L.take (k + 1)) = fed (L.take k) ++ (l ++ [10]) := by
  rw [List.take_add_one, h]; unfold fed; simp
theorem fed_len {L : List (List UInt8)} (h : ∀ l ∈ L, l.length ≤ 40) (k : Nat) : (fed (L.take k)).length ≤ k * 41 := by
  induction k with
  | zero => simp [fed]
  | succ k ih =>
    cases hk : L[k]? with
    | none => rw [List.take_of_length_le (by have := List.getElem?_eq_none_iff.1 hk; omega)] at ih ⊢; omega
    | some l =>
      rw [fed_take hk]
      have := h l (List.mem_of_getElem? hk)
      simp; omega
theorem cfLine_at (c : Cf) (k : Nat) (hk : k < 16) : (cfLines c)[k]? = some (cfLine (cfWd k) (cfNum c k)) := by
  rcases (by omega : k = 0 ∨ k = 1 ∨ k = 2 ∨ k = 3 ∨ k = 4 ∨ k = 5 ∨ k = 6 ∨ k = 7 ∨ k = 8 ∨ k = 9 ∨ k = 10 ∨ k = 11 ∨ k = 12 ∨ k = 13 ∨ k = 14 ∨ k = 15) with rfl | rfl | rfl | rfl | rfl | rfl | rfl | rfl | rfl | rfl | rfl | rfl | rfl | rfl | rfl | rfl <;> rfl
set_option maxRecDepth 100000 in
set_option maxHeartbeats 16000000 in
theorem cfText_any (c : Cf) (w : World) : Calls Try.prog 53 #[.agg #[.int .i64 c.mi, .int .i64 c.mo, .int .i64 c.sh, .int .i64 c.mb, .int .i64 c.mbk, .int .u64 c.secret, .int .i64 c.qg, .int .i64 c.qp, .int .i64 c.qw, .int .i64 c.qt, .int .i64 c.half, .int .i64 c.limit, .int .i64 c.banfor, .int .i64 c.base, .int .i64 c.cap, .int .i64 c.jitter]] w fun r w' => r = .returned (.string (bs (cfText c))) ∧ Below w.heap.size w w' := by
  have hR := fun w => cfRight_any c w
  have hB := BlockIs.new w [.int .i64 c.mi, .int .i64 c.mo, .int .i64 c.sh, .int .i64 c.mb, .int .i64 c.mbk, .int .u64 c.secret, .int .i64 c.qg, .int .i64 c.qp, .int .i64 c.qw, .int .i64 c.qt, .int .i64 c.half, .int .i64 c.limit, .int .i64 c.banfor, .int .i64 c.base, .int .i64 c.cap, .int .i64 c.jitter] 70
  cases hr : cfRight c with
  | false =>
    rw [show cfText c = [] from if_neg (by rw [hr]; simp)]
    rw [hr] at hR
    have HR := Lib.hid hR; clear hR hr
    go_enter Try.func53, Try.ntmps53
    go_wp2_with (first | (refine list_load_blk rfl _ _ rfl _ _ _ hB rfl Try.underlying70 (by kernel_rfl) ?_) | (go_at_call 49; (with_reducible refine (HR.out _).mono ?_); rintro e w1 ⟨rfl, b1⟩; obtain ⟨c1, f1⟩ := bcell b1; have z1 := b1.size; (try simp at z1); clear c1 f1))
    go_ret
    exact ⟨rfl, by (repeat (first | with_reducible assumption | with_reducible exact Below.refl _ _ | with_reducible refine Below.setCell ?_ (by first | omega | (simp; done) | (simp; omega)) _ | with_reducible refine Below.alloc ?_ (by first | omega | (simp; done) | (simp; omega)) _ | with_reducible refine Below.drew ?_ | (with_reducible refine Below.trans ?_ (Below.mono (by with_reducible assumption) (by first | omega | (simp; done) | (simp; omega)))) | (refine Below.trans ?_ (Below.mono (by assumption) (by first | omega | (simp; done) | (simp; omega))))))⟩
  | true =>
    rw [show cfText c = fed (cfLines c) from if_pos hr]
    rw [hr] at hR
    have HR := Lib.hid hR; clear hR
    have hs : c.secret ≤ 9223372036854775807 := ((cfRight_all c).1 hr).1
    have HA := Lib.hid (fun w => cfAll_any c hs w)
    have HI := Lib.hid (fun k hk W => cfIndex c k hk W)
    have hll := fun l hl => (cfLines_ok hr l hl).2
    have HLEN := Lib.hid (fun k => fed_len hll k)
    have HAT := Lib.hid (cfLine_at c)
    have HLL := Lib.hid (fun k hk => hll _ (List.mem_of_getElem? (cfLine_at c k hk)))
    have hnum : ∀ k, k < 16 → 0 ≤ cfNum c k ∧ cfNum c k ≤ 9223372036854775807 := fun k hk => cfNums_ok hr _ (by unfold cfNum; rw [List.getD_eq_getElem?_getD, List.getElem?_eq_getElem (by rw [cfNums_len]; exact hk)]; exact List.getElem_mem _)
    have HNUM := Lib.hid hnum
    clear hs hr hll hnum
    generalize (cfArr c).toArray = A at *
    have HL16 := Lib.hid (show (cfLines c).length = 16 from rfl)
    generalize cfLines c = L at *
    go_enter Try.func53, Try.ntmps53
    go_wp2_with (first | (refine list_load_blk rfl _ _ rfl _ _ _ (by first | exact hB | exact (hB.below b1).alloc' _) rfl Try.underlying70 (by kernel_rfl) ?_) | (go_at_call 49; (with_reducible refine (HR.out _).mono ?_); rintro e w1 ⟨rfl, b1⟩; obtain ⟨c1, f1⟩ := bcell b1; have z1 := b1.size; (try simp at z1); clear c1 f1) | (go_at_call 101; (with_reducible refine (HA.out _).mono ?_); rintro e w2 ⟨rfl, b2⟩))
    have hbl := (Bld.new w1).below b2
    have z1 := b1.size; have z2 := b2.size
    simp only [World.size_alloc] at z1 z2
    have bw2 : Below w.heap.size w w2 := by (repeat (first | with_reducible assumption | with_reducible exact Below.refl _ _ | with_reducible refine Below.setCell ?_ (by first | omega | (simp; done) | (simp; omega)) _ | with_reducible refine Below.alloc ?_ (by first | omega | (simp; done) | (simp; omega)) _ | with_reducible refine Below.drew ?_ | (with_reducible refine Below.trans ?_ (Below.mono (by with_reducible assumption) (by first | omega | (simp; done) | (simp; omega)))) | (refine Below.trans ?_ (Below.mono (by assumption) (by first | omega | (simp; done) | (simp; omega))))))
    go_loopw [11] (fun i wr => ∃ (k : Nat), k ≤ 16 ∧ i = .int .i64 k ∧ Hid (Bld wr w1.heap.size (fed (L.take k))) ∧ Below w.heap.size w wr) (fun i _ => 16 - (intOf i).toNat)
    case atStart => exact ⟨0, Nat.zero_le _, rfl, hbl, bw2⟩
    case round =>
      obtain ⟨k, hk, rfl, HBL, hb⟩ := hrel
      have zb := hb.size
      have hlt := Bld.lt HBL.out
      by_cases hk2 : k < 16
      · have hix := HI.out k hk2
        have q1 : (k : Int) < 16 := by omega
        have hn := HNUM.out k hk2
        have HD := Lib.hid (fun w => decText_any (cfNum c k) (by omega) hn.2 w)
        have hat := HAT.out k hk2
        have hlen := HLEN.out k
        have hl40 := HLL.out k hk2
        unfold cfLine at hat hl40
        generalize cfWd k = x at *
        generalize decText (cfNum c k) = t at *
        have hl : (joinL 32 [x, t]).length ≤ 140737488355328 := by rw [joinL_cons, joinL_one]; omega
        have hj : joinL 32 [x, t] = x ++ 32 :: t := by rw [joinL_cons, joinL_one]
        have HROW := Lib.hid (fun W => cf_row x t W hl)
        have hft := fed_take hat
        rw [← hj] at hft
        have hjl : (joinL 32 [x, t]).length ≤ 40 := by rw [hj]; exact hl40
        generalize joinL 32 [x, t] = row at *
        have s1 : ¬ 9223372036854775807 < (bs row).size + 1 := by rw [bs_size]; omega
        have HFT := Lib.hid hft
        have hws : (fed (L.take k)).length + (bs row ++ ⟨#[10]⟩).size ≤ 140737488355328 := by rw [ByteArray.size_append, bs_size]; have : (⟨#[10]⟩ : ByteArray).size = 1 := rfl; omega
        have HWS := Lib.hid hws
        clear hft hat hl hj hl40 hlen hws hn
        go_upto_region 7 with fail
        go_region_with (first | (go_at_call 87; (with_reducible refine (HD.out _).mono ?_); rintro e wa ⟨rfl, ba⟩; obtain ⟨ca, fa⟩ := bcell ba; have za := ba.size; (try simp at za); have daa := fun o => ca (wr.heap.size) o (by first | omega | (simp; done) | (simp; omega)); clear ca fa) | (go_at_call 74; (refine (HROW.out _).mono ?_); rintro e wb ⟨rfl, bb⟩; obtain ⟨cb, fb⟩ := bcell bb; have zb := bb.size; (try simp at zb); clear cb fb) | (go_at_call 110; refine (bldWrite_any _ _ _ _ (((((HBL.out.alloc _).drew).below ba).alloc _).below bb) HWS.out).mono ?_; rintro e wc ⟨rfl, hbw, bc⟩))
        all_goals
          have hzz := bb.size
          simp only [World.size_alloc] at hzz
          have hbe : Below w.heap.size w wc := by
            refine Below.trans ?_ (bc.mono (by omega))
            (repeat (first | with_reducible assumption | with_reducible exact Below.refl _ _ | with_reducible refine Below.setCell ?_ (by first | omega | (simp; done) | (simp; omega)) _ | with_reducible refine Below.alloc ?_ (by first | omega | (simp; done) | (simp; omega)) _ | with_reducible refine Below.drew ?_ | (with_reducible refine Below.trans ?_ (Below.mono (by with_reducible assumption) (by first | omega | (simp; done) | (simp; omega)))) | (refine Below.trans ?_ (Below.mono (by assumption) (by first | omega | (simp; done) | (simp; omega))))))
          go_wp2_with fail
          go_roundw
          case rel =>
            refine ⟨k + 1, by omega, by go_num, ?_, hbe⟩
            unfold Hid
            rw [HFT.out]
            have e : (bs row ++ ⟨#[10]⟩ : ByteArray).data.toList = row ++ [10] := by rw [show (⟨#[10]⟩ : ByteArray) = bs [10] from rfl, bs_append, bs_data]
            rw [e] at hbw
            exact hbw
          case measure => simp [intOf]; omega
      · obtain rfl : k = 16 := by omega
        have HST := Lib.hid (bldString_any _ _ wr HBL.out)
        go_wp2_with (go_at_call 111; refine HST.out.mono ?_; rintro e wc ⟨rfl, bc⟩)
        go_ret
        exact ⟨ret_str (by rw [List.take_of_length_le (by rw [HL16.out]; exact Nat.le_refl _)]), hb.trans (bc.mono (by omega))⟩
end Go.Proofs.Ytnohkfbapibmdaa
