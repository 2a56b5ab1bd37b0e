/- Texts put together: ConfR. No condition. -/
import Derived.Test.YtnohkfbapibmdaaRhhdjojiepe
namespace Go.Proofs.Ytnohkfbapibmdaa
open Go.RowKit

def cfWd (k : Nat) : List UInt8 := cfWords.getD k []
def cfNum (c : Cf) (k : Nat) : Int := (cfNums c).getD k 0
def cfLo (c : Cf) (k : Nat) : Int := [0, 0, 1, 0, 0, 0, 0, 0, 0, 0, 1, 1, 1, 1, c.base, 0].getD k 0
def cfHi (k : Nat) : Int := [65535, 65535, 8, 1024, 1024, 9223372036854775807, 64, 64, 64, 64, 1073741824, 10000, 1073741824, 1073741824, 1073741824, 1073741824].getD k 0
theorem cfIndex (c : Cf) (k : Nat) (hk : k < 16) (W : World) : (Instr.index 122 (.agg (cfArr c).toArray) (.int .i64 k)).run Try.prog W = .ok (.agg #[.string (bs (cfWd k)), .int .i64 (cfNum c k), .int .i64 (cfLo c k), .int .i64 (cfHi k)]) W := by
  rcases (by omega : k = 0 ∨ k = 1 ∨ k = 2 ∨ k = 3 ∨ k = 4 ∨ k = 5 ∨ k = 6 ∨ k = 7 ∨ k = 8 ∨ k = 9 ∨ k = 10 ∨ k = 11 ∨ k = 12 ∨ k = 13 ∨ k = 14 ∨ k = 15) with rfl | rfl | rfl | rfl | rfl | rfl | rfl | rfl | rfl | rfl | rfl | rfl | rfl | rfl | rfl | rfl <;> kernel_rfl
theorem cfRight_all (c : Cf) : cfRight c = true ↔ c.secret ≤ 9223372036854775807 ∧ ∀ k, k < 16 → cfLo c k ≤ cfNum c k ∧ cfNum c k ≤ cfHi k := by
  rw [cfRight_iff]
  constructor
  · rintro ⟨hs, h0, h1, h2, h3, h4, h6, h7, h8, h9, h10, h11, h12, h13, h14, h15⟩
    refine ⟨hs, fun k hk => ?_⟩
    rcases (by omega : k = 0 ∨ k = 1 ∨ k = 2 ∨ k = 3 ∨ k = 4 ∨ k = 5 ∨ k = 6 ∨ k = 7 ∨ k = 8 ∨ k = 9 ∨ k = 10 ∨ k = 11 ∨ k = 12 ∨ k = 13 ∨ k = 14 ∨ k = 15) with rfl | rfl | rfl | rfl | rfl | rfl | rfl | rfl | rfl | rfl | rfl | rfl | rfl | rfl | rfl | rfl <;> simp [cfLo, cfNum, cfNums, cfHi] <;> omega
  · rintro ⟨hs, h⟩
    have g0 := h 0 (by omega); have g1 := h 1 (by omega); have g2 := h 2 (by omega); have g3 := h 3 (by omega); have g4 := h 4 (by omega); have g6 := h 6 (by omega); have g7 := h 7 (by omega); have g8 := h 8 (by omega); have g9 := h 9 (by omega); have g10 := h 10 (by omega); have g11 := h 11 (by omega); have g12 := h 12 (by omega); have g13 := h 13 (by omega); have g14 := h 14 (by omega); have g15 := h 15 (by omega)
    simp [cfLo, cfNum, cfNums, cfHi] at g0 g1 g2 g3 g4 g6 g7 g8 g9 g10 g11 g12 g13 g14 g15
    exact ⟨hs, g0, g1, g2, g3, g4, g6, g7, g8, g9, g10, g11, g12, g13, g14, g15⟩
set_option maxRecDepth 100000 in
set_option maxHeartbeats 16000000 in
theorem cfRight_any (c : Cf) (w : World) : Calls Try.prog 49 #[.agg #[.int .i64 c.mi, .int .i64 c.mo, .int .i64 c.sh, .int .i64 c.mb, .int .i64 c.mbk, .int .u64 c.secret, .int .i64 c.qg, .int .i64 c.qp, .int .i64 c.qw, .int .i64 c.qt, .int .i64 c.half, .int .i64 c.limit, .int .i64 c.banfor, .int .i64 c.base, .int .i64 c.cap, .int .i64 c.jitter]] w fun r w' => r = .returned (.bool (cfRight c)) ∧ Below w.heap.size w w' := by
  rcases Nat.lt_or_ge 9223372036854775807 c.secret with hs | hs
  · rw [show cfRight c = false from Bool.eq_false_iff.2 (fun x => by have := (cfRight_all c).1 x; omega)]
    have q : (9223372036854775807 : Int) < c.secret := by omega
    go_enter Try.func49, Try.ntmps49
    go_wp2_with fail
    go_ret
    exact ⟨rfl, by (repeat (first | with_reducible assumption | with_reducible exact Below.refl _ _ | with_reducible refine Below.setCell ?_ (by first | omega | (simp; done) | (simp; omega)) _ | with_reducible refine Below.alloc ?_ (by first | omega | (simp; done) | (simp; omega)) _ | with_reducible refine Below.drew ?_ | (with_reducible refine Below.trans ?_ (Below.mono (by with_reducible assumption) (by first | omega | (simp; done) | (simp; omega)))) | (refine Below.trans ?_ (Below.mono (by assumption) (by first | omega | (simp; done) | (simp; omega))))))⟩
  · have HA := Lib.hid (fun w => cfAll_any c hs w)
    have HI := Lib.hid (fun k hk W => cfIndex c k hk W)
    have HR := Lib.hid (cfRight_all c)
    have HS := Lib.hid hs
    have q : ¬ (9223372036854775807 : Int) < c.secret := by omega
    have hB := BlockIs.new w [.int .i64 c.mi, .int .i64 c.mo, .int .i64 c.sh, .int .i64 c.mb, .int .i64 c.mbk, .int .u64 c.secret, .int .i64 c.qg, .int .i64 c.qp, .int .i64 c.qw, .int .i64 c.qt, .int .i64 c.half, .int .i64 c.limit, .int .i64 c.banfor, .int .i64 c.base, .int .i64 c.cap, .int .i64 c.jitter] 70
    generalize (cfArr c).toArray = A at *
    clear hs
    go_enter Try.func49, Try.ntmps49
    go_wp2_with (first | (refine list_load_blk rfl _ _ rfl _ _ _ hB rfl Try.underlying70 (by kernel_rfl) ?_) | (go_at_call 101; (with_reducible refine (HA.out _).mono ?_); rintro e w1 ⟨rfl, b1⟩))
    have bw1 : Below w.heap.size w w1 := by (repeat (first | with_reducible assumption | with_reducible exact Below.refl _ _ | with_reducible refine Below.setCell ?_ (by first | omega | (simp; done) | (simp; omega)) _ | with_reducible refine Below.alloc ?_ (by first | omega | (simp; done) | (simp; omega)) _ | with_reducible refine Below.drew ?_ | (with_reducible refine Below.trans ?_ (Below.mono (by with_reducible assumption) (by first | omega | (simp; done) | (simp; omega)))) | (refine Below.trans ?_ (Below.mono (by assumption) (by first | omega | (simp; done) | (simp; omega))))))
    go_loopw [10] (fun i wr => ∃ (k : Nat), k ≤ 16 ∧ i = .int .i64 k ∧ Hid (∀ j, j < k → cfLo c j ≤ cfNum c j ∧ cfNum c j ≤ cfHi j) ∧ Below w.heap.size w wr) (fun i _ => 16 - (intOf i).toNat)
    case atStart => exact ⟨0, Nat.zero_le _, rfl, fun j hj => absurd hj (by omega), bw1⟩
    case round =>
      obtain ⟨k, hk, rfl, HP, hb⟩ := hrel
      have zb := hb.size
      by_cases hk2 : k < 16
      · have hix := HI.out k hk2
        have q1 : (k : Int) < 16 := by omega
        rcases Int.lt_or_le (cfNum c k) (cfLo c k) with h1 | h1
        · have HF := Lib.hid (show cfRight c = false from Bool.eq_false_iff.2 (fun x => by have := (HR.out.1 x).2 k hk2; omega))
          go_wp2_with fail
          go_ret
          exact ⟨by rw [HF.out]; rfl, by (repeat (first | with_reducible assumption | with_reducible exact Below.refl _ _ | with_reducible refine Below.setCell ?_ (by first | omega | (simp; done) | (simp; omega)) _ | with_reducible refine Below.alloc ?_ (by first | omega | (simp; done) | (simp; omega)) _ | with_reducible refine Below.drew ?_ | (with_reducible refine Below.trans ?_ (Below.mono (by with_reducible assumption) (by first | omega | (simp; done) | (simp; omega)))) | (refine Below.trans ?_ (Below.mono (by assumption) (by first | omega | (simp; done) | (simp; omega))))))⟩
        · rcases Int.lt_or_le (cfHi k) (cfNum c k) with h2 | h2
          · have HF := Lib.hid (show cfRight c = false from Bool.eq_false_iff.2 (fun x => by have := (HR.out.1 x).2 k hk2; omega))
            go_wp2_with fail
            go_ret
            exact ⟨by rw [HF.out]; rfl, by (repeat (first | with_reducible assumption | with_reducible exact Below.refl _ _ | with_reducible refine Below.setCell ?_ (by first | omega | (simp; done) | (simp; omega)) _ | with_reducible refine Below.alloc ?_ (by first | omega | (simp; done) | (simp; omega)) _ | with_reducible refine Below.drew ?_ | (with_reducible refine Below.trans ?_ (Below.mono (by with_reducible assumption) (by first | omega | (simp; done) | (simp; omega)))) | (refine Below.trans ?_ (Below.mono (by assumption) (by first | omega | (simp; done) | (simp; omega))))))⟩
          · go_wp2_with fail
            all_goals try (exfalso; omega; done)
            go_roundw
            case rel =>
              refine ⟨k + 1, by omega, by go_num, fun j hj => ?_, by (repeat (first | with_reducible assumption | with_reducible exact Below.refl _ _ | with_reducible refine Below.setCell ?_ (by first | omega | (simp; done) | (simp; omega)) _ | with_reducible refine Below.alloc ?_ (by first | omega | (simp; done) | (simp; omega)) _ | with_reducible refine Below.drew ?_ | (with_reducible refine Below.trans ?_ (Below.mono (by with_reducible assumption) (by first | omega | (simp; done) | (simp; omega)))) | (refine Below.trans ?_ (Below.mono (by assumption) (by first | omega | (simp; done) | (simp; omega))))))⟩
              by_cases hjk : j < k
              · exact HP.out j hjk
              · obtain rfl : j = k := by omega
                exact ⟨h1, h2⟩
            case measure => simp [intOf]; omega
      · obtain rfl : k = 16 := by omega
        go_wp2_with fail
        go_ret
        exact ⟨by rw [HR.out.2 ⟨HS.out, HP.out⟩]; rfl, hb⟩
def arr16 (n : Nat → Int) : Value := .agg #[.int .i64 (n 0), .int .i64 (n 1), .int .i64 (n 2), .int .i64 (n 3), .int .i64 (n 4), .int .i64 (n 5), .int .i64 (n 6), .int .i64 (n 7), .int .i64 (n 8), .int .i64 (n 9), .int .i64 (n 10), .int .i64 (n 11), .int .i64 (n 12), .int .i64 (n 13), .int .i64 (n 14), .int .i64 (n 15)]
set_option maxRecDepth 100000 in
set_option maxHeartbeats 16000000 in
theorem cfOf_any (n : Nat → Int) (h5 : 0 ≤ n 5 ∧ n 5 ≤ 9223372036854775807) (w : World) : Calls Try.prog 104 #[arr16 n] w fun r w' => r = .returned (.agg #[.int .i64 (cfOf n).mi, .int .i64 (cfOf n).mo, .int .i64 (cfOf n).sh, .int .i64 (cfOf n).mb, .int .i64 (cfOf n).mbk, .int .u64 (cfOf n).secret, .int .i64 (cfOf n).qg, .int .i64 (cfOf n).qp, .int .i64 (cfOf n).qw, .int .i64 (cfOf n).qt, .int .i64 (cfOf n).half, .int .i64 (cfOf n).limit, .int .i64 (cfOf n).banfor, .int .i64 (cfOf n).base, .int .i64 (cfOf n).cap, .int .i64 (cfOf n).jitter]) ∧ Below w.heap.size w w' := by
  unfold arr16 cfOf
  simp only [Int.toNat_of_nonneg h5.1]
  have hw : IntKind.u64.wrap (n 5) = n 5 := by rw [wrap_u64]; omega
  go_enter Try.func104, Try.ntmps104
  go_wp2_with (refine list_store_blk rfl 70 _ _ rfl (w.heap.size + 1) _ _ 70 (BlockIs.newAt' _ _ _ (by simp)) rfl rfl (by kernel_rfl) rfl (by simp [Value.oneCell']) w.heap.size w (by (repeat (first | with_reducible assumption | with_reducible exact Below.refl _ _ | with_reducible refine Below.setCell ?_ (by first | omega | (simp; done) | (simp; omega)) _ | with_reducible refine Below.alloc ?_ (by first | omega | (simp; done) | (simp; omega)) _ | with_reducible refine Below.drew ?_ | (with_reducible refine Below.trans ?_ (Below.mono (by with_reducible assumption) (by first | omega | (simp; done) | (simp; omega)))) | (refine Below.trans ?_ (Below.mono (by assumption) (by first | omega | (simp; done) | (simp; omega))))))) (by omega) ?_; intro w1 hO hoth hsz bw1)
  exact bodyPost_ret (results_cell rfl rfl (hO.loadVar Try.underlying70 (by kernel_rfl))) rfl ⟨rfl, bw1⟩
theorem plain_of : cfOf (fun i => [8, 4, 4, 64, 64, 1, 1, 1, 1, 1, 100, 100, 1000, 2, 64, 4].getD i 0) = plainCf := rfl
set_option maxRecDepth 100000 in
set_option maxHeartbeats 16000000 in
theorem cfPlain_any (w : World) : Calls Try.prog 51 #[] w fun r w' => r = .returned (.agg #[.int .i64 plainCf.mi, .int .i64 plainCf.mo, .int .i64 plainCf.sh, .int .i64 plainCf.mb, .int .i64 plainCf.mbk, .int .u64 plainCf.secret, .int .i64 plainCf.qg, .int .i64 plainCf.qp, .int .i64 plainCf.qw, .int .i64 plainCf.qt, .int .i64 plainCf.half, .int .i64 plainCf.limit, .int .i64 plainCf.banfor, .int .i64 plainCf.base, .int .i64 plainCf.cap, .int .i64 plainCf.jitter]) ∧ Below w.heap.size w w' := by
  have h := fun w => cfOf_any (fun i => [8, 4, 4, 64, 64, 1, 1, 1, 1, 1, 100, 100, 1000, 2, 64, 4].getD i 0) (by decide) w
  rw [plain_of] at h
  unfold arr16 plainCf at h
  simp only [show ((1 : Nat) : Int) = 1 from rfl] at h
  have HO := Lib.hid h
  clear h
  go_enter Try.func51, Try.ntmps51
  go_wp2_with (first | (go_at_call 104; refine (HO.out _).mono ?_; rintro e w1 ⟨rfl, b1⟩; have z1 := b1.size; (try simp at z1)) | (refine list_store_blk rfl 70 _ _ rfl (w.heap.size) _ _ 70 (BlockIs.below (BlockIs.new _ _ _) b1) rfl rfl (by kernel_rfl) rfl (by simp [Value.oneCell']) w.heap.size w (by (repeat (first | with_reducible assumption | with_reducible exact Below.refl _ _ | with_reducible refine Below.setCell ?_ (by first | omega | (simp; done) | (simp; omega)) _ | with_reducible refine Below.alloc ?_ (by first | omega | (simp; done) | (simp; omega)) _ | with_reducible refine Below.drew ?_ | (with_reducible refine Below.trans ?_ (Below.mono (by with_reducible assumption) (by first | omega | (simp; done) | (simp; omega)))) | (refine Below.trans ?_ (Below.mono (by assumption) (by first | omega | (simp; done) | (simp; omega))))))) (by omega) ?_; intro w2 hO hoth hsz bw2))
  exact bodyPost_ret (results_cell rfl rfl (hO.loadVar Try.underlying70 (by kernel_rfl))) rfl ⟨rfl, bw2⟩
end Go.Proofs.Ytnohkfbapibmdaa
