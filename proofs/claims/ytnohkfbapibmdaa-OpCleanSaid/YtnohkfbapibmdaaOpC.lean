/- The contracts of operations: places, values. -/
import Derived.Test.YtnohkfbapibmdaaOp
import Derived.Test.YtnohkfbapibmdaaBlk
namespace Go.Proofs.Ytnohkfbapibmdaa
open Go.RowKit

theorem k6 (k : Int) : k = 1 ∨ k = 2 ∨ k = 3 ∨ k = 4 ∨ k = 5 ∨ k = 6 ∨ (k < 1 ∨ 6 < k) := by omega
theorem k6_ne {k : Int} (h : k < 1 ∨ 6 < k) : (k == 1) = false ∧ (k == 2) = false ∧ (k == 3) = false ∧ (k == 4) = false ∧ (k == 5) = false ∧ (k == 6) = false := by
  simp only [beq_eq_false_iff_ne]; omega
theorem cK_out {k : Int} (h : k < 1 ∨ 6 < k) : cK k = 0 := if_neg (by omega)
theorem cS_out {k s : Int} (h : k < 1 ∨ 6 < k) : cS k s = 0 := if_neg (by omega)
theorem cT_out {k s : Int} (h : k < 1 ∨ 6 < k) : cT k s = 0 := if_neg (by omega)
theorem cN_out {k s : Int} (h : k < 1 ∨ 6 < k) : cN k s = 0 := if_neg (by omega)
theorem cP_out {k : Int} {p : Pe} (h : k < 1 ∨ 6 < k) : cP k p = zeroPe := if_neg (by omega)
theorem cB_out {α : Type} {k : Int} {z b : α} (h : k < 1 ∨ 6 < k) : cB k z b = z := if_neg (by omega)
theorem cY_out {α : Type} {k : Int} {z b : α} (h : k < 1 ∨ 6 < k) : cY k z b = z := if_neg (by omega)
set_option maxRecDepth 100000 in
set_option maxHeartbeats 8000000 in
theorem opPl_any (k s t : Int) (w : World) : Calls Try.prog 91 #[.agg #[.int .i64 k, .int .i64 s, .int .i64 t]] w fun r w' => r = .returned (.agg #[.int .i64 (cK k), .int .i64 (cS k s), .int .i64 (cT k t)]) ∧ Below w.heap.size w w' := by
  rcases k6 k with rfl | rfl | rfl | rfl | rfl | rfl | h
  · go_enter Try.func91, Try.ntmps91
    go_wp2_with fail
    exact bodyPost_ret (results_cell rfl rfl ((BlockIs.newAt' _ _ _ (by simp)).loadVar Try.underlying54 (by kernel_rfl))) rfl ⟨rfl, by (repeat (first | with_reducible assumption | with_reducible exact Below.refl _ _ | with_reducible refine Below.setCell ?_ (by first | omega | (simp; done) | (simp; omega)) _ | with_reducible refine Below.alloc ?_ (by first | omega | (simp; done) | (simp; omega)) _ | with_reducible refine Below.drew ?_ | (with_reducible refine Below.trans ?_ (Below.mono (by with_reducible assumption) (by first | omega | (simp; done) | (simp; omega)))) | (refine Below.trans ?_ (Below.mono (by assumption) (by first | omega | (simp; done) | (simp; omega))))))⟩
  · go_enter Try.func91, Try.ntmps91
    go_wp2_with fail
    exact bodyPost_ret (results_cell rfl rfl ((BlockIs.newAt' _ _ _ (by simp)).loadVar Try.underlying54 (by kernel_rfl))) rfl ⟨rfl, by (repeat (first | with_reducible assumption | with_reducible exact Below.refl _ _ | with_reducible refine Below.setCell ?_ (by first | omega | (simp; done) | (simp; omega)) _ | with_reducible refine Below.alloc ?_ (by first | omega | (simp; done) | (simp; omega)) _ | with_reducible refine Below.drew ?_ | (with_reducible refine Below.trans ?_ (Below.mono (by with_reducible assumption) (by first | omega | (simp; done) | (simp; omega)))) | (refine Below.trans ?_ (Below.mono (by assumption) (by first | omega | (simp; done) | (simp; omega))))))⟩
  · go_enter Try.func91, Try.ntmps91
    go_wp2_with fail
    exact bodyPost_ret (results_cell rfl rfl ((BlockIs.newAt' _ _ _ (by simp)).loadVar Try.underlying54 (by kernel_rfl))) rfl ⟨rfl, by (repeat (first | with_reducible assumption | with_reducible exact Below.refl _ _ | with_reducible refine Below.setCell ?_ (by first | omega | (simp; done) | (simp; omega)) _ | with_reducible refine Below.alloc ?_ (by first | omega | (simp; done) | (simp; omega)) _ | with_reducible refine Below.drew ?_ | (with_reducible refine Below.trans ?_ (Below.mono (by with_reducible assumption) (by first | omega | (simp; done) | (simp; omega)))) | (refine Below.trans ?_ (Below.mono (by assumption) (by first | omega | (simp; done) | (simp; omega))))))⟩
  · go_enter Try.func91, Try.ntmps91
    go_wp2_with fail
    exact bodyPost_ret (results_cell rfl rfl ((BlockIs.newAt' _ _ _ (by simp)).loadVar Try.underlying54 (by kernel_rfl))) rfl ⟨rfl, by (repeat (first | with_reducible assumption | with_reducible exact Below.refl _ _ | with_reducible refine Below.setCell ?_ (by first | omega | (simp; done) | (simp; omega)) _ | with_reducible refine Below.alloc ?_ (by first | omega | (simp; done) | (simp; omega)) _ | with_reducible refine Below.drew ?_ | (with_reducible refine Below.trans ?_ (Below.mono (by with_reducible assumption) (by first | omega | (simp; done) | (simp; omega)))) | (refine Below.trans ?_ (Below.mono (by assumption) (by first | omega | (simp; done) | (simp; omega))))))⟩
  · go_enter Try.func91, Try.ntmps91
    go_wp2_with fail
    exact bodyPost_ret (results_cell rfl rfl ((BlockIs.newAt' _ _ _ (by simp)).loadVar Try.underlying54 (by kernel_rfl))) rfl ⟨rfl, by (repeat (first | with_reducible assumption | with_reducible exact Below.refl _ _ | with_reducible refine Below.setCell ?_ (by first | omega | (simp; done) | (simp; omega)) _ | with_reducible refine Below.alloc ?_ (by first | omega | (simp; done) | (simp; omega)) _ | with_reducible refine Below.drew ?_ | (with_reducible refine Below.trans ?_ (Below.mono (by with_reducible assumption) (by first | omega | (simp; done) | (simp; omega)))) | (refine Below.trans ?_ (Below.mono (by assumption) (by first | omega | (simp; done) | (simp; omega))))))⟩
  · go_enter Try.func91, Try.ntmps91
    go_wp2_with fail
    exact bodyPost_ret (results_cell rfl rfl ((BlockIs.newAt' _ _ _ (by simp)).loadVar Try.underlying54 (by kernel_rfl))) rfl ⟨rfl, by (repeat (first | with_reducible assumption | with_reducible exact Below.refl _ _ | with_reducible refine Below.setCell ?_ (by first | omega | (simp; done) | (simp; omega)) _ | with_reducible refine Below.alloc ?_ (by first | omega | (simp; done) | (simp; omega)) _ | with_reducible refine Below.drew ?_ | (with_reducible refine Below.trans ?_ (Below.mono (by with_reducible assumption) (by first | omega | (simp; done) | (simp; omega)))) | (refine Below.trans ?_ (Below.mono (by assumption) (by first | omega | (simp; done) | (simp; omega))))))⟩
  · rw [cK_out h, cS_out h, cT_out h]
    have hn := k6_ne h
    obtain ⟨n1, n2, n3, n4, n5, n6⟩ := hn
    go_enter Try.func91, Try.ntmps91
    go_wp2_with fail
    exact bodyPost_ret (results_cell rfl rfl ((BlockIs.newAt' _ _ _ (by simp)).loadVar Try.underlying54 (by kernel_rfl))) rfl ⟨rfl, by (repeat (first | with_reducible assumption | with_reducible exact Below.refl _ _ | with_reducible refine Below.setCell ?_ (by first | omega | (simp; done) | (simp; omega)) _ | with_reducible refine Below.alloc ?_ (by first | omega | (simp; done) | (simp; omega)) _ | with_reducible refine Below.drew ?_ | (with_reducible refine Below.trans ?_ (Below.mono (by with_reducible assumption) (by first | omega | (simp; done) | (simp; omega)))) | (refine Below.trans ?_ (Below.mono (by assumption) (by first | omega | (simp; done) | (simp; omega))))))⟩
set_option maxRecDepth 100000 in
set_option maxHeartbeats 8000000 in
theorem refLoc36_any (k s t : Int) (w : World) : Calls Try.prog 93 #[.agg #[.int .i64 k, .int .i64 s, .int .i64 t]] w fun r w' => r = .returned (.agg #[.int .i64 (cK k), .int .i64 (cS k s), .int .i64 (cT k t)]) ∧ Below w.heap.size w w' := by
  rcases k6 k with rfl | rfl | rfl | rfl | rfl | rfl | h
  · go_enter Try.func93, Try.ntmps93
    go_wp2_with fail
    exact bodyPost_ret (results_cell rfl rfl ((BlockIs.newAt' _ _ _ (by simp)).loadVar Try.underlying54 (by kernel_rfl))) rfl ⟨rfl, by (repeat (first | with_reducible assumption | with_reducible exact Below.refl _ _ | with_reducible refine Below.setCell ?_ (by first | omega | (simp; done) | (simp; omega)) _ | with_reducible refine Below.alloc ?_ (by first | omega | (simp; done) | (simp; omega)) _ | with_reducible refine Below.drew ?_ | (with_reducible refine Below.trans ?_ (Below.mono (by with_reducible assumption) (by first | omega | (simp; done) | (simp; omega)))) | (refine Below.trans ?_ (Below.mono (by assumption) (by first | omega | (simp; done) | (simp; omega))))))⟩
  · go_enter Try.func93, Try.ntmps93
    go_wp2_with fail
    exact bodyPost_ret (results_cell rfl rfl ((BlockIs.newAt' _ _ _ (by simp)).loadVar Try.underlying54 (by kernel_rfl))) rfl ⟨rfl, by (repeat (first | with_reducible assumption | with_reducible exact Below.refl _ _ | with_reducible refine Below.setCell ?_ (by first | omega | (simp; done) | (simp; omega)) _ | with_reducible refine Below.alloc ?_ (by first | omega | (simp; done) | (simp; omega)) _ | with_reducible refine Below.drew ?_ | (with_reducible refine Below.trans ?_ (Below.mono (by with_reducible assumption) (by first | omega | (simp; done) | (simp; omega)))) | (refine Below.trans ?_ (Below.mono (by assumption) (by first | omega | (simp; done) | (simp; omega))))))⟩
  · go_enter Try.func93, Try.ntmps93
    go_wp2_with fail
    exact bodyPost_ret (results_cell rfl rfl ((BlockIs.newAt' _ _ _ (by simp)).loadVar Try.underlying54 (by kernel_rfl))) rfl ⟨rfl, by (repeat (first | with_reducible assumption | with_reducible exact Below.refl _ _ | with_reducible refine Below.setCell ?_ (by first | omega | (simp; done) | (simp; omega)) _ | with_reducible refine Below.alloc ?_ (by first | omega | (simp; done) | (simp; omega)) _ | with_reducible refine Below.drew ?_ | (with_reducible refine Below.trans ?_ (Below.mono (by with_reducible assumption) (by first | omega | (simp; done) | (simp; omega)))) | (refine Below.trans ?_ (Below.mono (by assumption) (by first | omega | (simp; done) | (simp; omega))))))⟩
  · go_enter Try.func93, Try.ntmps93
    go_wp2_with fail
    exact bodyPost_ret (results_cell rfl rfl ((BlockIs.newAt' _ _ _ (by simp)).loadVar Try.underlying54 (by kernel_rfl))) rfl ⟨rfl, by (repeat (first | with_reducible assumption | with_reducible exact Below.refl _ _ | with_reducible refine Below.setCell ?_ (by first | omega | (simp; done) | (simp; omega)) _ | with_reducible refine Below.alloc ?_ (by first | omega | (simp; done) | (simp; omega)) _ | with_reducible refine Below.drew ?_ | (with_reducible refine Below.trans ?_ (Below.mono (by with_reducible assumption) (by first | omega | (simp; done) | (simp; omega)))) | (refine Below.trans ?_ (Below.mono (by assumption) (by first | omega | (simp; done) | (simp; omega))))))⟩
  · go_enter Try.func93, Try.ntmps93
    go_wp2_with fail
    exact bodyPost_ret (results_cell rfl rfl ((BlockIs.newAt' _ _ _ (by simp)).loadVar Try.underlying54 (by kernel_rfl))) rfl ⟨rfl, by (repeat (first | with_reducible assumption | with_reducible exact Below.refl _ _ | with_reducible refine Below.setCell ?_ (by first | omega | (simp; done) | (simp; omega)) _ | with_reducible refine Below.alloc ?_ (by first | omega | (simp; done) | (simp; omega)) _ | with_reducible refine Below.drew ?_ | (with_reducible refine Below.trans ?_ (Below.mono (by with_reducible assumption) (by first | omega | (simp; done) | (simp; omega)))) | (refine Below.trans ?_ (Below.mono (by assumption) (by first | omega | (simp; done) | (simp; omega))))))⟩
  · go_enter Try.func93, Try.ntmps93
    go_wp2_with fail
    exact bodyPost_ret (results_cell rfl rfl ((BlockIs.newAt' _ _ _ (by simp)).loadVar Try.underlying54 (by kernel_rfl))) rfl ⟨rfl, by (repeat (first | with_reducible assumption | with_reducible exact Below.refl _ _ | with_reducible refine Below.setCell ?_ (by first | omega | (simp; done) | (simp; omega)) _ | with_reducible refine Below.alloc ?_ (by first | omega | (simp; done) | (simp; omega)) _ | with_reducible refine Below.drew ?_ | (with_reducible refine Below.trans ?_ (Below.mono (by with_reducible assumption) (by first | omega | (simp; done) | (simp; omega)))) | (refine Below.trans ?_ (Below.mono (by assumption) (by first | omega | (simp; done) | (simp; omega))))))⟩
  · rw [cK_out h, cS_out h, cT_out h]
    have hn := k6_ne h
    obtain ⟨n1, n2, n3, n4, n5, n6⟩ := hn
    rcases h with h | h
    all_goals
      go_enter Try.func93, Try.ntmps93
      go_wp2_with fail
      exact bodyPost_ret (results_cell rfl rfl ((BlockIs.newAt' _ _ _ (by simp)).loadVar Try.underlying54 (by kernel_rfl))) rfl ⟨rfl, by (repeat (first | with_reducible assumption | with_reducible exact Below.refl _ _ | with_reducible refine Below.setCell ?_ (by first | omega | (simp; done) | (simp; omega)) _ | with_reducible refine Below.alloc ?_ (by first | omega | (simp; done) | (simp; omega)) _ | with_reducible refine Below.drew ?_ | (with_reducible refine Below.trans ?_ (Below.mono (by with_reducible assumption) (by first | omega | (simp; done) | (simp; omega)))) | (refine Below.trans ?_ (Below.mono (by assumption) (by first | omega | (simp; done) | (simp; omega))))))⟩
set_option maxRecDepth 100000 in
set_option maxHeartbeats 8000000 in
theorem opVal_any (k n : Int) (p : Pe) (ba ya : Option Addr) (bn bc yn yc : Nat) (w : World) : Calls Try.prog 92 #[.int .i64 k, .agg #[.int .i64 n, .bool p.en.ad.v6, .int .u64 p.en.ad.hi, .int .u64 p.en.ad.lo, .int .i64 p.en.port, .bool p.came, .int .i64 p.since, .int .i64 p.pts, .int .i64 p.at_, .int .i64 p.ping, .int .i64 p.work, .slice ba bn bc, .slice ya yn yc]] w fun r w' => r = .returned (.agg #[.int .i64 (cN k n), .bool (cP k p).en.ad.v6, .int .u64 (cP k p).en.ad.hi, .int .u64 (cP k p).en.ad.lo, .int .i64 (cP k p).en.port, .bool (cP k p).came, .int .i64 (cP k p).since, .int .i64 (cP k p).pts, .int .i64 (cP k p).at_, .int .i64 (cP k p).ping, .int .i64 (cP k p).work, cB k (.slice none 0 0) (.slice ba bn bc), cY k (.slice none 0 0) (.slice ya yn yc)]) ∧ Below w.heap.size w w' := by
  rcases k6 k with rfl | rfl | rfl | rfl | rfl | rfl | h
  · go_enter Try.func92, Try.ntmps92
    go_wp2_with fail
    exact bodyPost_ret (results_cell rfl rfl ((BlockIs.newAt' _ _ _ (by simp)).loadVar Try.underlying58 (by kernel_rfl))) rfl ⟨rfl, by (repeat (first | with_reducible assumption | with_reducible exact Below.refl _ _ | with_reducible refine Below.setCell ?_ (by first | omega | (simp; done) | (simp; omega)) _ | with_reducible refine Below.alloc ?_ (by first | omega | (simp; done) | (simp; omega)) _ | with_reducible refine Below.drew ?_ | (with_reducible refine Below.trans ?_ (Below.mono (by with_reducible assumption) (by first | omega | (simp; done) | (simp; omega)))) | (refine Below.trans ?_ (Below.mono (by assumption) (by first | omega | (simp; done) | (simp; omega))))))⟩
  · go_enter Try.func92, Try.ntmps92
    go_wp2_with fail
    exact bodyPost_ret (results_cell rfl rfl ((BlockIs.newAt' _ _ _ (by simp)).loadVar Try.underlying58 (by kernel_rfl))) rfl ⟨rfl, by (repeat (first | with_reducible assumption | with_reducible exact Below.refl _ _ | with_reducible refine Below.setCell ?_ (by first | omega | (simp; done) | (simp; omega)) _ | with_reducible refine Below.alloc ?_ (by first | omega | (simp; done) | (simp; omega)) _ | with_reducible refine Below.drew ?_ | (with_reducible refine Below.trans ?_ (Below.mono (by with_reducible assumption) (by first | omega | (simp; done) | (simp; omega)))) | (refine Below.trans ?_ (Below.mono (by assumption) (by first | omega | (simp; done) | (simp; omega))))))⟩
  · go_enter Try.func92, Try.ntmps92
    go_wp2_with fail
    exact bodyPost_ret (results_cell rfl rfl ((BlockIs.newAt' _ _ _ (by simp)).loadVar Try.underlying58 (by kernel_rfl))) rfl ⟨rfl, by (repeat (first | with_reducible assumption | with_reducible exact Below.refl _ _ | with_reducible refine Below.setCell ?_ (by first | omega | (simp; done) | (simp; omega)) _ | with_reducible refine Below.alloc ?_ (by first | omega | (simp; done) | (simp; omega)) _ | with_reducible refine Below.drew ?_ | (with_reducible refine Below.trans ?_ (Below.mono (by with_reducible assumption) (by first | omega | (simp; done) | (simp; omega)))) | (refine Below.trans ?_ (Below.mono (by assumption) (by first | omega | (simp; done) | (simp; omega))))))⟩
  · go_enter Try.func92, Try.ntmps92
    go_wp2_with fail
    exact bodyPost_ret (results_cell rfl rfl ((BlockIs.newAt' _ _ _ (by simp)).loadVar Try.underlying58 (by kernel_rfl))) rfl ⟨rfl, by (repeat (first | with_reducible assumption | with_reducible exact Below.refl _ _ | with_reducible refine Below.setCell ?_ (by first | omega | (simp; done) | (simp; omega)) _ | with_reducible refine Below.alloc ?_ (by first | omega | (simp; done) | (simp; omega)) _ | with_reducible refine Below.drew ?_ | (with_reducible refine Below.trans ?_ (Below.mono (by with_reducible assumption) (by first | omega | (simp; done) | (simp; omega)))) | (refine Below.trans ?_ (Below.mono (by assumption) (by first | omega | (simp; done) | (simp; omega))))))⟩
  · go_enter Try.func92, Try.ntmps92
    go_wp2_with fail
    exact bodyPost_ret (results_cell rfl rfl ((BlockIs.newAt' _ _ _ (by simp)).loadVar Try.underlying58 (by kernel_rfl))) rfl ⟨rfl, by (repeat (first | with_reducible assumption | with_reducible exact Below.refl _ _ | with_reducible refine Below.setCell ?_ (by first | omega | (simp; done) | (simp; omega)) _ | with_reducible refine Below.alloc ?_ (by first | omega | (simp; done) | (simp; omega)) _ | with_reducible refine Below.drew ?_ | (with_reducible refine Below.trans ?_ (Below.mono (by with_reducible assumption) (by first | omega | (simp; done) | (simp; omega)))) | (refine Below.trans ?_ (Below.mono (by assumption) (by first | omega | (simp; done) | (simp; omega))))))⟩
  · go_enter Try.func92, Try.ntmps92
    go_wp2_with fail
    exact bodyPost_ret (results_cell rfl rfl ((BlockIs.newAt' _ _ _ (by simp)).loadVar Try.underlying58 (by kernel_rfl))) rfl ⟨rfl, by (repeat (first | with_reducible assumption | with_reducible exact Below.refl _ _ | with_reducible refine Below.setCell ?_ (by first | omega | (simp; done) | (simp; omega)) _ | with_reducible refine Below.alloc ?_ (by first | omega | (simp; done) | (simp; omega)) _ | with_reducible refine Below.drew ?_ | (with_reducible refine Below.trans ?_ (Below.mono (by with_reducible assumption) (by first | omega | (simp; done) | (simp; omega)))) | (refine Below.trans ?_ (Below.mono (by assumption) (by first | omega | (simp; done) | (simp; omega))))))⟩
  · rw [cN_out h, cP_out h, cB_out h, cY_out h]
    have hn := k6_ne h
    obtain ⟨n1, n2, n3, n4, n5, n6⟩ := hn
    go_enter Try.func92, Try.ntmps92
    go_wp2_with fail
    exact bodyPost_ret (results_cell rfl rfl ((BlockIs.newAt' _ _ _ (by simp)).loadVar Try.underlying58 (by kernel_rfl))) rfl ⟨rfl, by (repeat (first | with_reducible assumption | with_reducible exact Below.refl _ _ | with_reducible refine Below.setCell ?_ (by first | omega | (simp; done) | (simp; omega)) _ | with_reducible refine Below.alloc ?_ (by first | omega | (simp; done) | (simp; omega)) _ | with_reducible refine Below.drew ?_ | (with_reducible refine Below.trans ?_ (Below.mono (by with_reducible assumption) (by first | omega | (simp; done) | (simp; omega)))) | (refine Below.trans ?_ (Below.mono (by assumption) (by first | omega | (simp; done) | (simp; omega))))))⟩
set_option maxRecDepth 100000 in
set_option maxHeartbeats 8000000 in
theorem refVal36_any (k n : Int) (p : Pe) (ba ya : Option Addr) (bn bc yn yc : Nat) (w : World) : Calls Try.prog 94 #[.int .i64 k, .agg #[.int .i64 n, .bool p.en.ad.v6, .int .u64 p.en.ad.hi, .int .u64 p.en.ad.lo, .int .i64 p.en.port, .bool p.came, .int .i64 p.since, .int .i64 p.pts, .int .i64 p.at_, .int .i64 p.ping, .int .i64 p.work, .slice ba bn bc, .slice ya yn yc]] w fun r w' => r = .returned (.agg #[.int .i64 (cN k n), .bool (cP k p).en.ad.v6, .int .u64 (cP k p).en.ad.hi, .int .u64 (cP k p).en.ad.lo, .int .i64 (cP k p).en.port, .bool (cP k p).came, .int .i64 (cP k p).since, .int .i64 (cP k p).pts, .int .i64 (cP k p).at_, .int .i64 (cP k p).ping, .int .i64 (cP k p).work, cB k (.slice none 0 0) (.slice ba bn bc), cY k (.slice none 0 0) (.slice ya yn yc)]) ∧ Below w.heap.size w w' := by
  rcases k6 k with rfl | rfl | rfl | rfl | rfl | rfl | h
  · go_enter Try.func94, Try.ntmps94
    go_wp2_with fail
    exact bodyPost_ret (results_cell rfl rfl (((BlockIs.newAt' _ _ _ (by simp)).alloc' _).loadVar Try.underlying58 (by kernel_rfl))) rfl ⟨rfl, by (repeat (first | with_reducible assumption | with_reducible exact Below.refl _ _ | with_reducible refine Below.setCell ?_ (by first | omega | (simp; done) | (simp; omega)) _ | with_reducible refine Below.alloc ?_ (by first | omega | (simp; done) | (simp; omega)) _ | with_reducible refine Below.drew ?_ | (with_reducible refine Below.trans ?_ (Below.mono (by with_reducible assumption) (by first | omega | (simp; done) | (simp; omega)))) | (refine Below.trans ?_ (Below.mono (by assumption) (by first | omega | (simp; done) | (simp; omega))))))⟩
  · go_enter Try.func94, Try.ntmps94
    go_wp2_with fail
    exact bodyPost_ret (results_cell rfl rfl (((BlockIs.newAt' _ _ _ (by simp)).alloc' _).loadVar Try.underlying58 (by kernel_rfl))) rfl ⟨rfl, by (repeat (first | with_reducible assumption | with_reducible exact Below.refl _ _ | with_reducible refine Below.setCell ?_ (by first | omega | (simp; done) | (simp; omega)) _ | with_reducible refine Below.alloc ?_ (by first | omega | (simp; done) | (simp; omega)) _ | with_reducible refine Below.drew ?_ | (with_reducible refine Below.trans ?_ (Below.mono (by with_reducible assumption) (by first | omega | (simp; done) | (simp; omega)))) | (refine Below.trans ?_ (Below.mono (by assumption) (by first | omega | (simp; done) | (simp; omega))))))⟩
  · go_enter Try.func94, Try.ntmps94
    go_wp2_with fail
    exact bodyPost_ret (results_cell rfl rfl (((BlockIs.newAt' _ _ _ (by simp)).alloc' _).loadVar Try.underlying58 (by kernel_rfl))) rfl ⟨rfl, by (repeat (first | with_reducible assumption | with_reducible exact Below.refl _ _ | with_reducible refine Below.setCell ?_ (by first | omega | (simp; done) | (simp; omega)) _ | with_reducible refine Below.alloc ?_ (by first | omega | (simp; done) | (simp; omega)) _ | with_reducible refine Below.drew ?_ | (with_reducible refine Below.trans ?_ (Below.mono (by with_reducible assumption) (by first | omega | (simp; done) | (simp; omega)))) | (refine Below.trans ?_ (Below.mono (by assumption) (by first | omega | (simp; done) | (simp; omega))))))⟩
  · go_enter Try.func94, Try.ntmps94
    go_wp2_with fail
    exact bodyPost_ret (results_cell rfl rfl (((BlockIs.newAt' _ _ _ (by simp)).alloc' _).loadVar Try.underlying58 (by kernel_rfl))) rfl ⟨rfl, by (repeat (first | with_reducible assumption | with_reducible exact Below.refl _ _ | with_reducible refine Below.setCell ?_ (by first | omega | (simp; done) | (simp; omega)) _ | with_reducible refine Below.alloc ?_ (by first | omega | (simp; done) | (simp; omega)) _ | with_reducible refine Below.drew ?_ | (with_reducible refine Below.trans ?_ (Below.mono (by with_reducible assumption) (by first | omega | (simp; done) | (simp; omega)))) | (refine Below.trans ?_ (Below.mono (by assumption) (by first | omega | (simp; done) | (simp; omega))))))⟩
  · go_enter Try.func94, Try.ntmps94
    go_wp2_with fail
    exact bodyPost_ret (results_cell rfl rfl (((BlockIs.newAt' _ _ _ (by simp)).alloc' _).loadVar Try.underlying58 (by kernel_rfl))) rfl ⟨rfl, by (repeat (first | with_reducible assumption | with_reducible exact Below.refl _ _ | with_reducible refine Below.setCell ?_ (by first | omega | (simp; done) | (simp; omega)) _ | with_reducible refine Below.alloc ?_ (by first | omega | (simp; done) | (simp; omega)) _ | with_reducible refine Below.drew ?_ | (with_reducible refine Below.trans ?_ (Below.mono (by with_reducible assumption) (by first | omega | (simp; done) | (simp; omega)))) | (refine Below.trans ?_ (Below.mono (by assumption) (by first | omega | (simp; done) | (simp; omega))))))⟩
  · go_enter Try.func94, Try.ntmps94
    go_wp2_with fail
    exact bodyPost_ret (results_cell rfl rfl (((BlockIs.newAt' _ _ _ (by simp)).alloc' _).loadVar Try.underlying58 (by kernel_rfl))) rfl ⟨rfl, by (repeat (first | with_reducible assumption | with_reducible exact Below.refl _ _ | with_reducible refine Below.setCell ?_ (by first | omega | (simp; done) | (simp; omega)) _ | with_reducible refine Below.alloc ?_ (by first | omega | (simp; done) | (simp; omega)) _ | with_reducible refine Below.drew ?_ | (with_reducible refine Below.trans ?_ (Below.mono (by with_reducible assumption) (by first | omega | (simp; done) | (simp; omega)))) | (refine Below.trans ?_ (Below.mono (by assumption) (by first | omega | (simp; done) | (simp; omega))))))⟩
  · rw [cN_out h, cP_out h, cB_out h, cY_out h]
    have hn := k6_ne h
    obtain ⟨n1, n2, n3, n4, n5, n6⟩ := hn
    go_enter Try.func94, Try.ntmps94
    go_wp2_with fail
    exact bodyPost_ret (results_cell rfl rfl (((BlockIs.newAt' _ _ _ (by simp)).alloc' _).loadVar Try.underlying58 (by kernel_rfl))) rfl ⟨rfl, by (repeat (first | with_reducible assumption | with_reducible exact Below.refl _ _ | with_reducible refine Below.setCell ?_ (by first | omega | (simp; done) | (simp; omega)) _ | with_reducible refine Below.alloc ?_ (by first | omega | (simp; done) | (simp; omega)) _ | with_reducible refine Below.drew ?_ | (with_reducible refine Below.trans ?_ (Below.mono (by with_reducible assumption) (by first | omega | (simp; done) | (simp; omega)))) | (refine Below.trans ?_ (Below.mono (by assumption) (by first | omega | (simp; done) | (simp; omega))))))⟩
end Go.Proofs.Ytnohkfbapibmdaa
