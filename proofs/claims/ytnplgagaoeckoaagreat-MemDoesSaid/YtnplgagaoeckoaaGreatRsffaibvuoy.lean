/- Texts put together: TabD. No condition. -/
import Derived.Test.YtnplgagaoeckoaaGreatRbocrvkvair
set_option maxRecDepth 100000
set_option linter.unusedSimpArgs false
set_option linter.unusedVariables false
namespace Go.Proofs.YtnplgagaoeckoaaGreat
open Go.RowKit Go.Lib

def cntL (b : Bool) (l : List Pe) : Nat := (l.filter fun p => p.came == b).length
theorem cntL_snoc (b : Bool) (l : List Pe) (x : Pe) : cntL b (l ++ [x]) = cntL b l + (if x.came = b then 1 else 0) := by
 unfold cntL
 rw [List.filter_append, List.length_append]
 by_cases h : x.came = b <;> simp [h]
theorem cntL_le (b : Bool) (l : List Pe) : cntL b l ≤ l.length := List.length_filter_le _ _

set_option maxHeartbeats 4000000 in
theorem tcount_true (v : Value) (l : List Pe) (w : World) (h : ReadsL peV 10 w v l) :
  Calls Tryz.prog 30 #[v, .bool true] w fun e w' => e = .returned (.int .i64 (cntL true l)) ∧ Below w.heap.size w w' := by
 obtain ⟨hm, p, c, rfl, h3⟩ := pes_open h
 clear h
 go_enter Tryz.func30, Tryz.ntmps30
 go_wp2_with fail
 go_loopw [5, 10] (fun n' i' wr => ∃ k : Nat, k ≤ l.length ∧ i' = .int .i64 k ∧ n' = .int .i64 (cntL true (l.take k)) ∧ Hid (Below w.heap.size w wr)) (fun _ i' _ => l.length - (intOf i').toNat)
 case atStart => exact ⟨0, by omega, rfl, rfl, Below.refl _ _⟩
 case round =>
  obtain ⟨k, hk, rfl, rfl, HB⟩ := hrel
  by_cases hlt : k < l.length
  ·obtain ⟨x, hx⟩ : ∃ x, l[k]? = some x := ⟨_, List.getElem?_eq_getElem hlt⟩
   obtain ⟨b, o, rfl, h4, h5, h6⟩ := h3 (by omega)
   have K := (h6 k x hx).below HB.out h5
   have q1 : (0 : Int) ≤ (k : Int) := by omega
   have q2 : (k : Int) < (l.length : Int) := by omega
   have hS := cntL_snoc true (l.take k) x
   rw [← show l.take (k + 1) = l.take k ++ [x] by rw [List.take_add_one, hx, Option.toList_some]] at hS
   have HS := zh hS
   have hcl : cntL true (l.take k) ≤ k := Nat.le_trans (cntL_le _ _) (by rw [List.length_take]; omega)
   obtain ⟨k0, k1, k2, k3, k4, k5, k6, k7, k8, k9⟩ := K
   clear hx h6 hS
   go_upto_region 5 with (refine list_store_blk rfl 52 _ _ rfl (wr.heap.size) _ _ 52 (BlockIs.newAt' _ _ _ (by simp)) rfl rfl (by kernel_rfl) rfl (by simp [Value.oneCell']) wr.heap.size wr (by exact bel) (Nat.le_refl _) ?_; intro W5 hP hoth hsz b5; clear hoth hsz)
   clear k0 k1 k2 k3 k4 k5 k6 k7 k8 k9
   have HB5 := zh (HB.out.trans (b5.mono HB.out.size))
   obtain ⟨x0, x1, x2, x3, x4, x5, x6, x7, x8, x9⟩ := hP.e10
   have xf := hP.frozen
   have xl := hP.lt
   rcases (show x.came = true ∨ x.came = false from by cases x.came <;> simp) with hc | hc
   ·have HS2 : Hid (cntL true (l.take (k + 1)) = cntL true (l.take k) + 1) := by show _ = _; rw [HS.out, hc]; simp
    rw [hc] at x4
    clear hc
    go_wp2_with fail
    go_roundw
    case rel => exact ⟨k + 1, by omega, by go_num, by rw [HS2.out]; go_num, HB5.out⟩
    case measure => simp [intOf]; omega
   ·have HS2 : Hid (cntL true (l.take (k + 1)) = cntL true (l.take k)) := by show _ = _; rw [HS.out, hc]; simp
    rw [hc] at x4
    clear hc
    go_wp2_with fail
    go_roundw
    case rel => exact ⟨k + 1, by omega, by go_num, by rw [HS2.out], HB5.out⟩
    case measure => simp [intOf]; omega
  ·obtain rfl : k = l.length := by omega
   have HR : Hid (cntL true (l.take l.length) = cntL true l) := by show _ = _; rw [List.take_length]
   go_wp2_with fail
   go_ret
   exact ⟨by rw [HR.out]; rfl, HB.out⟩
set_option maxHeartbeats 4000000 in
theorem refTcount_true (v : Value) (l : List Pe) (w : World) (h : ReadsL peV 10 w v l) :
  Calls Tryz.prog 34 #[v, .bool true] w fun e w' => e = .returned (.int .i64 (cntL true l)) ∧ Below w.heap.size w w' := by
 obtain ⟨hm, p, c, rfl, h3⟩ := pes_open h
 clear h
 go_enter Tryz.func34, Tryz.ntmps34
 go_wp2_with fail
 go_loopw [5, 6] (fun n' i' wr => ∃ k : Nat, k ≤ l.length ∧ i' = .int .i64 k ∧ n' = .int .i64 (cntL true (l.take k)) ∧ Hid (Below w.heap.size w wr)) (fun _ i' _ => l.length - (intOf i').toNat)
 case atStart => exact ⟨0, by omega, rfl, rfl, Below.refl _ _⟩
 case round =>
  obtain ⟨k, hk, rfl, rfl, HB⟩ := hrel
  by_cases hlt : k < l.length
  ·obtain ⟨x, hx⟩ : ∃ x, l[k]? = some x := ⟨_, List.getElem?_eq_getElem hlt⟩
   obtain ⟨b, o, rfl, h4, h5, h6⟩ := h3 (by omega)
   have K := (h6 k x hx).below HB.out h5
   have q1 : (0 : Int) ≤ (k : Int) := by omega
   have q2 : (k : Int) < (l.length : Int) := by omega
   have hS := cntL_snoc true (l.take k) x
   rw [← show l.take (k + 1) = l.take k ++ [x] by rw [List.take_add_one, hx, Option.toList_some]] at hS
   have HS := zh hS
   have hcl : cntL true (l.take k) ≤ k := Nat.le_trans (cntL_le _ _) (by rw [List.length_take]; omega)
   obtain ⟨k0, k1, k2, k3, k4, k5, k6, k7, k8, k9⟩ := K
   clear hx h6 hS
   rcases (show x.came = true ∨ x.came = false from by cases x.came <;> simp) with hc | hc
   ·have HS2 : Hid (cntL true (l.take (k + 1)) = cntL true (l.take k) + 1) := by show _ = _; rw [HS.out, hc]; simp
    rw [hc] at k4
    clear hc
    go_wp2_with fail
    go_roundw
    case rel => exact ⟨k + 1, by omega, by go_num, by rw [HS2.out]; go_num, HB.out⟩
    case measure => simp [intOf]; omega
   ·have HS2 : Hid (cntL true (l.take (k + 1)) = cntL true (l.take k)) := by show _ = _; rw [HS.out, hc]; simp
    rw [hc] at k4
    clear hc
    go_wp2_with fail
    go_roundw
    case rel => exact ⟨k + 1, by omega, by go_num, by rw [HS2.out], HB.out⟩
    case measure => simp [intOf]; omega
  ·obtain rfl : k = l.length := by omega
   have HR : Hid (cntL true (l.take l.length) = cntL true l) := by show _ = _; rw [List.take_length]
   go_wp2_with fail
   go_ret
   exact ⟨by rw [HR.out]; rfl, HB.out⟩
set_option maxHeartbeats 4000000 in
theorem tcount_false (v : Value) (l : List Pe) (w : World) (h : ReadsL peV 10 w v l) :
  Calls Tryz.prog 30 #[v, .bool false] w fun e w' => e = .returned (.int .i64 (cntL false l)) ∧ Below w.heap.size w w' := by
 obtain ⟨hm, p, c, rfl, h3⟩ := pes_open h
 clear h
 go_enter Tryz.func30, Tryz.ntmps30
 go_wp2_with fail
 go_loopw [5, 10] (fun n' i' wr => ∃ k : Nat, k ≤ l.length ∧ i' = .int .i64 k ∧ n' = .int .i64 (cntL false (l.take k)) ∧ Hid (Below w.heap.size w wr)) (fun _ i' _ => l.length - (intOf i').toNat)
 case atStart => exact ⟨0, by omega, rfl, rfl, Below.refl _ _⟩
 case round =>
  obtain ⟨k, hk, rfl, rfl, HB⟩ := hrel
  by_cases hlt : k < l.length
  ·obtain ⟨x, hx⟩ : ∃ x, l[k]? = some x := ⟨_, List.getElem?_eq_getElem hlt⟩
   obtain ⟨b, o, rfl, h4, h5, h6⟩ := h3 (by omega)
   have K := (h6 k x hx).below HB.out h5
   have q1 : (0 : Int) ≤ (k : Int) := by omega
   have q2 : (k : Int) < (l.length : Int) := by omega
   have hS := cntL_snoc false (l.take k) x
   rw [← show l.take (k + 1) = l.take k ++ [x] by rw [List.take_add_one, hx, Option.toList_some]] at hS
   have HS := zh hS
   have hcl : cntL false (l.take k) ≤ k := Nat.le_trans (cntL_le _ _) (by rw [List.length_take]; omega)
   obtain ⟨k0, k1, k2, k3, k4, k5, k6, k7, k8, k9⟩ := K
   clear hx h6 hS
   go_upto_region 5 with (refine list_store_blk rfl 52 _ _ rfl (wr.heap.size) _ _ 52 (BlockIs.newAt' _ _ _ (by simp)) rfl rfl (by kernel_rfl) rfl (by simp [Value.oneCell']) wr.heap.size wr (by exact bel) (Nat.le_refl _) ?_; intro W5 hP hoth hsz b5; clear hoth hsz)
   clear k0 k1 k2 k3 k4 k5 k6 k7 k8 k9
   have HB5 := zh (HB.out.trans (b5.mono HB.out.size))
   obtain ⟨x0, x1, x2, x3, x4, x5, x6, x7, x8, x9⟩ := hP.e10
   have xf := hP.frozen
   have xl := hP.lt
   rcases (show x.came = false ∨ x.came = true from by cases x.came <;> simp) with hc | hc
   ·have HS2 : Hid (cntL false (l.take (k + 1)) = cntL false (l.take k) + 1) := by show _ = _; rw [HS.out, hc]; simp
    rw [hc] at x4
    clear hc
    go_wp2_with fail
    go_roundw
    case rel => exact ⟨k + 1, by omega, by go_num, by rw [HS2.out]; go_num, HB5.out⟩
    case measure => simp [intOf]; omega
   ·have HS2 : Hid (cntL false (l.take (k + 1)) = cntL false (l.take k)) := by show _ = _; rw [HS.out, hc]; simp
    rw [hc] at x4
    clear hc
    go_wp2_with fail
    go_roundw
    case rel => exact ⟨k + 1, by omega, by go_num, by rw [HS2.out], HB5.out⟩
    case measure => simp [intOf]; omega
  ·obtain rfl : k = l.length := by omega
   have HR : Hid (cntL false (l.take l.length) = cntL false l) := by show _ = _; rw [List.take_length]
   go_wp2_with fail
   go_ret
   exact ⟨by rw [HR.out]; rfl, HB.out⟩
set_option maxHeartbeats 4000000 in
theorem refTcount_false (v : Value) (l : List Pe) (w : World) (h : ReadsL peV 10 w v l) :
  Calls Tryz.prog 34 #[v, .bool false] w fun e w' => e = .returned (.int .i64 (cntL false l)) ∧ Below w.heap.size w w' := by
 obtain ⟨hm, p, c, rfl, h3⟩ := pes_open h
 clear h
 go_enter Tryz.func34, Tryz.ntmps34
 go_wp2_with fail
 go_loopw [5, 6] (fun n' i' wr => ∃ k : Nat, k ≤ l.length ∧ i' = .int .i64 k ∧ n' = .int .i64 (cntL false (l.take k)) ∧ Hid (Below w.heap.size w wr)) (fun _ i' _ => l.length - (intOf i').toNat)
 case atStart => exact ⟨0, by omega, rfl, rfl, Below.refl _ _⟩
 case round =>
  obtain ⟨k, hk, rfl, rfl, HB⟩ := hrel
  by_cases hlt : k < l.length
  ·obtain ⟨x, hx⟩ : ∃ x, l[k]? = some x := ⟨_, List.getElem?_eq_getElem hlt⟩
   obtain ⟨b, o, rfl, h4, h5, h6⟩ := h3 (by omega)
   have K := (h6 k x hx).below HB.out h5
   have q1 : (0 : Int) ≤ (k : Int) := by omega
   have q2 : (k : Int) < (l.length : Int) := by omega
   have hS := cntL_snoc false (l.take k) x
   rw [← show l.take (k + 1) = l.take k ++ [x] by rw [List.take_add_one, hx, Option.toList_some]] at hS
   have HS := zh hS
   have hcl : cntL false (l.take k) ≤ k := Nat.le_trans (cntL_le _ _) (by rw [List.length_take]; omega)
   obtain ⟨k0, k1, k2, k3, k4, k5, k6, k7, k8, k9⟩ := K
   clear hx h6 hS
   rcases (show x.came = false ∨ x.came = true from by cases x.came <;> simp) with hc | hc
   ·have HS2 : Hid (cntL false (l.take (k + 1)) = cntL false (l.take k) + 1) := by show _ = _; rw [HS.out, hc]; simp
    rw [hc] at k4
    clear hc
    go_wp2_with fail
    go_roundw
    case rel => exact ⟨k + 1, by omega, by go_num, by rw [HS2.out]; go_num, HB.out⟩
    case measure => simp [intOf]; omega
   ·have HS2 : Hid (cntL false (l.take (k + 1)) = cntL false (l.take k)) := by show _ = _; rw [HS.out, hc]; simp
    rw [hc] at k4
    clear hc
    go_wp2_with fail
    go_roundw
    case rel => exact ⟨k + 1, by omega, by go_num, by rw [HS2.out], HB.out⟩
    case measure => simp [intOf]; omega
  ·obtain rfl : k = l.length := by omega
   have HR : Hid (cntL false (l.take l.length) = cntL false l) := by show _ = _; rw [List.take_length]
   go_wp2_with fail
   go_ret
   exact ⟨by rw [HR.out]; rfl, HB.out⟩
end Go.Proofs.YtnplgagaoeckoaaGreat
