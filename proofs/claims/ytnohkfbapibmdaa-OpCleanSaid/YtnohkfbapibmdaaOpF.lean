/- The contracts of operations: what is cleaned, the reference. -/
import Derived.Test.YtnohkfbapibmdaaOpE
namespace Go.Proofs.Ytnohkfbapibmdaa
open Go.RowKit
set_option linter.unusedSimpArgs false
set_option linter.unusedVariables false

set_option maxRecDepth 100000 in
set_option maxHeartbeats 16000000 in
theorem refClean1_any (lock lk ls lt old new vn : Int) (pe : Pe) (ba ya : Option Addr) (bn bc yn yc : Nat) (mark : Bool) (w : World) : Calls Try.prog 43 #[.agg #[.int .i64 1, .int .i64 lock, .int .i64 lk, .int .i64 ls, .int .i64 lt, .int .i64 old, .int .i64 new, .int .i64 vn, .bool pe.en.ad.v6, .int .u64 pe.en.ad.hi, .int .u64 pe.en.ad.lo, .int .i64 pe.en.port, .bool pe.came, .int .i64 pe.since, .int .i64 pe.pts, .int .i64 pe.at_, .int .i64 pe.ping, .int .i64 pe.work, .slice ba bn bc, .slice ya yn yc, .bool mark]] w
    fun r w' => r = .returned (.agg #[.int .i64 1, .int .i64 lock, .int .i64 0, .int .i64 0, .int .i64 0, .int .i64 0, .int .i64 0, .int .i64 0, .bool false, .int .u64 0, .int .u64 0, .int .i64 0, .bool false, .int .i64 0, .int .i64 0, .int .i64 0, .int .i64 0, .int .i64 0, .slice none 0 0, .slice none 0 0, .bool mark]) ∧ Below w.heap.size w w' := by
  go_enter Try.func43, Try.ntmps43
  go_upto_region 4 with (refine list_store_blk rfl 60 _ _ rfl (w.heap.size + 1 + 1) _ _ 60 (BlockIs.newAt' _ _ _ (by simp)) rfl rfl (by kernel_rfl) rfl (by simp [Value.oneCell']) w.heap.size w (by (repeat (first | with_reducible assumption | with_reducible exact Below.refl _ _ | with_reducible refine Below.setCell ?_ (by first | omega | (simp; done) | (simp; omega)) _ | with_reducible refine Below.alloc ?_ (by first | omega | (simp; done) | (simp; omega)) _ | with_reducible refine Below.drew ?_ | (with_reducible refine Below.trans ?_ (Below.mono (by with_reducible assumption) (by first | omega | (simp; done) | (simp; omega)))) | (refine Below.trans ?_ (Below.mono (by assumption) (by first | omega | (simp; done) | (simp; omega))))))) (by omega) ?_; intro w1 hO hoth hsz bw1)
  have hA := hoth w.heap.size [.int .i64 1, .int .i64 lock, .int .i64 lk, .int .i64 ls, .int .i64 lt, .int .i64 old, .int .i64 new, .int .i64 vn, .bool pe.en.ad.v6, .int .u64 pe.en.ad.hi, .int .u64 pe.en.ad.lo, .int .i64 pe.en.port, .bool pe.came, .int .i64 pe.since, .int .i64 pe.pts, .int .i64 pe.at_, .int .i64 pe.ping, .int .i64 pe.work, .slice ba bn bc, .slice ya yn yc, .bool mark] 60 (by omega) ((BlockIs.new w [.int .i64 1, .int .i64 lock, .int .i64 lk, .int .i64 ls, .int .i64 lt, .int .i64 old, .int .i64 new, .int .i64 vn, .bool pe.en.ad.v6, .int .u64 pe.en.ad.hi, .int .u64 pe.en.ad.lo, .int .i64 pe.en.port, .bool pe.came, .int .i64 pe.since, .int .i64 pe.pts, .int .i64 pe.at_, .int .i64 pe.ping, .int .i64 pe.work, .slice ba bn bc, .slice ya yn yc, .bool mark] _).alloc' _ |>.alloc' _)
  have hZ := hoth (w.heap.size + 1) [.int .i64 0, .int .i64 0, .int .i64 0, .int .i64 0, .int .i64 0, .int .i64 0, .int .i64 0, .int .i64 0, .bool false, .int .u64 0, .int .u64 0, .int .i64 0, .bool false, .int .i64 0, .int .i64 0, .int .i64 0, .int .i64 0, .int .i64 0, .slice none 0 0, .slice none 0 0, .bool false] 60 (by omega) ((BlockIs.newAt' (w.alloc _) [.int .i64 0, .int .i64 0, .int .i64 0, .int .i64 0, .int .i64 0, .int .i64 0, .int .i64 0, .int .i64 0, .bool false, .int .u64 0, .int .u64 0, .int .i64 0, .bool false, .int .i64 0, .int .i64 0, .int .i64 0, .int .i64 0, .int .i64 0, .slice none 0 0, .slice none 0 0, .bool false] _ (by simp)).alloc' _)
  simp only [World.size_alloc] at hsz
  clear hoth
  have xa0 := hA.cell (i := 0) rfl
  have xa1 := hA.cell (i := 1) rfl
  have xaf := hA.frozen
  have xal := hA.lt
  have xo1 := hO.cell (i := 1) rfl
  have xof := hO.frozen
  have xol := hO.lt
  have HA := Lib.hid hA; have HZ := Lib.hid hZ; have HO := Lib.hid hO
  clear hA hZ hO
  go_upto_region 13 with fail
  have hO2 := HO.out
  have hZ2 := HZ.out
  go_name_world WWy hWWy
  have hO9 : BlockIs WWy (w.heap.size + 1 + 1) [.int .i64 1, .int .i64 lock, .int .i64 0, .int .i64 0, .int .i64 0, .int .i64 0, .int .i64 0, .int .i64 0, .bool false, .int .u64 0, .int .u64 0, .int .i64 0, .bool false, .int .i64 0, .int .i64 0, .int .i64 0, .int .i64 0, .int .i64 0, .slice none 0 0, .slice none 0 0, .bool mark] 60 := by subst hWWy; exact (hO2).set 1 _
  have hZ9 : BlockIs WWy (w.heap.size + 1) [.int .i64 0, .int .i64 0, .int .i64 0, .int .i64 0, .int .i64 0, .int .i64 0, .int .i64 0, .int .i64 0, .bool false, .int .u64 0, .int .u64 0, .int .i64 0, .bool false, .int .i64 0, .int .i64 0, .int .i64 0, .int .i64 0, .int .i64 0, .slice none 0 0, .slice none 0 0, .bool false] 60 := by
    subst hWWy
    iterate 1 refine BlockIs.other ?_ (by simp) _
    exact hZ2
  have bwy : Below w.heap.size w WWy := by subst hWWy; (repeat (first | with_reducible assumption | with_reducible exact Below.refl _ _ | with_reducible refine Below.setCell ?_ (by first | omega | (simp; done) | (simp; omega)) _ | with_reducible refine Below.alloc ?_ (by first | omega | (simp; done) | (simp; omega)) _ | with_reducible refine Below.drew ?_ | (with_reducible refine Below.trans ?_ (Below.mono (by with_reducible assumption) (by first | omega | (simp; done) | (simp; omega)))) | (refine Below.trans ?_ (Below.mono (by assumption) (by first | omega | (simp; done) | (simp; omega))))))
  clear hWWy hO2 hZ2
  go_wp2_with (first | (refine list_load_blk rfl _ _ rfl _ _ _ hO9 rfl Try.underlying60 (by kernel_rfl) ?_) | (refine list_store_blk rfl _ _ _ rfl _ _ _ _ hZ9 rfl rfl (by kernel_rfl) rfl (by simp [Value.oneCell']) w.heap.size w bwy (by omega) ?_; intro w9 hR9 hoth9 hsz9 bw9))
  exact bodyPost_ret (v := .agg #[.int .i64 1, .int .i64 lock, .int .i64 0, .int .i64 0, .int .i64 0, .int .i64 0, .int .i64 0, .int .i64 0, .bool false, .int .u64 0, .int .u64 0, .int .i64 0, .bool false, .int .i64 0, .int .i64 0, .int .i64 0, .int .i64 0, .int .i64 0, .slice none 0 0, .slice none 0 0, .bool mark]) (results_cell rfl rfl (hR9.loadVar Try.underlying60 (by kernel_rfl))) rfl ⟨rfl, bw9⟩
set_option maxRecDepth 100000 in
set_option maxHeartbeats 16000000 in
theorem refClean2_any (lock lk ls lt old new vn : Int) (pe : Pe) (ba ya : Option Addr) (bn bc yn yc : Nat) (mark : Bool) (w : World) : Calls Try.prog 43 #[.agg #[.int .i64 2, .int .i64 lock, .int .i64 lk, .int .i64 ls, .int .i64 lt, .int .i64 old, .int .i64 new, .int .i64 vn, .bool pe.en.ad.v6, .int .u64 pe.en.ad.hi, .int .u64 pe.en.ad.lo, .int .i64 pe.en.port, .bool pe.came, .int .i64 pe.since, .int .i64 pe.pts, .int .i64 pe.at_, .int .i64 pe.ping, .int .i64 pe.work, .slice ba bn bc, .slice ya yn yc, .bool mark]] w
    fun r w' => r = .returned (.agg #[.int .i64 2, .int .i64 lock, .int .i64 0, .int .i64 0, .int .i64 0, .int .i64 0, .int .i64 0, .int .i64 0, .bool false, .int .u64 0, .int .u64 0, .int .i64 0, .bool false, .int .i64 0, .int .i64 0, .int .i64 0, .int .i64 0, .int .i64 0, .slice none 0 0, .slice none 0 0, .bool mark]) ∧ Below w.heap.size w w' := by
  go_enter Try.func43, Try.ntmps43
  go_upto_region 4 with (refine list_store_blk rfl 60 _ _ rfl (w.heap.size + 1 + 1) _ _ 60 (BlockIs.newAt' _ _ _ (by simp)) rfl rfl (by kernel_rfl) rfl (by simp [Value.oneCell']) w.heap.size w (by (repeat (first | with_reducible assumption | with_reducible exact Below.refl _ _ | with_reducible refine Below.setCell ?_ (by first | omega | (simp; done) | (simp; omega)) _ | with_reducible refine Below.alloc ?_ (by first | omega | (simp; done) | (simp; omega)) _ | with_reducible refine Below.drew ?_ | (with_reducible refine Below.trans ?_ (Below.mono (by with_reducible assumption) (by first | omega | (simp; done) | (simp; omega)))) | (refine Below.trans ?_ (Below.mono (by assumption) (by first | omega | (simp; done) | (simp; omega))))))) (by omega) ?_; intro w1 hO hoth hsz bw1)
  have hA := hoth w.heap.size [.int .i64 2, .int .i64 lock, .int .i64 lk, .int .i64 ls, .int .i64 lt, .int .i64 old, .int .i64 new, .int .i64 vn, .bool pe.en.ad.v6, .int .u64 pe.en.ad.hi, .int .u64 pe.en.ad.lo, .int .i64 pe.en.port, .bool pe.came, .int .i64 pe.since, .int .i64 pe.pts, .int .i64 pe.at_, .int .i64 pe.ping, .int .i64 pe.work, .slice ba bn bc, .slice ya yn yc, .bool mark] 60 (by omega) ((BlockIs.new w [.int .i64 2, .int .i64 lock, .int .i64 lk, .int .i64 ls, .int .i64 lt, .int .i64 old, .int .i64 new, .int .i64 vn, .bool pe.en.ad.v6, .int .u64 pe.en.ad.hi, .int .u64 pe.en.ad.lo, .int .i64 pe.en.port, .bool pe.came, .int .i64 pe.since, .int .i64 pe.pts, .int .i64 pe.at_, .int .i64 pe.ping, .int .i64 pe.work, .slice ba bn bc, .slice ya yn yc, .bool mark] _).alloc' _ |>.alloc' _)
  have hZ := hoth (w.heap.size + 1) [.int .i64 0, .int .i64 0, .int .i64 0, .int .i64 0, .int .i64 0, .int .i64 0, .int .i64 0, .int .i64 0, .bool false, .int .u64 0, .int .u64 0, .int .i64 0, .bool false, .int .i64 0, .int .i64 0, .int .i64 0, .int .i64 0, .int .i64 0, .slice none 0 0, .slice none 0 0, .bool false] 60 (by omega) ((BlockIs.newAt' (w.alloc _) [.int .i64 0, .int .i64 0, .int .i64 0, .int .i64 0, .int .i64 0, .int .i64 0, .int .i64 0, .int .i64 0, .bool false, .int .u64 0, .int .u64 0, .int .i64 0, .bool false, .int .i64 0, .int .i64 0, .int .i64 0, .int .i64 0, .int .i64 0, .slice none 0 0, .slice none 0 0, .bool false] _ (by simp)).alloc' _)
  simp only [World.size_alloc] at hsz
  clear hoth
  have xa0 := hA.cell (i := 0) rfl
  have xa1 := hA.cell (i := 1) rfl
  have xaf := hA.frozen
  have xal := hA.lt
  have xo1 := hO.cell (i := 1) rfl
  have xof := hO.frozen
  have xol := hO.lt
  have HA := Lib.hid hA; have HZ := Lib.hid hZ; have HO := Lib.hid hO
  clear hA hZ hO
  go_upto_region 13 with fail
  have hO2 := HO.out
  have hZ2 := HZ.out
  go_name_world WWy hWWy
  have hO9 : BlockIs WWy (w.heap.size + 1 + 1) [.int .i64 2, .int .i64 lock, .int .i64 0, .int .i64 0, .int .i64 0, .int .i64 0, .int .i64 0, .int .i64 0, .bool false, .int .u64 0, .int .u64 0, .int .i64 0, .bool false, .int .i64 0, .int .i64 0, .int .i64 0, .int .i64 0, .int .i64 0, .slice none 0 0, .slice none 0 0, .bool mark] 60 := by subst hWWy; exact (hO2).set 1 _
  have hZ9 : BlockIs WWy (w.heap.size + 1) [.int .i64 0, .int .i64 0, .int .i64 0, .int .i64 0, .int .i64 0, .int .i64 0, .int .i64 0, .int .i64 0, .bool false, .int .u64 0, .int .u64 0, .int .i64 0, .bool false, .int .i64 0, .int .i64 0, .int .i64 0, .int .i64 0, .int .i64 0, .slice none 0 0, .slice none 0 0, .bool false] 60 := by
    subst hWWy
    iterate 1 refine BlockIs.other ?_ (by simp) _
    exact hZ2
  have bwy : Below w.heap.size w WWy := by subst hWWy; (repeat (first | with_reducible assumption | with_reducible exact Below.refl _ _ | with_reducible refine Below.setCell ?_ (by first | omega | (simp; done) | (simp; omega)) _ | with_reducible refine Below.alloc ?_ (by first | omega | (simp; done) | (simp; omega)) _ | with_reducible refine Below.drew ?_ | (with_reducible refine Below.trans ?_ (Below.mono (by with_reducible assumption) (by first | omega | (simp; done) | (simp; omega)))) | (refine Below.trans ?_ (Below.mono (by assumption) (by first | omega | (simp; done) | (simp; omega))))))
  clear hWWy hO2 hZ2
  go_wp2_with (first | (refine list_load_blk rfl _ _ rfl _ _ _ hO9 rfl Try.underlying60 (by kernel_rfl) ?_) | (refine list_store_blk rfl _ _ _ rfl _ _ _ _ hZ9 rfl rfl (by kernel_rfl) rfl (by simp [Value.oneCell']) w.heap.size w bwy (by omega) ?_; intro w9 hR9 hoth9 hsz9 bw9))
  exact bodyPost_ret (v := .agg #[.int .i64 2, .int .i64 lock, .int .i64 0, .int .i64 0, .int .i64 0, .int .i64 0, .int .i64 0, .int .i64 0, .bool false, .int .u64 0, .int .u64 0, .int .i64 0, .bool false, .int .i64 0, .int .i64 0, .int .i64 0, .int .i64 0, .int .i64 0, .slice none 0 0, .slice none 0 0, .bool mark]) (results_cell rfl rfl (hR9.loadVar Try.underlying60 (by kernel_rfl))) rfl ⟨rfl, bw9⟩
set_option maxRecDepth 100000 in
set_option maxHeartbeats 16000000 in
theorem refClean3_any (lock lk ls lt old new vn : Int) (pe : Pe) (ba ya : Option Addr) (bn bc yn yc : Nat) (mark : Bool) (w : World) : Calls Try.prog 43 #[.agg #[.int .i64 3, .int .i64 lock, .int .i64 lk, .int .i64 ls, .int .i64 lt, .int .i64 old, .int .i64 new, .int .i64 vn, .bool pe.en.ad.v6, .int .u64 pe.en.ad.hi, .int .u64 pe.en.ad.lo, .int .i64 pe.en.port, .bool pe.came, .int .i64 pe.since, .int .i64 pe.pts, .int .i64 pe.at_, .int .i64 pe.ping, .int .i64 pe.work, .slice ba bn bc, .slice ya yn yc, .bool mark]] w
    fun r w' => r = .returned (.agg #[.int .i64 3, .int .i64 lock, .int .i64 0, .int .i64 0, .int .i64 0, .int .i64 0, .int .i64 0, .int .i64 0, .bool false, .int .u64 0, .int .u64 0, .int .i64 0, .bool false, .int .i64 0, .int .i64 0, .int .i64 0, .int .i64 0, .int .i64 0, .slice none 0 0, .slice none 0 0, .bool mark]) ∧ Below w.heap.size w w' := by
  go_enter Try.func43, Try.ntmps43
  go_upto_region 4 with (refine list_store_blk rfl 60 _ _ rfl (w.heap.size + 1 + 1) _ _ 60 (BlockIs.newAt' _ _ _ (by simp)) rfl rfl (by kernel_rfl) rfl (by simp [Value.oneCell']) w.heap.size w (by (repeat (first | with_reducible assumption | with_reducible exact Below.refl _ _ | with_reducible refine Below.setCell ?_ (by first | omega | (simp; done) | (simp; omega)) _ | with_reducible refine Below.alloc ?_ (by first | omega | (simp; done) | (simp; omega)) _ | with_reducible refine Below.drew ?_ | (with_reducible refine Below.trans ?_ (Below.mono (by with_reducible assumption) (by first | omega | (simp; done) | (simp; omega)))) | (refine Below.trans ?_ (Below.mono (by assumption) (by first | omega | (simp; done) | (simp; omega))))))) (by omega) ?_; intro w1 hO hoth hsz bw1)
  have hA := hoth w.heap.size [.int .i64 3, .int .i64 lock, .int .i64 lk, .int .i64 ls, .int .i64 lt, .int .i64 old, .int .i64 new, .int .i64 vn, .bool pe.en.ad.v6, .int .u64 pe.en.ad.hi, .int .u64 pe.en.ad.lo, .int .i64 pe.en.port, .bool pe.came, .int .i64 pe.since, .int .i64 pe.pts, .int .i64 pe.at_, .int .i64 pe.ping, .int .i64 pe.work, .slice ba bn bc, .slice ya yn yc, .bool mark] 60 (by omega) ((BlockIs.new w [.int .i64 3, .int .i64 lock, .int .i64 lk, .int .i64 ls, .int .i64 lt, .int .i64 old, .int .i64 new, .int .i64 vn, .bool pe.en.ad.v6, .int .u64 pe.en.ad.hi, .int .u64 pe.en.ad.lo, .int .i64 pe.en.port, .bool pe.came, .int .i64 pe.since, .int .i64 pe.pts, .int .i64 pe.at_, .int .i64 pe.ping, .int .i64 pe.work, .slice ba bn bc, .slice ya yn yc, .bool mark] _).alloc' _ |>.alloc' _)
  have hZ := hoth (w.heap.size + 1) [.int .i64 0, .int .i64 0, .int .i64 0, .int .i64 0, .int .i64 0, .int .i64 0, .int .i64 0, .int .i64 0, .bool false, .int .u64 0, .int .u64 0, .int .i64 0, .bool false, .int .i64 0, .int .i64 0, .int .i64 0, .int .i64 0, .int .i64 0, .slice none 0 0, .slice none 0 0, .bool false] 60 (by omega) ((BlockIs.newAt' (w.alloc _) [.int .i64 0, .int .i64 0, .int .i64 0, .int .i64 0, .int .i64 0, .int .i64 0, .int .i64 0, .int .i64 0, .bool false, .int .u64 0, .int .u64 0, .int .i64 0, .bool false, .int .i64 0, .int .i64 0, .int .i64 0, .int .i64 0, .int .i64 0, .slice none 0 0, .slice none 0 0, .bool false] _ (by simp)).alloc' _)
  simp only [World.size_alloc] at hsz
  clear hoth
  have xa0 := hA.cell (i := 0) rfl
  have xa1 := hA.cell (i := 1) rfl
  have xaf := hA.frozen
  have xal := hA.lt
  have xo1 := hO.cell (i := 1) rfl
  have xof := hO.frozen
  have xol := hO.lt
  have HA := Lib.hid hA; have HZ := Lib.hid hZ; have HO := Lib.hid hO
  clear hA hZ hO
  go_upto_region 13 with fail
  have hO2 := HO.out
  have hZ2 := HZ.out
  go_name_world WWy hWWy
  have hO9 : BlockIs WWy (w.heap.size + 1 + 1) [.int .i64 3, .int .i64 lock, .int .i64 0, .int .i64 0, .int .i64 0, .int .i64 0, .int .i64 0, .int .i64 0, .bool false, .int .u64 0, .int .u64 0, .int .i64 0, .bool false, .int .i64 0, .int .i64 0, .int .i64 0, .int .i64 0, .int .i64 0, .slice none 0 0, .slice none 0 0, .bool mark] 60 := by subst hWWy; exact (hO2).set 1 _
  have hZ9 : BlockIs WWy (w.heap.size + 1) [.int .i64 0, .int .i64 0, .int .i64 0, .int .i64 0, .int .i64 0, .int .i64 0, .int .i64 0, .int .i64 0, .bool false, .int .u64 0, .int .u64 0, .int .i64 0, .bool false, .int .i64 0, .int .i64 0, .int .i64 0, .int .i64 0, .int .i64 0, .slice none 0 0, .slice none 0 0, .bool false] 60 := by
    subst hWWy
    iterate 1 refine BlockIs.other ?_ (by simp) _
    exact hZ2
  have bwy : Below w.heap.size w WWy := by subst hWWy; (repeat (first | with_reducible assumption | with_reducible exact Below.refl _ _ | with_reducible refine Below.setCell ?_ (by first | omega | (simp; done) | (simp; omega)) _ | with_reducible refine Below.alloc ?_ (by first | omega | (simp; done) | (simp; omega)) _ | with_reducible refine Below.drew ?_ | (with_reducible refine Below.trans ?_ (Below.mono (by with_reducible assumption) (by first | omega | (simp; done) | (simp; omega)))) | (refine Below.trans ?_ (Below.mono (by assumption) (by first | omega | (simp; done) | (simp; omega))))))
  clear hWWy hO2 hZ2
  go_wp2_with (first | (refine list_load_blk rfl _ _ rfl _ _ _ hO9 rfl Try.underlying60 (by kernel_rfl) ?_) | (refine list_store_blk rfl _ _ _ rfl _ _ _ _ hZ9 rfl rfl (by kernel_rfl) rfl (by simp [Value.oneCell']) w.heap.size w bwy (by omega) ?_; intro w9 hR9 hoth9 hsz9 bw9))
  exact bodyPost_ret (v := .agg #[.int .i64 3, .int .i64 lock, .int .i64 0, .int .i64 0, .int .i64 0, .int .i64 0, .int .i64 0, .int .i64 0, .bool false, .int .u64 0, .int .u64 0, .int .i64 0, .bool false, .int .i64 0, .int .i64 0, .int .i64 0, .int .i64 0, .int .i64 0, .slice none 0 0, .slice none 0 0, .bool mark]) (results_cell rfl rfl (hR9.loadVar Try.underlying60 (by kernel_rfl))) rfl ⟨rfl, bw9⟩
set_option maxRecDepth 100000 in
set_option maxHeartbeats 16000000 in
theorem refClean4_any (lock lk ls lt old new vn : Int) (pe : Pe) (ba ya : Option Addr) (bn bc yn yc : Nat) (mark : Bool) (w : World) : Calls Try.prog 43 #[.agg #[.int .i64 4, .int .i64 lock, .int .i64 lk, .int .i64 ls, .int .i64 lt, .int .i64 old, .int .i64 new, .int .i64 vn, .bool pe.en.ad.v6, .int .u64 pe.en.ad.hi, .int .u64 pe.en.ad.lo, .int .i64 pe.en.port, .bool pe.came, .int .i64 pe.since, .int .i64 pe.pts, .int .i64 pe.at_, .int .i64 pe.ping, .int .i64 pe.work, .slice ba bn bc, .slice ya yn yc, .bool mark]] w
    fun r w' => r = .returned (.agg #[.int .i64 4, .int .i64 lock, .int .i64 0, .int .i64 0, .int .i64 0, .int .i64 0, .int .i64 0, .int .i64 0, .bool false, .int .u64 0, .int .u64 0, .int .i64 0, .bool false, .int .i64 0, .int .i64 0, .int .i64 0, .int .i64 0, .int .i64 0, .slice none 0 0, .slice none 0 0, .bool mark]) ∧ Below w.heap.size w w' := by
  go_enter Try.func43, Try.ntmps43
  go_upto_region 4 with (refine list_store_blk rfl 60 _ _ rfl (w.heap.size + 1 + 1) _ _ 60 (BlockIs.newAt' _ _ _ (by simp)) rfl rfl (by kernel_rfl) rfl (by simp [Value.oneCell']) w.heap.size w (by (repeat (first | with_reducible assumption | with_reducible exact Below.refl _ _ | with_reducible refine Below.setCell ?_ (by first | omega | (simp; done) | (simp; omega)) _ | with_reducible refine Below.alloc ?_ (by first | omega | (simp; done) | (simp; omega)) _ | with_reducible refine Below.drew ?_ | (with_reducible refine Below.trans ?_ (Below.mono (by with_reducible assumption) (by first | omega | (simp; done) | (simp; omega)))) | (refine Below.trans ?_ (Below.mono (by assumption) (by first | omega | (simp; done) | (simp; omega))))))) (by omega) ?_; intro w1 hO hoth hsz bw1)
  have hA := hoth w.heap.size [.int .i64 4, .int .i64 lock, .int .i64 lk, .int .i64 ls, .int .i64 lt, .int .i64 old, .int .i64 new, .int .i64 vn, .bool pe.en.ad.v6, .int .u64 pe.en.ad.hi, .int .u64 pe.en.ad.lo, .int .i64 pe.en.port, .bool pe.came, .int .i64 pe.since, .int .i64 pe.pts, .int .i64 pe.at_, .int .i64 pe.ping, .int .i64 pe.work, .slice ba bn bc, .slice ya yn yc, .bool mark] 60 (by omega) ((BlockIs.new w [.int .i64 4, .int .i64 lock, .int .i64 lk, .int .i64 ls, .int .i64 lt, .int .i64 old, .int .i64 new, .int .i64 vn, .bool pe.en.ad.v6, .int .u64 pe.en.ad.hi, .int .u64 pe.en.ad.lo, .int .i64 pe.en.port, .bool pe.came, .int .i64 pe.since, .int .i64 pe.pts, .int .i64 pe.at_, .int .i64 pe.ping, .int .i64 pe.work, .slice ba bn bc, .slice ya yn yc, .bool mark] _).alloc' _ |>.alloc' _)
  have hZ := hoth (w.heap.size + 1) [.int .i64 0, .int .i64 0, .int .i64 0, .int .i64 0, .int .i64 0, .int .i64 0, .int .i64 0, .int .i64 0, .bool false, .int .u64 0, .int .u64 0, .int .i64 0, .bool false, .int .i64 0, .int .i64 0, .int .i64 0, .int .i64 0, .int .i64 0, .slice none 0 0, .slice none 0 0, .bool false] 60 (by omega) ((BlockIs.newAt' (w.alloc _) [.int .i64 0, .int .i64 0, .int .i64 0, .int .i64 0, .int .i64 0, .int .i64 0, .int .i64 0, .int .i64 0, .bool false, .int .u64 0, .int .u64 0, .int .i64 0, .bool false, .int .i64 0, .int .i64 0, .int .i64 0, .int .i64 0, .int .i64 0, .slice none 0 0, .slice none 0 0, .bool false] _ (by simp)).alloc' _)
  simp only [World.size_alloc] at hsz
  clear hoth
  have xa0 := hA.cell (i := 0) rfl
  have xa1 := hA.cell (i := 1) rfl
  have xaf := hA.frozen
  have xal := hA.lt
  have xo1 := hO.cell (i := 1) rfl
  have xof := hO.frozen
  have xol := hO.lt
  have HA := Lib.hid hA; have HZ := Lib.hid hZ; have HO := Lib.hid hO
  clear hA hZ hO
  go_upto_region 13 with fail
  have hO2 := HO.out
  have hZ2 := HZ.out
  go_name_world WWy hWWy
  have hO9 : BlockIs WWy (w.heap.size + 1 + 1) [.int .i64 4, .int .i64 lock, .int .i64 0, .int .i64 0, .int .i64 0, .int .i64 0, .int .i64 0, .int .i64 0, .bool false, .int .u64 0, .int .u64 0, .int .i64 0, .bool false, .int .i64 0, .int .i64 0, .int .i64 0, .int .i64 0, .int .i64 0, .slice none 0 0, .slice none 0 0, .bool mark] 60 := by subst hWWy; exact (hO2).set 1 _
  have hZ9 : BlockIs WWy (w.heap.size + 1) [.int .i64 0, .int .i64 0, .int .i64 0, .int .i64 0, .int .i64 0, .int .i64 0, .int .i64 0, .int .i64 0, .bool false, .int .u64 0, .int .u64 0, .int .i64 0, .bool false, .int .i64 0, .int .i64 0, .int .i64 0, .int .i64 0, .int .i64 0, .slice none 0 0, .slice none 0 0, .bool false] 60 := by
    subst hWWy
    iterate 1 refine BlockIs.other ?_ (by simp) _
    exact hZ2
  have bwy : Below w.heap.size w WWy := by subst hWWy; (repeat (first | with_reducible assumption | with_reducible exact Below.refl _ _ | with_reducible refine Below.setCell ?_ (by first | omega | (simp; done) | (simp; omega)) _ | with_reducible refine Below.alloc ?_ (by first | omega | (simp; done) | (simp; omega)) _ | with_reducible refine Below.drew ?_ | (with_reducible refine Below.trans ?_ (Below.mono (by with_reducible assumption) (by first | omega | (simp; done) | (simp; omega)))) | (refine Below.trans ?_ (Below.mono (by assumption) (by first | omega | (simp; done) | (simp; omega))))))
  clear hWWy hO2 hZ2
  go_wp2_with (first | (refine list_load_blk rfl _ _ rfl _ _ _ hO9 rfl Try.underlying60 (by kernel_rfl) ?_) | (refine list_store_blk rfl _ _ _ rfl _ _ _ _ hZ9 rfl rfl (by kernel_rfl) rfl (by simp [Value.oneCell']) w.heap.size w bwy (by omega) ?_; intro w9 hR9 hoth9 hsz9 bw9))
  exact bodyPost_ret (v := .agg #[.int .i64 4, .int .i64 lock, .int .i64 0, .int .i64 0, .int .i64 0, .int .i64 0, .int .i64 0, .int .i64 0, .bool false, .int .u64 0, .int .u64 0, .int .i64 0, .bool false, .int .i64 0, .int .i64 0, .int .i64 0, .int .i64 0, .int .i64 0, .slice none 0 0, .slice none 0 0, .bool mark]) (results_cell rfl rfl (hR9.loadVar Try.underlying60 (by kernel_rfl))) rfl ⟨rfl, bw9⟩
set_option maxRecDepth 100000 in
set_option maxHeartbeats 16000000 in
theorem refClean5_any (lock lk ls lt old new vn : Int) (pe : Pe) (ba ya : Option Addr) (bn bc yn yc : Nat) (mark : Bool) (w : World) : Calls Try.prog 43 #[.agg #[.int .i64 5, .int .i64 lock, .int .i64 lk, .int .i64 ls, .int .i64 lt, .int .i64 old, .int .i64 new, .int .i64 vn, .bool pe.en.ad.v6, .int .u64 pe.en.ad.hi, .int .u64 pe.en.ad.lo, .int .i64 pe.en.port, .bool pe.came, .int .i64 pe.since, .int .i64 pe.pts, .int .i64 pe.at_, .int .i64 pe.ping, .int .i64 pe.work, .slice ba bn bc, .slice ya yn yc, .bool mark]] w
    fun r w' => r = .returned (.agg #[.int .i64 5, .int .i64 0, .int .i64 (cK lk), .int .i64 (cS lk ls), .int .i64 (cT lk lt), .int .i64 0, .int .i64 0, .int .i64 0, .bool false, .int .u64 0, .int .u64 0, .int .i64 0, .bool false, .int .i64 0, .int .i64 0, .int .i64 0, .int .i64 0, .int .i64 0, .slice none 0 0, .slice none 0 0, .bool mark]) ∧ Below w.heap.size w w' := by
  have h1 := fun w => refLoc36_any lk ls lt w
  generalize cK lk = k1 at *
  generalize cS lk ls = k2 at *
  generalize cT lk lt = k3 at *
  have H1 := Lib.hid h1; clear h1
  go_enter Try.func43, Try.ntmps43
  go_upto_region 4 with (refine list_store_blk rfl 60 _ _ rfl (w.heap.size + 1 + 1) _ _ 60 (BlockIs.newAt' _ _ _ (by simp)) rfl rfl (by kernel_rfl) rfl (by simp [Value.oneCell']) w.heap.size w (by (repeat (first | with_reducible assumption | with_reducible exact Below.refl _ _ | with_reducible refine Below.setCell ?_ (by first | omega | (simp; done) | (simp; omega)) _ | with_reducible refine Below.alloc ?_ (by first | omega | (simp; done) | (simp; omega)) _ | with_reducible refine Below.drew ?_ | (with_reducible refine Below.trans ?_ (Below.mono (by with_reducible assumption) (by first | omega | (simp; done) | (simp; omega)))) | (refine Below.trans ?_ (Below.mono (by assumption) (by first | omega | (simp; done) | (simp; omega))))))) (by omega) ?_; intro w1 hO hoth hsz bw1)
  have hA := hoth w.heap.size [.int .i64 5, .int .i64 lock, .int .i64 lk, .int .i64 ls, .int .i64 lt, .int .i64 old, .int .i64 new, .int .i64 vn, .bool pe.en.ad.v6, .int .u64 pe.en.ad.hi, .int .u64 pe.en.ad.lo, .int .i64 pe.en.port, .bool pe.came, .int .i64 pe.since, .int .i64 pe.pts, .int .i64 pe.at_, .int .i64 pe.ping, .int .i64 pe.work, .slice ba bn bc, .slice ya yn yc, .bool mark] 60 (by omega) ((BlockIs.new w [.int .i64 5, .int .i64 lock, .int .i64 lk, .int .i64 ls, .int .i64 lt, .int .i64 old, .int .i64 new, .int .i64 vn, .bool pe.en.ad.v6, .int .u64 pe.en.ad.hi, .int .u64 pe.en.ad.lo, .int .i64 pe.en.port, .bool pe.came, .int .i64 pe.since, .int .i64 pe.pts, .int .i64 pe.at_, .int .i64 pe.ping, .int .i64 pe.work, .slice ba bn bc, .slice ya yn yc, .bool mark] _).alloc' _ |>.alloc' _)
  have hZ := hoth (w.heap.size + 1) [.int .i64 0, .int .i64 0, .int .i64 0, .int .i64 0, .int .i64 0, .int .i64 0, .int .i64 0, .int .i64 0, .bool false, .int .u64 0, .int .u64 0, .int .i64 0, .bool false, .int .i64 0, .int .i64 0, .int .i64 0, .int .i64 0, .int .i64 0, .slice none 0 0, .slice none 0 0, .bool false] 60 (by omega) ((BlockIs.newAt' (w.alloc _) [.int .i64 0, .int .i64 0, .int .i64 0, .int .i64 0, .int .i64 0, .int .i64 0, .int .i64 0, .int .i64 0, .bool false, .int .u64 0, .int .u64 0, .int .i64 0, .bool false, .int .i64 0, .int .i64 0, .int .i64 0, .int .i64 0, .int .i64 0, .slice none 0 0, .slice none 0 0, .bool false] _ (by simp)).alloc' _)
  simp only [World.size_alloc] at hsz
  clear hoth
  have xa0 := hA.cell (i := 0) rfl
  have xa2 := hA.cell (i := 2) rfl
  have xa3 := hA.cell (i := 3) rfl
  have xa4 := hA.cell (i := 4) rfl
  have xaf := hA.frozen
  have xal := hA.lt
  have xo2 := hO.cell (i := 2) rfl
  have xo3 := hO.cell (i := 3) rfl
  have xo4 := hO.cell (i := 4) rfl
  have xof := hO.frozen
  have xol := hO.lt
  have HA := Lib.hid hA; have HZ := Lib.hid hZ; have HO := Lib.hid hO
  clear hA hZ hO
  go_upto_region 13 with (go_at_call 93; (with_reducible refine (H1.out _).mono ?_); rintro e w2 ⟨rfl, b2⟩; obtain ⟨c2, f2⟩ := bcell b2; have z2 := b2.size; (try simp at z2); have d2a := fun o => c2 (w.heap.size) o (by first | omega | (simp; done) | (simp; omega)); have d2b := fun o => c2 (w.heap.size + 1 + 1) o (by first | omega | (simp; done) | (simp; omega)); have q2b := fun o => f2 (w.heap.size + 1 + 1) o (by first | omega | (simp; done) | (simp; omega)); clear c2 f2)
  have hO2 := (HO.out).below b2
  have hZ2 := (HZ.out).below b2
  go_name_world WWy hWWy
  have hO9 : BlockIs WWy (w.heap.size + 1 + 1) [.int .i64 5, .int .i64 0, .int .i64 k1, .int .i64 k2, .int .i64 k3, .int .i64 0, .int .i64 0, .int .i64 0, .bool false, .int .u64 0, .int .u64 0, .int .i64 0, .bool false, .int .i64 0, .int .i64 0, .int .i64 0, .int .i64 0, .int .i64 0, .slice none 0 0, .slice none 0 0, .bool mark] 60 := by subst hWWy; exact (((hO2).set 2 _).set 3 _).set 4 _
  have hZ9 : BlockIs WWy (w.heap.size + 1) [.int .i64 0, .int .i64 0, .int .i64 0, .int .i64 0, .int .i64 0, .int .i64 0, .int .i64 0, .int .i64 0, .bool false, .int .u64 0, .int .u64 0, .int .i64 0, .bool false, .int .i64 0, .int .i64 0, .int .i64 0, .int .i64 0, .int .i64 0, .slice none 0 0, .slice none 0 0, .bool false] 60 := by
    subst hWWy
    iterate 3 refine BlockIs.other ?_ (by simp) _
    exact hZ2
  have bwy : Below w.heap.size w WWy := by subst hWWy; (repeat (first | with_reducible assumption | with_reducible exact Below.refl _ _ | with_reducible refine Below.setCell ?_ (by first | omega | (simp; done) | (simp; omega)) _ | with_reducible refine Below.alloc ?_ (by first | omega | (simp; done) | (simp; omega)) _ | with_reducible refine Below.drew ?_ | (with_reducible refine Below.trans ?_ (Below.mono (by with_reducible assumption) (by first | omega | (simp; done) | (simp; omega)))) | (refine Below.trans ?_ (Below.mono (by assumption) (by first | omega | (simp; done) | (simp; omega))))))
  clear hWWy hO2 hZ2
  go_wp2_with (first | (refine list_load_blk rfl _ _ rfl _ _ _ hO9 rfl Try.underlying60 (by kernel_rfl) ?_) | (refine list_store_blk rfl _ _ _ rfl _ _ _ _ hZ9 rfl rfl (by kernel_rfl) rfl (by simp [Value.oneCell']) w.heap.size w bwy (by omega) ?_; intro w9 hR9 hoth9 hsz9 bw9))
  exact bodyPost_ret (v := .agg #[.int .i64 5, .int .i64 0, .int .i64 k1, .int .i64 k2, .int .i64 k3, .int .i64 0, .int .i64 0, .int .i64 0, .bool false, .int .u64 0, .int .u64 0, .int .i64 0, .bool false, .int .i64 0, .int .i64 0, .int .i64 0, .int .i64 0, .int .i64 0, .slice none 0 0, .slice none 0 0, .bool mark]) (results_cell rfl rfl (hR9.loadVar Try.underlying60 (by kernel_rfl))) rfl ⟨rfl, bw9⟩
set_option maxRecDepth 100000 in
set_option maxHeartbeats 16000000 in
theorem refClean7_any (lock lk ls lt old new vn : Int) (pe : Pe) (ba ya : Option Addr) (bn bc yn yc : Nat) (mark : Bool) (w : World) : Calls Try.prog 43 #[.agg #[.int .i64 7, .int .i64 lock, .int .i64 lk, .int .i64 ls, .int .i64 lt, .int .i64 old, .int .i64 new, .int .i64 vn, .bool pe.en.ad.v6, .int .u64 pe.en.ad.hi, .int .u64 pe.en.ad.lo, .int .i64 pe.en.port, .bool pe.came, .int .i64 pe.since, .int .i64 pe.pts, .int .i64 pe.at_, .int .i64 pe.ping, .int .i64 pe.work, .slice ba bn bc, .slice ya yn yc, .bool mark]] w
    fun r w' => r = .returned (.agg #[.int .i64 7, .int .i64 0, .int .i64 (cK lk), .int .i64 (cS lk ls), .int .i64 (cT lk lt), .int .i64 old, .int .i64 new, .int .i64 0, .bool false, .int .u64 0, .int .u64 0, .int .i64 0, .bool false, .int .i64 0, .int .i64 0, .int .i64 0, .int .i64 0, .int .i64 0, .slice none 0 0, .slice none 0 0, .bool mark]) ∧ Below w.heap.size w w' := by
  have h1 := fun w => refLoc36_any lk ls lt w
  generalize cK lk = k1 at *
  generalize cS lk ls = k2 at *
  generalize cT lk lt = k3 at *
  have H1 := Lib.hid h1; clear h1
  go_enter Try.func43, Try.ntmps43
  go_upto_region 4 with (refine list_store_blk rfl 60 _ _ rfl (w.heap.size + 1 + 1) _ _ 60 (BlockIs.newAt' _ _ _ (by simp)) rfl rfl (by kernel_rfl) rfl (by simp [Value.oneCell']) w.heap.size w (by (repeat (first | with_reducible assumption | with_reducible exact Below.refl _ _ | with_reducible refine Below.setCell ?_ (by first | omega | (simp; done) | (simp; omega)) _ | with_reducible refine Below.alloc ?_ (by first | omega | (simp; done) | (simp; omega)) _ | with_reducible refine Below.drew ?_ | (with_reducible refine Below.trans ?_ (Below.mono (by with_reducible assumption) (by first | omega | (simp; done) | (simp; omega)))) | (refine Below.trans ?_ (Below.mono (by assumption) (by first | omega | (simp; done) | (simp; omega))))))) (by omega) ?_; intro w1 hO hoth hsz bw1)
  have hA := hoth w.heap.size [.int .i64 7, .int .i64 lock, .int .i64 lk, .int .i64 ls, .int .i64 lt, .int .i64 old, .int .i64 new, .int .i64 vn, .bool pe.en.ad.v6, .int .u64 pe.en.ad.hi, .int .u64 pe.en.ad.lo, .int .i64 pe.en.port, .bool pe.came, .int .i64 pe.since, .int .i64 pe.pts, .int .i64 pe.at_, .int .i64 pe.ping, .int .i64 pe.work, .slice ba bn bc, .slice ya yn yc, .bool mark] 60 (by omega) ((BlockIs.new w [.int .i64 7, .int .i64 lock, .int .i64 lk, .int .i64 ls, .int .i64 lt, .int .i64 old, .int .i64 new, .int .i64 vn, .bool pe.en.ad.v6, .int .u64 pe.en.ad.hi, .int .u64 pe.en.ad.lo, .int .i64 pe.en.port, .bool pe.came, .int .i64 pe.since, .int .i64 pe.pts, .int .i64 pe.at_, .int .i64 pe.ping, .int .i64 pe.work, .slice ba bn bc, .slice ya yn yc, .bool mark] _).alloc' _ |>.alloc' _)
  have hZ := hoth (w.heap.size + 1) [.int .i64 0, .int .i64 0, .int .i64 0, .int .i64 0, .int .i64 0, .int .i64 0, .int .i64 0, .int .i64 0, .bool false, .int .u64 0, .int .u64 0, .int .i64 0, .bool false, .int .i64 0, .int .i64 0, .int .i64 0, .int .i64 0, .int .i64 0, .slice none 0 0, .slice none 0 0, .bool false] 60 (by omega) ((BlockIs.newAt' (w.alloc _) [.int .i64 0, .int .i64 0, .int .i64 0, .int .i64 0, .int .i64 0, .int .i64 0, .int .i64 0, .int .i64 0, .bool false, .int .u64 0, .int .u64 0, .int .i64 0, .bool false, .int .i64 0, .int .i64 0, .int .i64 0, .int .i64 0, .int .i64 0, .slice none 0 0, .slice none 0 0, .bool false] _ (by simp)).alloc' _)
  simp only [World.size_alloc] at hsz
  clear hoth
  have xa0 := hA.cell (i := 0) rfl
  have xa2 := hA.cell (i := 2) rfl
  have xa3 := hA.cell (i := 3) rfl
  have xa4 := hA.cell (i := 4) rfl
  have xa5 := hA.cell (i := 5) rfl
  have xa6 := hA.cell (i := 6) rfl
  have xaf := hA.frozen
  have xal := hA.lt
  have xo2 := hO.cell (i := 2) rfl
  have xo3 := hO.cell (i := 3) rfl
  have xo4 := hO.cell (i := 4) rfl
  have xo5 := hO.cell (i := 5) rfl
  have xo6 := hO.cell (i := 6) rfl
  have xof := hO.frozen
  have xol := hO.lt
  have HA := Lib.hid hA; have HZ := Lib.hid hZ; have HO := Lib.hid hO
  clear hA hZ hO
  go_upto_region 13 with (go_at_call 93; (with_reducible refine (H1.out _).mono ?_); rintro e w2 ⟨rfl, b2⟩; obtain ⟨c2, f2⟩ := bcell b2; have z2 := b2.size; (try simp at z2); have d2a := fun o => c2 (w.heap.size) o (by first | omega | (simp; done) | (simp; omega)); have d2b := fun o => c2 (w.heap.size + 1 + 1) o (by first | omega | (simp; done) | (simp; omega)); have q2b := fun o => f2 (w.heap.size + 1 + 1) o (by first | omega | (simp; done) | (simp; omega)); clear c2 f2)
  have hO2 := (HO.out).below b2
  have hZ2 := (HZ.out).below b2
  go_name_world WWy hWWy
  have hO9 : BlockIs WWy (w.heap.size + 1 + 1) [.int .i64 7, .int .i64 0, .int .i64 k1, .int .i64 k2, .int .i64 k3, .int .i64 old, .int .i64 new, .int .i64 0, .bool false, .int .u64 0, .int .u64 0, .int .i64 0, .bool false, .int .i64 0, .int .i64 0, .int .i64 0, .int .i64 0, .int .i64 0, .slice none 0 0, .slice none 0 0, .bool mark] 60 := by subst hWWy; exact (((((hO2).set 2 _).set 3 _).set 4 _).set 5 _).set 6 _
  have hZ9 : BlockIs WWy (w.heap.size + 1) [.int .i64 0, .int .i64 0, .int .i64 0, .int .i64 0, .int .i64 0, .int .i64 0, .int .i64 0, .int .i64 0, .bool false, .int .u64 0, .int .u64 0, .int .i64 0, .bool false, .int .i64 0, .int .i64 0, .int .i64 0, .int .i64 0, .int .i64 0, .slice none 0 0, .slice none 0 0, .bool false] 60 := by
    subst hWWy
    iterate 5 refine BlockIs.other ?_ (by simp) _
    exact hZ2
  have bwy : Below w.heap.size w WWy := by subst hWWy; (repeat (first | with_reducible assumption | with_reducible exact Below.refl _ _ | with_reducible refine Below.setCell ?_ (by first | omega | (simp; done) | (simp; omega)) _ | with_reducible refine Below.alloc ?_ (by first | omega | (simp; done) | (simp; omega)) _ | with_reducible refine Below.drew ?_ | (with_reducible refine Below.trans ?_ (Below.mono (by with_reducible assumption) (by first | omega | (simp; done) | (simp; omega)))) | (refine Below.trans ?_ (Below.mono (by assumption) (by first | omega | (simp; done) | (simp; omega))))))
  clear hWWy hO2 hZ2
  go_wp2_with (first | (refine list_load_blk rfl _ _ rfl _ _ _ hO9 rfl Try.underlying60 (by kernel_rfl) ?_) | (refine list_store_blk rfl _ _ _ rfl _ _ _ _ hZ9 rfl rfl (by kernel_rfl) rfl (by simp [Value.oneCell']) w.heap.size w bwy (by omega) ?_; intro w9 hR9 hoth9 hsz9 bw9))
  exact bodyPost_ret (v := .agg #[.int .i64 7, .int .i64 0, .int .i64 k1, .int .i64 k2, .int .i64 k3, .int .i64 old, .int .i64 new, .int .i64 0, .bool false, .int .u64 0, .int .u64 0, .int .i64 0, .bool false, .int .i64 0, .int .i64 0, .int .i64 0, .int .i64 0, .int .i64 0, .slice none 0 0, .slice none 0 0, .bool mark]) (results_cell rfl rfl (hR9.loadVar Try.underlying60 (by kernel_rfl))) rfl ⟨rfl, bw9⟩
set_option maxRecDepth 100000 in
set_option maxHeartbeats 16000000 in
theorem refClean8_any (lock lk ls lt old new vn : Int) (pe : Pe) (ba ya : Option Addr) (bn bc yn yc : Nat) (mark : Bool) (w : World) : Calls Try.prog 43 #[.agg #[.int .i64 8, .int .i64 lock, .int .i64 lk, .int .i64 ls, .int .i64 lt, .int .i64 old, .int .i64 new, .int .i64 vn, .bool pe.en.ad.v6, .int .u64 pe.en.ad.hi, .int .u64 pe.en.ad.lo, .int .i64 pe.en.port, .bool pe.came, .int .i64 pe.since, .int .i64 pe.pts, .int .i64 pe.at_, .int .i64 pe.ping, .int .i64 pe.work, .slice ba bn bc, .slice ya yn yc, .bool mark]] w
    fun r w' => r = .returned (.agg #[.int .i64 8, .int .i64 0, .int .i64 0, .int .i64 0, .int .i64 0, .int .i64 0, .int .i64 0, .int .i64 0, .bool false, .int .u64 0, .int .u64 0, .int .i64 0, .bool false, .int .i64 0, .int .i64 0, .int .i64 0, .int .i64 0, .int .i64 0, .slice none 0 0, .slice none 0 0, .bool mark]) ∧ Below w.heap.size w w' := by
  go_enter Try.func43, Try.ntmps43
  go_upto_region 4 with (refine list_store_blk rfl 60 _ _ rfl (w.heap.size + 1 + 1) _ _ 60 (BlockIs.newAt' _ _ _ (by simp)) rfl rfl (by kernel_rfl) rfl (by simp [Value.oneCell']) w.heap.size w (by (repeat (first | with_reducible assumption | with_reducible exact Below.refl _ _ | with_reducible refine Below.setCell ?_ (by first | omega | (simp; done) | (simp; omega)) _ | with_reducible refine Below.alloc ?_ (by first | omega | (simp; done) | (simp; omega)) _ | with_reducible refine Below.drew ?_ | (with_reducible refine Below.trans ?_ (Below.mono (by with_reducible assumption) (by first | omega | (simp; done) | (simp; omega)))) | (refine Below.trans ?_ (Below.mono (by assumption) (by first | omega | (simp; done) | (simp; omega))))))) (by omega) ?_; intro w1 hO hoth hsz bw1)
  have hA := hoth w.heap.size [.int .i64 8, .int .i64 lock, .int .i64 lk, .int .i64 ls, .int .i64 lt, .int .i64 old, .int .i64 new, .int .i64 vn, .bool pe.en.ad.v6, .int .u64 pe.en.ad.hi, .int .u64 pe.en.ad.lo, .int .i64 pe.en.port, .bool pe.came, .int .i64 pe.since, .int .i64 pe.pts, .int .i64 pe.at_, .int .i64 pe.ping, .int .i64 pe.work, .slice ba bn bc, .slice ya yn yc, .bool mark] 60 (by omega) ((BlockIs.new w [.int .i64 8, .int .i64 lock, .int .i64 lk, .int .i64 ls, .int .i64 lt, .int .i64 old, .int .i64 new, .int .i64 vn, .bool pe.en.ad.v6, .int .u64 pe.en.ad.hi, .int .u64 pe.en.ad.lo, .int .i64 pe.en.port, .bool pe.came, .int .i64 pe.since, .int .i64 pe.pts, .int .i64 pe.at_, .int .i64 pe.ping, .int .i64 pe.work, .slice ba bn bc, .slice ya yn yc, .bool mark] _).alloc' _ |>.alloc' _)
  have hZ := hoth (w.heap.size + 1) [.int .i64 0, .int .i64 0, .int .i64 0, .int .i64 0, .int .i64 0, .int .i64 0, .int .i64 0, .int .i64 0, .bool false, .int .u64 0, .int .u64 0, .int .i64 0, .bool false, .int .i64 0, .int .i64 0, .int .i64 0, .int .i64 0, .int .i64 0, .slice none 0 0, .slice none 0 0, .bool false] 60 (by omega) ((BlockIs.newAt' (w.alloc _) [.int .i64 0, .int .i64 0, .int .i64 0, .int .i64 0, .int .i64 0, .int .i64 0, .int .i64 0, .int .i64 0, .bool false, .int .u64 0, .int .u64 0, .int .i64 0, .bool false, .int .i64 0, .int .i64 0, .int .i64 0, .int .i64 0, .int .i64 0, .slice none 0 0, .slice none 0 0, .bool false] _ (by simp)).alloc' _)
  simp only [World.size_alloc] at hsz
  clear hoth
  have xa0 := hA.cell (i := 0) rfl
  have xaf := hA.frozen
  have xal := hA.lt
  have xo0 := hO.cell (i := 0) rfl
  have xof := hO.frozen
  have xol := hO.lt
  have HA := Lib.hid hA; have HZ := Lib.hid hZ; have HO := Lib.hid hO
  clear hA hZ hO
  go_upto_region 13 with fail
  have hO2 := HO.out
  have hZ2 := HZ.out
  go_name_world WWy hWWy
  have hO9 : BlockIs WWy (w.heap.size + 1 + 1) [.int .i64 8, .int .i64 0, .int .i64 0, .int .i64 0, .int .i64 0, .int .i64 0, .int .i64 0, .int .i64 0, .bool false, .int .u64 0, .int .u64 0, .int .i64 0, .bool false, .int .i64 0, .int .i64 0, .int .i64 0, .int .i64 0, .int .i64 0, .slice none 0 0, .slice none 0 0, .bool mark] 60 := by subst hWWy; exact hO2
  have hZ9 : BlockIs WWy (w.heap.size + 1) [.int .i64 0, .int .i64 0, .int .i64 0, .int .i64 0, .int .i64 0, .int .i64 0, .int .i64 0, .int .i64 0, .bool false, .int .u64 0, .int .u64 0, .int .i64 0, .bool false, .int .i64 0, .int .i64 0, .int .i64 0, .int .i64 0, .int .i64 0, .slice none 0 0, .slice none 0 0, .bool false] 60 := by
    subst hWWy
    exact hZ2
  have bwy : Below w.heap.size w WWy := by subst hWWy; (repeat (first | with_reducible assumption | with_reducible exact Below.refl _ _ | with_reducible refine Below.setCell ?_ (by first | omega | (simp; done) | (simp; omega)) _ | with_reducible refine Below.alloc ?_ (by first | omega | (simp; done) | (simp; omega)) _ | with_reducible refine Below.drew ?_ | (with_reducible refine Below.trans ?_ (Below.mono (by with_reducible assumption) (by first | omega | (simp; done) | (simp; omega)))) | (refine Below.trans ?_ (Below.mono (by assumption) (by first | omega | (simp; done) | (simp; omega))))))
  clear hWWy hO2 hZ2
  go_wp2_with (first | (refine list_load_blk rfl _ _ rfl _ _ _ hO9 rfl Try.underlying60 (by kernel_rfl) ?_) | (refine list_store_blk rfl _ _ _ rfl _ _ _ _ hZ9 rfl rfl (by kernel_rfl) rfl (by simp [Value.oneCell']) w.heap.size w bwy (by omega) ?_; intro w9 hR9 hoth9 hsz9 bw9))
  exact bodyPost_ret (v := .agg #[.int .i64 8, .int .i64 0, .int .i64 0, .int .i64 0, .int .i64 0, .int .i64 0, .int .i64 0, .int .i64 0, .bool false, .int .u64 0, .int .u64 0, .int .i64 0, .bool false, .int .i64 0, .int .i64 0, .int .i64 0, .int .i64 0, .int .i64 0, .slice none 0 0, .slice none 0 0, .bool mark]) (results_cell rfl rfl (hR9.loadVar Try.underlying60 (by kernel_rfl))) rfl ⟨rfl, bw9⟩
set_option maxRecDepth 100000 in
set_option maxHeartbeats 16000000 in
theorem refClean6_any (lock lk ls lt old new vn : Int) (pe : Pe) (ba ya : Option Addr) (bn bc yn yc : Nat) (mark : Bool) (w : World) : Calls Try.prog 43 #[.agg #[.int .i64 6, .int .i64 lock, .int .i64 lk, .int .i64 ls, .int .i64 lt, .int .i64 old, .int .i64 new, .int .i64 vn, .bool pe.en.ad.v6, .int .u64 pe.en.ad.hi, .int .u64 pe.en.ad.lo, .int .i64 pe.en.port, .bool pe.came, .int .i64 pe.since, .int .i64 pe.pts, .int .i64 pe.at_, .int .i64 pe.ping, .int .i64 pe.work, .slice ba bn bc, .slice ya yn yc, .bool mark]] w
    fun r w' => r = .returned (.agg #[.int .i64 6, .int .i64 0, .int .i64 (cK lk), .int .i64 (cS lk ls), .int .i64 (cT lk lt), .int .i64 0, .int .i64 0, .int .i64 (cN lk vn), .bool (cP lk pe).en.ad.v6, .int .u64 (cP lk pe).en.ad.hi, .int .u64 (cP lk pe).en.ad.lo, .int .i64 (cP lk pe).en.port, .bool (cP lk pe).came, .int .i64 (cP lk pe).since, .int .i64 (cP lk pe).pts, .int .i64 (cP lk pe).at_, .int .i64 (cP lk pe).ping, .int .i64 (cP lk pe).work, .slice (cB lk none ba) (cB lk 0 bn) (cB lk 0 bc), .slice (cY lk none ya) (cY lk 0 yn) (cY lk 0 yc), .bool mark]) ∧ Below w.heap.size w w' := by
  have h1 := fun w => refLoc36_any lk ls lt w
  have h2 := fun w => refVal36_any lk vn pe ba ya bn bc yn yc w
  rw [show cB lk (.slice none 0 0) (.slice ba bn bc) = Value.slice (cB lk none ba) (cB lk 0 bn) (cB lk 0 bc) from by unfold cB; split <;> rfl, show cY lk (.slice none 0 0) (.slice ya yn yc) = Value.slice (cY lk none ya) (cY lk 0 yn) (cY lk 0 yc) from by unfold cY; split <;> rfl] at h2
  generalize cK lk = k1 at *
  generalize cS lk ls = k2 at *
  generalize cT lk lt = k3 at *
  generalize cN lk vn = k4 at *
  generalize cP lk pe = p1 at *
  generalize cB lk none ba = s1 at *
  generalize cB lk 0 bn = s2 at *
  generalize cB lk 0 bc = s3 at *
  generalize cY lk none ya = y1 at *
  generalize cY lk 0 yn = y2 at *
  generalize cY lk 0 yc = y3 at *
  have H1 := Lib.hid h1; have H2 := Lib.hid h2; clear h1 h2
  go_enter Try.func43, Try.ntmps43
  go_upto_region 4 with (refine list_store_blk rfl 60 _ _ rfl (w.heap.size + 1 + 1) _ _ 60 (BlockIs.newAt' _ _ _ (by simp)) rfl rfl (by kernel_rfl) rfl (by simp [Value.oneCell']) w.heap.size w (by (repeat (first | with_reducible assumption | with_reducible exact Below.refl _ _ | with_reducible refine Below.setCell ?_ (by first | omega | (simp; done) | (simp; omega)) _ | with_reducible refine Below.alloc ?_ (by first | omega | (simp; done) | (simp; omega)) _ | with_reducible refine Below.drew ?_ | (with_reducible refine Below.trans ?_ (Below.mono (by with_reducible assumption) (by first | omega | (simp; done) | (simp; omega)))) | (refine Below.trans ?_ (Below.mono (by assumption) (by first | omega | (simp; done) | (simp; omega))))))) (by omega) ?_; intro w1 hO hoth hsz bw1)
  have hA := hoth w.heap.size [.int .i64 6, .int .i64 lock, .int .i64 lk, .int .i64 ls, .int .i64 lt, .int .i64 old, .int .i64 new, .int .i64 vn, .bool pe.en.ad.v6, .int .u64 pe.en.ad.hi, .int .u64 pe.en.ad.lo, .int .i64 pe.en.port, .bool pe.came, .int .i64 pe.since, .int .i64 pe.pts, .int .i64 pe.at_, .int .i64 pe.ping, .int .i64 pe.work, .slice ba bn bc, .slice ya yn yc, .bool mark] 60 (by omega) ((BlockIs.new w [.int .i64 6, .int .i64 lock, .int .i64 lk, .int .i64 ls, .int .i64 lt, .int .i64 old, .int .i64 new, .int .i64 vn, .bool pe.en.ad.v6, .int .u64 pe.en.ad.hi, .int .u64 pe.en.ad.lo, .int .i64 pe.en.port, .bool pe.came, .int .i64 pe.since, .int .i64 pe.pts, .int .i64 pe.at_, .int .i64 pe.ping, .int .i64 pe.work, .slice ba bn bc, .slice ya yn yc, .bool mark] _).alloc' _ |>.alloc' _)
  have hZ := hoth (w.heap.size + 1) [.int .i64 0, .int .i64 0, .int .i64 0, .int .i64 0, .int .i64 0, .int .i64 0, .int .i64 0, .int .i64 0, .bool false, .int .u64 0, .int .u64 0, .int .i64 0, .bool false, .int .i64 0, .int .i64 0, .int .i64 0, .int .i64 0, .int .i64 0, .slice none 0 0, .slice none 0 0, .bool false] 60 (by omega) ((BlockIs.newAt' (w.alloc _) [.int .i64 0, .int .i64 0, .int .i64 0, .int .i64 0, .int .i64 0, .int .i64 0, .int .i64 0, .int .i64 0, .bool false, .int .u64 0, .int .u64 0, .int .i64 0, .bool false, .int .i64 0, .int .i64 0, .int .i64 0, .int .i64 0, .int .i64 0, .slice none 0 0, .slice none 0 0, .bool false] _ (by simp)).alloc' _)
  simp only [World.size_alloc] at hsz
  clear hoth
  have xa0 := hA.cell (i := 0) rfl
  have xa2 := hA.cell (i := 2) rfl
  have xa3 := hA.cell (i := 3) rfl
  have xa4 := hA.cell (i := 4) rfl
  have xa7 := hA.cell (i := 7) rfl
  have xa8 := hA.cell (i := 8) rfl
  have xa9 := hA.cell (i := 9) rfl
  have xa10 := hA.cell (i := 10) rfl
  have xa11 := hA.cell (i := 11) rfl
  have xa12 := hA.cell (i := 12) rfl
  have xa13 := hA.cell (i := 13) rfl
  have xa14 := hA.cell (i := 14) rfl
  have xa15 := hA.cell (i := 15) rfl
  have xa16 := hA.cell (i := 16) rfl
  have xa17 := hA.cell (i := 17) rfl
  have xa18 := hA.cell (i := 18) rfl
  have xa19 := hA.cell (i := 19) rfl
  have xaf := hA.frozen
  have xal := hA.lt
  have xo2 := hO.cell (i := 2) rfl
  have xo3 := hO.cell (i := 3) rfl
  have xo4 := hO.cell (i := 4) rfl
  have xo7 := hO.cell (i := 7) rfl
  have xo8 := hO.cell (i := 8) rfl
  have xo9 := hO.cell (i := 9) rfl
  have xo10 := hO.cell (i := 10) rfl
  have xo11 := hO.cell (i := 11) rfl
  have xo12 := hO.cell (i := 12) rfl
  have xo13 := hO.cell (i := 13) rfl
  have xo14 := hO.cell (i := 14) rfl
  have xo15 := hO.cell (i := 15) rfl
  have xo16 := hO.cell (i := 16) rfl
  have xo17 := hO.cell (i := 17) rfl
  have xo18 := hO.cell (i := 18) rfl
  have xo19 := hO.cell (i := 19) rfl
  have xof := hO.frozen
  have xol := hO.lt
  have HA := Lib.hid hA; have HZ := Lib.hid hZ; have HO := Lib.hid hO
  clear hA hZ hO
  go_upto_region 8 with (go_at_call 93; (with_reducible refine (H1.out _).mono ?_); rintro e w2 ⟨rfl, b2⟩; obtain ⟨c2, f2⟩ := bcell b2; have z2 := b2.size; (try simp at z2); have d2a := fun o => c2 (w.heap.size) o (by first | omega | (simp; done) | (simp; omega)); have d2b := fun o => c2 (w.heap.size + 1 + 1) o (by first | omega | (simp; done) | (simp; omega)); have q2b := fun o => f2 (w.heap.size + 1 + 1) o (by first | omega | (simp; done) | (simp; omega)); clear c2 f2)
  have hO2 := ((((HO.out).below b2).set 2 (.int .i64 k1)).set 3 (.int .i64 k2)).set 4 (.int .i64 k3)
  have hZ2 : BlockIs (((w2.setCell ⟨w.heap.size + 1 + 1, 2, none⟩ (.int .i64 k1)).setCell ⟨w.heap.size + 1 + 1, 3, none⟩ (.int .i64 k2)).setCell ⟨w.heap.size + 1 + 1, 4, none⟩ (.int .i64 k3)) _ _ _ := (((HZ.out.below b2).other (by simp) _).other (by simp) _).other (by simp) _
  have hA2 : BlockIs (((w2.setCell ⟨w.heap.size + 1 + 1, 2, none⟩ (.int .i64 k1)).setCell ⟨w.heap.size + 1 + 1, 3, none⟩ (.int .i64 k2)).setCell ⟨w.heap.size + 1 + 1, 4, none⟩ (.int .i64 k3)) _ _ _ := (((HA.out.below b2).other (by simp; omega) _).other (by simp; omega) _).other (by simp; omega) _
  go_name_world WWx hWWx
  rw [hWWx] at hO2 hZ2 hA2
  have bwx : Below w.heap.size w WWx := by subst hWWx; (repeat (first | with_reducible assumption | with_reducible exact Below.refl _ _ | with_reducible refine Below.setCell ?_ (by first | omega | (simp; done) | (simp; omega)) _ | with_reducible refine Below.alloc ?_ (by first | omega | (simp; done) | (simp; omega)) _ | with_reducible refine Below.drew ?_ | (with_reducible refine Below.trans ?_ (Below.mono (by with_reducible assumption) (by first | omega | (simp; done) | (simp; omega)))) | (refine Below.trans ?_ (Below.mono (by assumption) (by first | omega | (simp; done) | (simp; omega))))))
  clear hWWx HO HZ HA
  clear xa0 xa2 xa3 xa4 xa7 xa8 xa9 xa10 xa11 xa12 xa13 xa14 xa15 xa16 xa17 xa18 xa19 xo2 xo3 xo4 xo7 xo8 xo9 xo10 xo11 xo12 xo13 xo14 xo15 xo16 xo17 xo18 xo19 xof xaf xol xal
  have xa0 := hA2.cell (i := 0) rfl
  have xa2 := hA2.cell (i := 2) rfl
  have xa3 := hA2.cell (i := 3) rfl
  have xa4 := hA2.cell (i := 4) rfl
  have xa7 := hA2.cell (i := 7) rfl
  have xa8 := hA2.cell (i := 8) rfl
  have xa9 := hA2.cell (i := 9) rfl
  have xa10 := hA2.cell (i := 10) rfl
  have xa11 := hA2.cell (i := 11) rfl
  have xa12 := hA2.cell (i := 12) rfl
  have xa13 := hA2.cell (i := 13) rfl
  have xa14 := hA2.cell (i := 14) rfl
  have xa15 := hA2.cell (i := 15) rfl
  have xa16 := hA2.cell (i := 16) rfl
  have xa17 := hA2.cell (i := 17) rfl
  have xa18 := hA2.cell (i := 18) rfl
  have xa19 := hA2.cell (i := 19) rfl
  have xaf := hA2.frozen
  have xal := hA2.lt
  have xo7 := hO2.cell (i := 7) rfl
  have xo8 := hO2.cell (i := 8) rfl
  have xo9 := hO2.cell (i := 9) rfl
  have xo10 := hO2.cell (i := 10) rfl
  have xo11 := hO2.cell (i := 11) rfl
  have xo12 := hO2.cell (i := 12) rfl
  have xo13 := hO2.cell (i := 13) rfl
  have xo14 := hO2.cell (i := 14) rfl
  have xo15 := hO2.cell (i := 15) rfl
  have xo16 := hO2.cell (i := 16) rfl
  have xo17 := hO2.cell (i := 17) rfl
  have xo18 := hO2.cell (i := 18) rfl
  have xo19 := hO2.cell (i := 19) rfl
  have xof := hO2.frozen
  have xol := hO2.lt
  have HZ := Lib.hid hZ2; have HO := Lib.hid hO2
  clear hZ2 hO2 hA2
  go_upto_region 13 with (go_at_call 94; (with_reducible refine (H2.out _).mono ?_); rintro e w4 ⟨rfl, b4⟩; obtain ⟨c4, f4⟩ := bcell b4; have z4 := b4.size; (try simp at z4); have d4a := fun o => c4 (w.heap.size) o (by first | omega | (simp; done) | (simp; omega)); have d4b := fun o => c4 (w.heap.size + 1 + 1) o (by first | omega | (simp; done) | (simp; omega)); have q4b := fun o => f4 (w.heap.size + 1 + 1) o (by first | omega | (simp; done) | (simp; omega)); clear c4 f4)
  have hO2 := (HO.out).below b4
  have hZ2 := (HZ.out).below b4
  go_name_world WWy hWWy
  have hO9 : BlockIs WWy (w.heap.size + 1 + 1) [.int .i64 6, .int .i64 0, .int .i64 k1, .int .i64 k2, .int .i64 k3, .int .i64 0, .int .i64 0, .int .i64 k4, .bool p1.en.ad.v6, .int .u64 p1.en.ad.hi, .int .u64 p1.en.ad.lo, .int .i64 p1.en.port, .bool p1.came, .int .i64 p1.since, .int .i64 p1.pts, .int .i64 p1.at_, .int .i64 p1.ping, .int .i64 p1.work, .slice s1 s2 s3, .slice y1 y2 y3, .bool mark] 60 := by subst hWWy; exact (((((((((((((hO2).set 7 _).set 8 _).set 9 _).set 10 _).set 11 _).set 12 _).set 13 _).set 14 _).set 15 _).set 16 _).set 17 _).set 18 _).set 19 _
  have hZ9 : BlockIs WWy (w.heap.size + 1) [.int .i64 0, .int .i64 0, .int .i64 0, .int .i64 0, .int .i64 0, .int .i64 0, .int .i64 0, .int .i64 0, .bool false, .int .u64 0, .int .u64 0, .int .i64 0, .bool false, .int .i64 0, .int .i64 0, .int .i64 0, .int .i64 0, .int .i64 0, .slice none 0 0, .slice none 0 0, .bool false] 60 := by
    subst hWWy
    iterate 13 refine BlockIs.other ?_ (by simp) _
    exact hZ2
  have bwy : Below w.heap.size w WWy := by subst hWWy; (repeat (first | with_reducible assumption | with_reducible exact Below.refl _ _ | with_reducible refine Below.setCell ?_ (by first | omega | (simp; done) | (simp; omega)) _ | with_reducible refine Below.alloc ?_ (by first | omega | (simp; done) | (simp; omega)) _ | with_reducible refine Below.drew ?_ | (with_reducible refine Below.trans ?_ (Below.mono (by with_reducible assumption) (by first | omega | (simp; done) | (simp; omega)))) | (refine Below.trans ?_ (Below.mono (by assumption) (by first | omega | (simp; done) | (simp; omega))))))
  clear hWWy hO2 hZ2
  go_wp2_with (first | (refine list_load_blk rfl _ _ rfl _ _ _ hO9 rfl Try.underlying60 (by kernel_rfl) ?_) | (refine list_store_blk rfl _ _ _ rfl _ _ _ _ hZ9 rfl rfl (by kernel_rfl) rfl (by simp [Value.oneCell']) w.heap.size w bwy (by omega) ?_; intro w9 hR9 hoth9 hsz9 bw9))
  exact bodyPost_ret (v := .agg #[.int .i64 6, .int .i64 0, .int .i64 k1, .int .i64 k2, .int .i64 k3, .int .i64 0, .int .i64 0, .int .i64 k4, .bool p1.en.ad.v6, .int .u64 p1.en.ad.hi, .int .u64 p1.en.ad.lo, .int .i64 p1.en.port, .bool p1.came, .int .i64 p1.since, .int .i64 p1.pts, .int .i64 p1.at_, .int .i64 p1.ping, .int .i64 p1.work, .slice s1 s2 s3, .slice y1 y2 y3, .bool mark]) (results_cell rfl rfl (hR9.loadVar Try.underlying60 (by kernel_rfl))) rfl ⟨rfl, bw9⟩
set_option maxRecDepth 100000 in
set_option maxHeartbeats 16000000 in
theorem refClean0_any (k lock lk ls lt old new vn : Int) (pe : Pe) (ba ya : Option Addr) (bn bc yn yc : Nat) (mark : Bool) (h : k < 1 ∨ 8 < k) (w : World) : Calls Try.prog 43 #[.agg #[.int .i64 k, .int .i64 lock, .int .i64 lk, .int .i64 ls, .int .i64 lt, .int .i64 old, .int .i64 new, .int .i64 vn, .bool pe.en.ad.v6, .int .u64 pe.en.ad.hi, .int .u64 pe.en.ad.lo, .int .i64 pe.en.port, .bool pe.came, .int .i64 pe.since, .int .i64 pe.pts, .int .i64 pe.at_, .int .i64 pe.ping, .int .i64 pe.work, .slice ba bn bc, .slice ya yn yc, .bool mark]] w
    fun r w' => r = .returned (.agg #[.int .i64 0, .int .i64 0, .int .i64 0, .int .i64 0, .int .i64 0, .int .i64 0, .int .i64 0, .int .i64 0, .bool false, .int .u64 0, .int .u64 0, .int .i64 0, .bool false, .int .i64 0, .int .i64 0, .int .i64 0, .int .i64 0, .int .i64 0, .slice none 0 0, .slice none 0 0, .bool false]) ∧ Below w.heap.size w w' := by
  rcases h with h | h
  all_goals
    go_enter Try.func43, Try.ntmps43
    go_wp2_with (refine list_store_blk rfl 60 _ _ rfl (w.heap.size + 1) _ _ 60 (BlockIs.newAt' _ _ _ (by simp)) rfl rfl (by kernel_rfl) rfl (by simp [Value.oneCell']) w.heap.size w (by (repeat (first | with_reducible assumption | with_reducible exact Below.refl _ _ | with_reducible refine Below.setCell ?_ (by first | omega | (simp; done) | (simp; omega)) _ | with_reducible refine Below.alloc ?_ (by first | omega | (simp; done) | (simp; omega)) _ | with_reducible refine Below.drew ?_ | (with_reducible refine Below.trans ?_ (Below.mono (by with_reducible assumption) (by first | omega | (simp; done) | (simp; omega)))) | (refine Below.trans ?_ (Below.mono (by assumption) (by first | omega | (simp; done) | (simp; omega))))))) (by omega) ?_; intro w9 hR9 hoth9 hsz9 bw9)
    exact bodyPost_ret (v := .agg #[.int .i64 0, .int .i64 0, .int .i64 0, .int .i64 0, .int .i64 0, .int .i64 0, .int .i64 0, .int .i64 0, .bool false, .int .u64 0, .int .u64 0, .int .i64 0, .bool false, .int .i64 0, .int .i64 0, .int .i64 0, .int .i64 0, .int .i64 0, .slice none 0 0, .slice none 0 0, .bool false]) (results_cell rfl rfl (hR9.loadVar Try.underlying60 (by kernel_rfl))) rfl ⟨rfl, bw9⟩
end Go.Proofs.Ytnohkfbapibmdaa
