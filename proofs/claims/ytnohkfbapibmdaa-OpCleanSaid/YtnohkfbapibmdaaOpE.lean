/- The contracts of operations: what is cleaned, the other kinds. -/
import Derived.Test.YtnohkfbapibmdaaOpD
namespace Go.Proofs.Ytnohkfbapibmdaa
open Go.RowKit
set_option linter.unusedSimpArgs false
set_option linter.unusedVariables false

set_option maxRecDepth 100000 in
set_option maxHeartbeats 16000000 in
theorem opClean1_any (lock lk ls lt old new vn : Int) (pe : Pe) (ba ya : Option Addr) (bn bc yn yc : Nat) (mark : Bool) (w : World) : Calls Try.prog 42 #[.agg #[.int .i64 1, .int .i64 lock, .int .i64 lk, .int .i64 ls, .int .i64 lt, .int .i64 old, .int .i64 new, .int .i64 vn, .bool pe.en.ad.v6, .int .u64 pe.en.ad.hi, .int .u64 pe.en.ad.lo, .int .i64 pe.en.port, .bool pe.came, .int .i64 pe.since, .int .i64 pe.pts, .int .i64 pe.at_, .int .i64 pe.ping, .int .i64 pe.work, .slice ba bn bc, .slice ya yn yc, .bool mark]] w
    fun r w' => r = .returned (.agg #[.int .i64 1, .int .i64 lock, .int .i64 0, .int .i64 0, .int .i64 0, .int .i64 0, .int .i64 0, .int .i64 0, .bool false, .int .u64 0, .int .u64 0, .int .i64 0, .bool false, .int .i64 0, .int .i64 0, .int .i64 0, .int .i64 0, .int .i64 0, .slice none 0 0, .slice none 0 0, .bool mark]) ∧ Below w.heap.size w w' := by
  go_enter Try.func42, Try.ntmps42
  go_upto_region 2 with (refine list_store_blk rfl 60 _ _ rfl (w.heap.size + 1 + 1) _ _ 60 (BlockIs.newAt' _ _ _ (by simp)) rfl rfl (by kernel_rfl) rfl (by simp [Value.oneCell']) w.heap.size w (by (repeat (first | with_reducible assumption | with_reducible exact Below.refl _ _ | with_reducible refine Below.setCell ?_ (by first | omega | (simp; done) | (simp; omega)) _ | with_reducible refine Below.alloc ?_ (by first | omega | (simp; done) | (simp; omega)) _ | with_reducible refine Below.drew ?_ | (with_reducible refine Below.trans ?_ (Below.mono (by with_reducible assumption) (by first | omega | (simp; done) | (simp; omega)))) | (refine Below.trans ?_ (Below.mono (by assumption) (by first | omega | (simp; done) | (simp; omega))))))) (by omega) ?_; intro w1 hO hoth hsz bw1)
  have hA := hoth w.heap.size [.int .i64 1, .int .i64 lock, .int .i64 lk, .int .i64 ls, .int .i64 lt, .int .i64 old, .int .i64 new, .int .i64 vn, .bool pe.en.ad.v6, .int .u64 pe.en.ad.hi, .int .u64 pe.en.ad.lo, .int .i64 pe.en.port, .bool pe.came, .int .i64 pe.since, .int .i64 pe.pts, .int .i64 pe.at_, .int .i64 pe.ping, .int .i64 pe.work, .slice ba bn bc, .slice ya yn yc, .bool mark] 60 (by omega) ((BlockIs.new w [.int .i64 1, .int .i64 lock, .int .i64 lk, .int .i64 ls, .int .i64 lt, .int .i64 old, .int .i64 new, .int .i64 vn, .bool pe.en.ad.v6, .int .u64 pe.en.ad.hi, .int .u64 pe.en.ad.lo, .int .i64 pe.en.port, .bool pe.came, .int .i64 pe.since, .int .i64 pe.pts, .int .i64 pe.at_, .int .i64 pe.ping, .int .i64 pe.work, .slice ba bn bc, .slice ya yn yc, .bool mark] _).alloc' _ |>.alloc' _)
  have hZ := hoth (w.heap.size + 1) [.int .i64 0, .int .i64 0, .int .i64 0, .int .i64 0, .int .i64 0, .int .i64 0, .int .i64 0, .int .i64 0, .bool false, .int .u64 0, .int .u64 0, .int .i64 0, .bool false, .int .i64 0, .int .i64 0, .int .i64 0, .int .i64 0, .int .i64 0, .slice none 0 0, .slice none 0 0, .bool false] 60 (by omega) ((BlockIs.newAt' (w.alloc _) [.int .i64 0, .int .i64 0, .int .i64 0, .int .i64 0, .int .i64 0, .int .i64 0, .int .i64 0, .int .i64 0, .bool false, .int .u64 0, .int .u64 0, .int .i64 0, .bool false, .int .i64 0, .int .i64 0, .int .i64 0, .int .i64 0, .int .i64 0, .slice none 0 0, .slice none 0 0, .bool false] _ (by simp)).alloc' _)
  simp only [World.size_alloc] at hsz
  clear hoth
  have xa0 := hA.cell (i := 0) rfl
  have xa1 := hA.cell (i := 1) rfl
  have xaf := hA.frozen
  have xal := hA.lt
  have xo1 := hO.cell (i := 1) rfl
  have xof := hO.frozen
  have xol := hO.lt
  have HA := Lib.hid hA; have HZ := Lib.hid hZ; have HO := Lib.hid hO
  clear hA hZ hO
  go_upto_region 16 with fail
  have hO2 := HO.out
  have hZ2 := HZ.out
  go_name_world WWy hWWy
  have hO9 : BlockIs WWy (w.heap.size + 1 + 1) [.int .i64 1, .int .i64 lock, .int .i64 0, .int .i64 0, .int .i64 0, .int .i64 0, .int .i64 0, .int .i64 0, .bool false, .int .u64 0, .int .u64 0, .int .i64 0, .bool false, .int .i64 0, .int .i64 0, .int .i64 0, .int .i64 0, .int .i64 0, .slice none 0 0, .slice none 0 0, .bool mark] 60 := by subst hWWy; exact (hO2).set 1 _
  have hZ9 : BlockIs WWy (w.heap.size + 1) [.int .i64 0, .int .i64 0, .int .i64 0, .int .i64 0, .int .i64 0, .int .i64 0, .int .i64 0, .int .i64 0, .bool false, .int .u64 0, .int .u64 0, .int .i64 0, .bool false, .int .i64 0, .int .i64 0, .int .i64 0, .int .i64 0, .int .i64 0, .slice none 0 0, .slice none 0 0, .bool false] 60 := by
    subst hWWy
    iterate 1 refine BlockIs.other ?_ (by simp) _
    exact hZ2
  have bwy : Below w.heap.size w WWy := by subst hWWy; (repeat (first | with_reducible assumption | with_reducible exact Below.refl _ _ | with_reducible refine Below.setCell ?_ (by first | omega | (simp; done) | (simp; omega)) _ | with_reducible refine Below.alloc ?_ (by first | omega | (simp; done) | (simp; omega)) _ | with_reducible refine Below.drew ?_ | (with_reducible refine Below.trans ?_ (Below.mono (by with_reducible assumption) (by first | omega | (simp; done) | (simp; omega)))) | (refine Below.trans ?_ (Below.mono (by assumption) (by first | omega | (simp; done) | (simp; omega))))))
  clear hWWy hO2 hZ2
  go_wp2_with (first | (refine list_load_blk rfl _ _ rfl _ _ _ hO9 rfl Try.underlying60 (by kernel_rfl) ?_) | (refine list_store_blk rfl _ _ _ rfl _ _ _ _ hZ9 rfl rfl (by kernel_rfl) rfl (by simp [Value.oneCell']) w.heap.size w bwy (by omega) ?_; intro w9 hR9 hoth9 hsz9 bw9))
  exact bodyPost_ret (v := .agg #[.int .i64 1, .int .i64 lock, .int .i64 0, .int .i64 0, .int .i64 0, .int .i64 0, .int .i64 0, .int .i64 0, .bool false, .int .u64 0, .int .u64 0, .int .i64 0, .bool false, .int .i64 0, .int .i64 0, .int .i64 0, .int .i64 0, .int .i64 0, .slice none 0 0, .slice none 0 0, .bool mark]) (results_cell rfl rfl (hR9.loadVar Try.underlying60 (by kernel_rfl))) rfl ⟨rfl, bw9⟩
set_option maxRecDepth 100000 in
set_option maxHeartbeats 16000000 in
theorem opClean2_any (lock lk ls lt old new vn : Int) (pe : Pe) (ba ya : Option Addr) (bn bc yn yc : Nat) (mark : Bool) (w : World) : Calls Try.prog 42 #[.agg #[.int .i64 2, .int .i64 lock, .int .i64 lk, .int .i64 ls, .int .i64 lt, .int .i64 old, .int .i64 new, .int .i64 vn, .bool pe.en.ad.v6, .int .u64 pe.en.ad.hi, .int .u64 pe.en.ad.lo, .int .i64 pe.en.port, .bool pe.came, .int .i64 pe.since, .int .i64 pe.pts, .int .i64 pe.at_, .int .i64 pe.ping, .int .i64 pe.work, .slice ba bn bc, .slice ya yn yc, .bool mark]] w
    fun r w' => r = .returned (.agg #[.int .i64 2, .int .i64 lock, .int .i64 0, .int .i64 0, .int .i64 0, .int .i64 0, .int .i64 0, .int .i64 0, .bool false, .int .u64 0, .int .u64 0, .int .i64 0, .bool false, .int .i64 0, .int .i64 0, .int .i64 0, .int .i64 0, .int .i64 0, .slice none 0 0, .slice none 0 0, .bool mark]) ∧ Below w.heap.size w w' := by
  go_enter Try.func42, Try.ntmps42
  go_upto_region 2 with (refine list_store_blk rfl 60 _ _ rfl (w.heap.size + 1 + 1) _ _ 60 (BlockIs.newAt' _ _ _ (by simp)) rfl rfl (by kernel_rfl) rfl (by simp [Value.oneCell']) w.heap.size w (by (repeat (first | with_reducible assumption | with_reducible exact Below.refl _ _ | with_reducible refine Below.setCell ?_ (by first | omega | (simp; done) | (simp; omega)) _ | with_reducible refine Below.alloc ?_ (by first | omega | (simp; done) | (simp; omega)) _ | with_reducible refine Below.drew ?_ | (with_reducible refine Below.trans ?_ (Below.mono (by with_reducible assumption) (by first | omega | (simp; done) | (simp; omega)))) | (refine Below.trans ?_ (Below.mono (by assumption) (by first | omega | (simp; done) | (simp; omega))))))) (by omega) ?_; intro w1 hO hoth hsz bw1)
  have hA := hoth w.heap.size [.int .i64 2, .int .i64 lock, .int .i64 lk, .int .i64 ls, .int .i64 lt, .int .i64 old, .int .i64 new, .int .i64 vn, .bool pe.en.ad.v6, .int .u64 pe.en.ad.hi, .int .u64 pe.en.ad.lo, .int .i64 pe.en.port, .bool pe.came, .int .i64 pe.since, .int .i64 pe.pts, .int .i64 pe.at_, .int .i64 pe.ping, .int .i64 pe.work, .slice ba bn bc, .slice ya yn yc, .bool mark] 60 (by omega) ((BlockIs.new w [.int .i64 2, .int .i64 lock, .int .i64 lk, .int .i64 ls, .int .i64 lt, .int .i64 old, .int .i64 new, .int .i64 vn, .bool pe.en.ad.v6, .int .u64 pe.en.ad.hi, .int .u64 pe.en.ad.lo, .int .i64 pe.en.port, .bool pe.came, .int .i64 pe.since, .int .i64 pe.pts, .int .i64 pe.at_, .int .i64 pe.ping, .int .i64 pe.work, .slice ba bn bc, .slice ya yn yc, .bool mark] _).alloc' _ |>.alloc' _)
  have hZ := hoth (w.heap.size + 1) [.int .i64 0, .int .i64 0, .int .i64 0, .int .i64 0, .int .i64 0, .int .i64 0, .int .i64 0, .int .i64 0, .bool false, .int .u64 0, .int .u64 0, .int .i64 0, .bool false, .int .i64 0, .int .i64 0, .int .i64 0, .int .i64 0, .int .i64 0, .slice none 0 0, .slice none 0 0, .bool false] 60 (by omega) ((BlockIs.newAt' (w.alloc _) [.int .i64 0, .int .i64 0, .int .i64 0, .int .i64 0, .int .i64 0, .int .i64 0, .int .i64 0, .int .i64 0, .bool false, .int .u64 0, .int .u64 0, .int .i64 0, .bool false, .int .i64 0, .int .i64 0, .int .i64 0, .int .i64 0, .int .i64 0, .slice none 0 0, .slice none 0 0, .bool false] _ (by simp)).alloc' _)
  simp only [World.size_alloc] at hsz
  clear hoth
  have xa0 := hA.cell (i := 0) rfl
  have xa1 := hA.cell (i := 1) rfl
  have xaf := hA.frozen
  have xal := hA.lt
  have xo1 := hO.cell (i := 1) rfl
  have xof := hO.frozen
  have xol := hO.lt
  have HA := Lib.hid hA; have HZ := Lib.hid hZ; have HO := Lib.hid hO
  clear hA hZ hO
  go_upto_region 16 with fail
  have hO2 := HO.out
  have hZ2 := HZ.out
  go_name_world WWy hWWy
  have hO9 : BlockIs WWy (w.heap.size + 1 + 1) [.int .i64 2, .int .i64 lock, .int .i64 0, .int .i64 0, .int .i64 0, .int .i64 0, .int .i64 0, .int .i64 0, .bool false, .int .u64 0, .int .u64 0, .int .i64 0, .bool false, .int .i64 0, .int .i64 0, .int .i64 0, .int .i64 0, .int .i64 0, .slice none 0 0, .slice none 0 0, .bool mark] 60 := by subst hWWy; exact (hO2).set 1 _
  have hZ9 : BlockIs WWy (w.heap.size + 1) [.int .i64 0, .int .i64 0, .int .i64 0, .int .i64 0, .int .i64 0, .int .i64 0, .int .i64 0, .int .i64 0, .bool false, .int .u64 0, .int .u64 0, .int .i64 0, .bool false, .int .i64 0, .int .i64 0, .int .i64 0, .int .i64 0, .int .i64 0, .slice none 0 0, .slice none 0 0, .bool false] 60 := by
    subst hWWy
    iterate 1 refine BlockIs.other ?_ (by simp) _
    exact hZ2
  have bwy : Below w.heap.size w WWy := by subst hWWy; (repeat (first | with_reducible assumption | with_reducible exact Below.refl _ _ | with_reducible refine Below.setCell ?_ (by first | omega | (simp; done) | (simp; omega)) _ | with_reducible refine Below.alloc ?_ (by first | omega | (simp; done) | (simp; omega)) _ | with_reducible refine Below.drew ?_ | (with_reducible refine Below.trans ?_ (Below.mono (by with_reducible assumption) (by first | omega | (simp; done) | (simp; omega)))) | (refine Below.trans ?_ (Below.mono (by assumption) (by first | omega | (simp; done) | (simp; omega))))))
  clear hWWy hO2 hZ2
  go_wp2_with (first | (refine list_load_blk rfl _ _ rfl _ _ _ hO9 rfl Try.underlying60 (by kernel_rfl) ?_) | (refine list_store_blk rfl _ _ _ rfl _ _ _ _ hZ9 rfl rfl (by kernel_rfl) rfl (by simp [Value.oneCell']) w.heap.size w bwy (by omega) ?_; intro w9 hR9 hoth9 hsz9 bw9))
  exact bodyPost_ret (v := .agg #[.int .i64 2, .int .i64 lock, .int .i64 0, .int .i64 0, .int .i64 0, .int .i64 0, .int .i64 0, .int .i64 0, .bool false, .int .u64 0, .int .u64 0, .int .i64 0, .bool false, .int .i64 0, .int .i64 0, .int .i64 0, .int .i64 0, .int .i64 0, .slice none 0 0, .slice none 0 0, .bool mark]) (results_cell rfl rfl (hR9.loadVar Try.underlying60 (by kernel_rfl))) rfl ⟨rfl, bw9⟩
set_option maxRecDepth 100000 in
set_option maxHeartbeats 16000000 in
theorem opClean3_any (lock lk ls lt old new vn : Int) (pe : Pe) (ba ya : Option Addr) (bn bc yn yc : Nat) (mark : Bool) (w : World) : Calls Try.prog 42 #[.agg #[.int .i64 3, .int .i64 lock, .int .i64 lk, .int .i64 ls, .int .i64 lt, .int .i64 old, .int .i64 new, .int .i64 vn, .bool pe.en.ad.v6, .int .u64 pe.en.ad.hi, .int .u64 pe.en.ad.lo, .int .i64 pe.en.port, .bool pe.came, .int .i64 pe.since, .int .i64 pe.pts, .int .i64 pe.at_, .int .i64 pe.ping, .int .i64 pe.work, .slice ba bn bc, .slice ya yn yc, .bool mark]] w
    fun r w' => r = .returned (.agg #[.int .i64 3, .int .i64 lock, .int .i64 0, .int .i64 0, .int .i64 0, .int .i64 0, .int .i64 0, .int .i64 0, .bool false, .int .u64 0, .int .u64 0, .int .i64 0, .bool false, .int .i64 0, .int .i64 0, .int .i64 0, .int .i64 0, .int .i64 0, .slice none 0 0, .slice none 0 0, .bool mark]) ∧ Below w.heap.size w w' := by
  go_enter Try.func42, Try.ntmps42
  go_upto_region 2 with (refine list_store_blk rfl 60 _ _ rfl (w.heap.size + 1 + 1) _ _ 60 (BlockIs.newAt' _ _ _ (by simp)) rfl rfl (by kernel_rfl) rfl (by simp [Value.oneCell']) w.heap.size w (by (repeat (first | with_reducible assumption | with_reducible exact Below.refl _ _ | with_reducible refine Below.setCell ?_ (by first | omega | (simp; done) | (simp; omega)) _ | with_reducible refine Below.alloc ?_ (by first | omega | (simp; done) | (simp; omega)) _ | with_reducible refine Below.drew ?_ | (with_reducible refine Below.trans ?_ (Below.mono (by with_reducible assumption) (by first | omega | (simp; done) | (simp; omega)))) | (refine Below.trans ?_ (Below.mono (by assumption) (by first | omega | (simp; done) | (simp; omega))))))) (by omega) ?_; intro w1 hO hoth hsz bw1)
  have hA := hoth w.heap.size [.int .i64 3, .int .i64 lock, .int .i64 lk, .int .i64 ls, .int .i64 lt, .int .i64 old, .int .i64 new, .int .i64 vn, .bool pe.en.ad.v6, .int .u64 pe.en.ad.hi, .int .u64 pe.en.ad.lo, .int .i64 pe.en.port, .bool pe.came, .int .i64 pe.since, .int .i64 pe.pts, .int .i64 pe.at_, .int .i64 pe.ping, .int .i64 pe.work, .slice ba bn bc, .slice ya yn yc, .bool mark] 60 (by omega) ((BlockIs.new w [.int .i64 3, .int .i64 lock, .int .i64 lk, .int .i64 ls, .int .i64 lt, .int .i64 old, .int .i64 new, .int .i64 vn, .bool pe.en.ad.v6, .int .u64 pe.en.ad.hi, .int .u64 pe.en.ad.lo, .int .i64 pe.en.port, .bool pe.came, .int .i64 pe.since, .int .i64 pe.pts, .int .i64 pe.at_, .int .i64 pe.ping, .int .i64 pe.work, .slice ba bn bc, .slice ya yn yc, .bool mark] _).alloc' _ |>.alloc' _)
  have hZ := hoth (w.heap.size + 1) [.int .i64 0, .int .i64 0, .int .i64 0, .int .i64 0, .int .i64 0, .int .i64 0, .int .i64 0, .int .i64 0, .bool false, .int .u64 0, .int .u64 0, .int .i64 0, .bool false, .int .i64 0, .int .i64 0, .int .i64 0, .int .i64 0, .int .i64 0, .slice none 0 0, .slice none 0 0, .bool false] 60 (by omega) ((BlockIs.newAt' (w.alloc _) [.int .i64 0, .int .i64 0, .int .i64 0, .int .i64 0, .int .i64 0, .int .i64 0, .int .i64 0, .int .i64 0, .bool false, .int .u64 0, .int .u64 0, .int .i64 0, .bool false, .int .i64 0, .int .i64 0, .int .i64 0, .int .i64 0, .int .i64 0, .slice none 0 0, .slice none 0 0, .bool false] _ (by simp)).alloc' _)
  simp only [World.size_alloc] at hsz
  clear hoth
  have xa0 := hA.cell (i := 0) rfl
  have xa1 := hA.cell (i := 1) rfl
  have xaf := hA.frozen
  have xal := hA.lt
  have xo1 := hO.cell (i := 1) rfl
  have xof := hO.frozen
  have xol := hO.lt
  have HA := Lib.hid hA; have HZ := Lib.hid hZ; have HO := Lib.hid hO
  clear hA hZ hO
  go_upto_region 16 with fail
  have hO2 := HO.out
  have hZ2 := HZ.out
  go_name_world WWy hWWy
  have hO9 : BlockIs WWy (w.heap.size + 1 + 1) [.int .i64 3, .int .i64 lock, .int .i64 0, .int .i64 0, .int .i64 0, .int .i64 0, .int .i64 0, .int .i64 0, .bool false, .int .u64 0, .int .u64 0, .int .i64 0, .bool false, .int .i64 0, .int .i64 0, .int .i64 0, .int .i64 0, .int .i64 0, .slice none 0 0, .slice none 0 0, .bool mark] 60 := by subst hWWy; exact (hO2).set 1 _
  have hZ9 : BlockIs WWy (w.heap.size + 1) [.int .i64 0, .int .i64 0, .int .i64 0, .int .i64 0, .int .i64 0, .int .i64 0, .int .i64 0, .int .i64 0, .bool false, .int .u64 0, .int .u64 0, .int .i64 0, .bool false, .int .i64 0, .int .i64 0, .int .i64 0, .int .i64 0, .int .i64 0, .slice none 0 0, .slice none 0 0, .bool false] 60 := by
    subst hWWy
    iterate 1 refine BlockIs.other ?_ (by simp) _
    exact hZ2
  have bwy : Below w.heap.size w WWy := by subst hWWy; (repeat (first | with_reducible assumption | with_reducible exact Below.refl _ _ | with_reducible refine Below.setCell ?_ (by first | omega | (simp; done) | (simp; omega)) _ | with_reducible refine Below.alloc ?_ (by first | omega | (simp; done) | (simp; omega)) _ | with_reducible refine Below.drew ?_ | (with_reducible refine Below.trans ?_ (Below.mono (by with_reducible assumption) (by first | omega | (simp; done) | (simp; omega)))) | (refine Below.trans ?_ (Below.mono (by assumption) (by first | omega | (simp; done) | (simp; omega))))))
  clear hWWy hO2 hZ2
  go_wp2_with (first | (refine list_load_blk rfl _ _ rfl _ _ _ hO9 rfl Try.underlying60 (by kernel_rfl) ?_) | (refine list_store_blk rfl _ _ _ rfl _ _ _ _ hZ9 rfl rfl (by kernel_rfl) rfl (by simp [Value.oneCell']) w.heap.size w bwy (by omega) ?_; intro w9 hR9 hoth9 hsz9 bw9))
  exact bodyPost_ret (v := .agg #[.int .i64 3, .int .i64 lock, .int .i64 0, .int .i64 0, .int .i64 0, .int .i64 0, .int .i64 0, .int .i64 0, .bool false, .int .u64 0, .int .u64 0, .int .i64 0, .bool false, .int .i64 0, .int .i64 0, .int .i64 0, .int .i64 0, .int .i64 0, .slice none 0 0, .slice none 0 0, .bool mark]) (results_cell rfl rfl (hR9.loadVar Try.underlying60 (by kernel_rfl))) rfl ⟨rfl, bw9⟩
set_option maxRecDepth 100000 in
set_option maxHeartbeats 16000000 in
theorem opClean4_any (lock lk ls lt old new vn : Int) (pe : Pe) (ba ya : Option Addr) (bn bc yn yc : Nat) (mark : Bool) (w : World) : Calls Try.prog 42 #[.agg #[.int .i64 4, .int .i64 lock, .int .i64 lk, .int .i64 ls, .int .i64 lt, .int .i64 old, .int .i64 new, .int .i64 vn, .bool pe.en.ad.v6, .int .u64 pe.en.ad.hi, .int .u64 pe.en.ad.lo, .int .i64 pe.en.port, .bool pe.came, .int .i64 pe.since, .int .i64 pe.pts, .int .i64 pe.at_, .int .i64 pe.ping, .int .i64 pe.work, .slice ba bn bc, .slice ya yn yc, .bool mark]] w
    fun r w' => r = .returned (.agg #[.int .i64 4, .int .i64 lock, .int .i64 0, .int .i64 0, .int .i64 0, .int .i64 0, .int .i64 0, .int .i64 0, .bool false, .int .u64 0, .int .u64 0, .int .i64 0, .bool false, .int .i64 0, .int .i64 0, .int .i64 0, .int .i64 0, .int .i64 0, .slice none 0 0, .slice none 0 0, .bool mark]) ∧ Below w.heap.size w w' := by
  go_enter Try.func42, Try.ntmps42
  go_upto_region 2 with (refine list_store_blk rfl 60 _ _ rfl (w.heap.size + 1 + 1) _ _ 60 (BlockIs.newAt' _ _ _ (by simp)) rfl rfl (by kernel_rfl) rfl (by simp [Value.oneCell']) w.heap.size w (by (repeat (first | with_reducible assumption | with_reducible exact Below.refl _ _ | with_reducible refine Below.setCell ?_ (by first | omega | (simp; done) | (simp; omega)) _ | with_reducible refine Below.alloc ?_ (by first | omega | (simp; done) | (simp; omega)) _ | with_reducible refine Below.drew ?_ | (with_reducible refine Below.trans ?_ (Below.mono (by with_reducible assumption) (by first | omega | (simp; done) | (simp; omega)))) | (refine Below.trans ?_ (Below.mono (by assumption) (by first | omega | (simp; done) | (simp; omega))))))) (by omega) ?_; intro w1 hO hoth hsz bw1)
  have hA := hoth w.heap.size [.int .i64 4, .int .i64 lock, .int .i64 lk, .int .i64 ls, .int .i64 lt, .int .i64 old, .int .i64 new, .int .i64 vn, .bool pe.en.ad.v6, .int .u64 pe.en.ad.hi, .int .u64 pe.en.ad.lo, .int .i64 pe.en.port, .bool pe.came, .int .i64 pe.since, .int .i64 pe.pts, .int .i64 pe.at_, .int .i64 pe.ping, .int .i64 pe.work, .slice ba bn bc, .slice ya yn yc, .bool mark] 60 (by omega) ((BlockIs.new w [.int .i64 4, .int .i64 lock, .int .i64 lk, .int .i64 ls, .int .i64 lt, .int .i64 old, .int .i64 new, .int .i64 vn, .bool pe.en.ad.v6, .int .u64 pe.en.ad.hi, .int .u64 pe.en.ad.lo, .int .i64 pe.en.port, .bool pe.came, .int .i64 pe.since, .int .i64 pe.pts, .int .i64 pe.at_, .int .i64 pe.ping, .int .i64 pe.work, .slice ba bn bc, .slice ya yn yc, .bool mark] _).alloc' _ |>.alloc' _)
  have hZ := hoth (w.heap.size + 1) [.int .i64 0, .int .i64 0, .int .i64 0, .int .i64 0, .int .i64 0, .int .i64 0, .int .i64 0, .int .i64 0, .bool false, .int .u64 0, .int .u64 0, .int .i64 0, .bool false, .int .i64 0, .int .i64 0, .int .i64 0, .int .i64 0, .int .i64 0, .slice none 0 0, .slice none 0 0, .bool false] 60 (by omega) ((BlockIs.newAt' (w.alloc _) [.int .i64 0, .int .i64 0, .int .i64 0, .int .i64 0, .int .i64 0, .int .i64 0, .int .i64 0, .int .i64 0, .bool false, .int .u64 0, .int .u64 0, .int .i64 0, .bool false, .int .i64 0, .int .i64 0, .int .i64 0, .int .i64 0, .int .i64 0, .slice none 0 0, .slice none 0 0, .bool false] _ (by simp)).alloc' _)
  simp only [World.size_alloc] at hsz
  clear hoth
  have xa0 := hA.cell (i := 0) rfl
  have xa1 := hA.cell (i := 1) rfl
  have xaf := hA.frozen
  have xal := hA.lt
  have xo1 := hO.cell (i := 1) rfl
  have xof := hO.frozen
  have xol := hO.lt
  have HA := Lib.hid hA; have HZ := Lib.hid hZ; have HO := Lib.hid hO
  clear hA hZ hO
  go_upto_region 16 with fail
  have hO2 := HO.out
  have hZ2 := HZ.out
  go_name_world WWy hWWy
  have hO9 : BlockIs WWy (w.heap.size + 1 + 1) [.int .i64 4, .int .i64 lock, .int .i64 0, .int .i64 0, .int .i64 0, .int .i64 0, .int .i64 0, .int .i64 0, .bool false, .int .u64 0, .int .u64 0, .int .i64 0, .bool false, .int .i64 0, .int .i64 0, .int .i64 0, .int .i64 0, .int .i64 0, .slice none 0 0, .slice none 0 0, .bool mark] 60 := by subst hWWy; exact (hO2).set 1 _
  have hZ9 : BlockIs WWy (w.heap.size + 1) [.int .i64 0, .int .i64 0, .int .i64 0, .int .i64 0, .int .i64 0, .int .i64 0, .int .i64 0, .int .i64 0, .bool false, .int .u64 0, .int .u64 0, .int .i64 0, .bool false, .int .i64 0, .int .i64 0, .int .i64 0, .int .i64 0, .int .i64 0, .slice none 0 0, .slice none 0 0, .bool false] 60 := by
    subst hWWy
    iterate 1 refine BlockIs.other ?_ (by simp) _
    exact hZ2
  have bwy : Below w.heap.size w WWy := by subst hWWy; (repeat (first | with_reducible assumption | with_reducible exact Below.refl _ _ | with_reducible refine Below.setCell ?_ (by first | omega | (simp; done) | (simp; omega)) _ | with_reducible refine Below.alloc ?_ (by first | omega | (simp; done) | (simp; omega)) _ | with_reducible refine Below.drew ?_ | (with_reducible refine Below.trans ?_ (Below.mono (by with_reducible assumption) (by first | omega | (simp; done) | (simp; omega)))) | (refine Below.trans ?_ (Below.mono (by assumption) (by first | omega | (simp; done) | (simp; omega))))))
  clear hWWy hO2 hZ2
  go_wp2_with (first | (refine list_load_blk rfl _ _ rfl _ _ _ hO9 rfl Try.underlying60 (by kernel_rfl) ?_) | (refine list_store_blk rfl _ _ _ rfl _ _ _ _ hZ9 rfl rfl (by kernel_rfl) rfl (by simp [Value.oneCell']) w.heap.size w bwy (by omega) ?_; intro w9 hR9 hoth9 hsz9 bw9))
  exact bodyPost_ret (v := .agg #[.int .i64 4, .int .i64 lock, .int .i64 0, .int .i64 0, .int .i64 0, .int .i64 0, .int .i64 0, .int .i64 0, .bool false, .int .u64 0, .int .u64 0, .int .i64 0, .bool false, .int .i64 0, .int .i64 0, .int .i64 0, .int .i64 0, .int .i64 0, .slice none 0 0, .slice none 0 0, .bool mark]) (results_cell rfl rfl (hR9.loadVar Try.underlying60 (by kernel_rfl))) rfl ⟨rfl, bw9⟩
set_option maxRecDepth 100000 in
set_option maxHeartbeats 16000000 in
theorem opClean5_any (lock lk ls lt old new vn : Int) (pe : Pe) (ba ya : Option Addr) (bn bc yn yc : Nat) (mark : Bool) (w : World) : Calls Try.prog 42 #[.agg #[.int .i64 5, .int .i64 lock, .int .i64 lk, .int .i64 ls, .int .i64 lt, .int .i64 old, .int .i64 new, .int .i64 vn, .bool pe.en.ad.v6, .int .u64 pe.en.ad.hi, .int .u64 pe.en.ad.lo, .int .i64 pe.en.port, .bool pe.came, .int .i64 pe.since, .int .i64 pe.pts, .int .i64 pe.at_, .int .i64 pe.ping, .int .i64 pe.work, .slice ba bn bc, .slice ya yn yc, .bool mark]] w
    fun r w' => r = .returned (.agg #[.int .i64 5, .int .i64 0, .int .i64 (cK lk), .int .i64 (cS lk ls), .int .i64 (cT lk lt), .int .i64 0, .int .i64 0, .int .i64 0, .bool false, .int .u64 0, .int .u64 0, .int .i64 0, .bool false, .int .i64 0, .int .i64 0, .int .i64 0, .int .i64 0, .int .i64 0, .slice none 0 0, .slice none 0 0, .bool mark]) ∧ Below w.heap.size w w' := by
  have h1 := fun w => opPl_any lk ls lt w
  generalize cK lk = k1 at *
  generalize cS lk ls = k2 at *
  generalize cT lk lt = k3 at *
  have H1 := Lib.hid h1; clear h1
  go_enter Try.func42, Try.ntmps42
  go_upto_region 2 with (refine list_store_blk rfl 60 _ _ rfl (w.heap.size + 1 + 1) _ _ 60 (BlockIs.newAt' _ _ _ (by simp)) rfl rfl (by kernel_rfl) rfl (by simp [Value.oneCell']) w.heap.size w (by (repeat (first | with_reducible assumption | with_reducible exact Below.refl _ _ | with_reducible refine Below.setCell ?_ (by first | omega | (simp; done) | (simp; omega)) _ | with_reducible refine Below.alloc ?_ (by first | omega | (simp; done) | (simp; omega)) _ | with_reducible refine Below.drew ?_ | (with_reducible refine Below.trans ?_ (Below.mono (by with_reducible assumption) (by first | omega | (simp; done) | (simp; omega)))) | (refine Below.trans ?_ (Below.mono (by assumption) (by first | omega | (simp; done) | (simp; omega))))))) (by omega) ?_; intro w1 hO hoth hsz bw1)
  have hA := hoth w.heap.size [.int .i64 5, .int .i64 lock, .int .i64 lk, .int .i64 ls, .int .i64 lt, .int .i64 old, .int .i64 new, .int .i64 vn, .bool pe.en.ad.v6, .int .u64 pe.en.ad.hi, .int .u64 pe.en.ad.lo, .int .i64 pe.en.port, .bool pe.came, .int .i64 pe.since, .int .i64 pe.pts, .int .i64 pe.at_, .int .i64 pe.ping, .int .i64 pe.work, .slice ba bn bc, .slice ya yn yc, .bool mark] 60 (by omega) ((BlockIs.new w [.int .i64 5, .int .i64 lock, .int .i64 lk, .int .i64 ls, .int .i64 lt, .int .i64 old, .int .i64 new, .int .i64 vn, .bool pe.en.ad.v6, .int .u64 pe.en.ad.hi, .int .u64 pe.en.ad.lo, .int .i64 pe.en.port, .bool pe.came, .int .i64 pe.since, .int .i64 pe.pts, .int .i64 pe.at_, .int .i64 pe.ping, .int .i64 pe.work, .slice ba bn bc, .slice ya yn yc, .bool mark] _).alloc' _ |>.alloc' _)
  have hZ := hoth (w.heap.size + 1) [.int .i64 0, .int .i64 0, .int .i64 0, .int .i64 0, .int .i64 0, .int .i64 0, .int .i64 0, .int .i64 0, .bool false, .int .u64 0, .int .u64 0, .int .i64 0, .bool false, .int .i64 0, .int .i64 0, .int .i64 0, .int .i64 0, .int .i64 0, .slice none 0 0, .slice none 0 0, .bool false] 60 (by omega) ((BlockIs.newAt' (w.alloc _) [.int .i64 0, .int .i64 0, .int .i64 0, .int .i64 0, .int .i64 0, .int .i64 0, .int .i64 0, .int .i64 0, .bool false, .int .u64 0, .int .u64 0, .int .i64 0, .bool false, .int .i64 0, .int .i64 0, .int .i64 0, .int .i64 0, .int .i64 0, .slice none 0 0, .slice none 0 0, .bool false] _ (by simp)).alloc' _)
  simp only [World.size_alloc] at hsz
  clear hoth
  have xa0 := hA.cell (i := 0) rfl
  have xa2 := hA.cell (i := 2) rfl
  have xa3 := hA.cell (i := 3) rfl
  have xa4 := hA.cell (i := 4) rfl
  have xaf := hA.frozen
  have xal := hA.lt
  have xo2 := hO.cell (i := 2) rfl
  have xo3 := hO.cell (i := 3) rfl
  have xo4 := hO.cell (i := 4) rfl
  have xof := hO.frozen
  have xol := hO.lt
  have HA := Lib.hid hA; have HZ := Lib.hid hZ; have HO := Lib.hid hO
  clear hA hZ hO
  go_upto_region 16 with (go_at_call 91; (with_reducible refine (H1.out _).mono ?_); rintro e w2 ⟨rfl, b2⟩; obtain ⟨c2, f2⟩ := bcell b2; have z2 := b2.size; (try simp at z2); have d2a := fun o => c2 (w.heap.size) o (by first | omega | (simp; done) | (simp; omega)); have d2b := fun o => c2 (w.heap.size + 1 + 1) o (by first | omega | (simp; done) | (simp; omega)); have q2b := fun o => f2 (w.heap.size + 1 + 1) o (by first | omega | (simp; done) | (simp; omega)); clear c2 f2)
  have hO2 := (HO.out).below b2
  have hZ2 := (HZ.out).below b2
  go_name_world WWy hWWy
  have hO9 : BlockIs WWy (w.heap.size + 1 + 1) [.int .i64 5, .int .i64 0, .int .i64 k1, .int .i64 k2, .int .i64 k3, .int .i64 0, .int .i64 0, .int .i64 0, .bool false, .int .u64 0, .int .u64 0, .int .i64 0, .bool false, .int .i64 0, .int .i64 0, .int .i64 0, .int .i64 0, .int .i64 0, .slice none 0 0, .slice none 0 0, .bool mark] 60 := by subst hWWy; exact (((hO2).set 2 _).set 3 _).set 4 _
  have hZ9 : BlockIs WWy (w.heap.size + 1) [.int .i64 0, .int .i64 0, .int .i64 0, .int .i64 0, .int .i64 0, .int .i64 0, .int .i64 0, .int .i64 0, .bool false, .int .u64 0, .int .u64 0, .int .i64 0, .bool false, .int .i64 0, .int .i64 0, .int .i64 0, .int .i64 0, .int .i64 0, .slice none 0 0, .slice none 0 0, .bool false] 60 := by
    subst hWWy
    iterate 3 refine BlockIs.other ?_ (by simp) _
    exact hZ2
  have bwy : Below w.heap.size w WWy := by subst hWWy; (repeat (first | with_reducible assumption | with_reducible exact Below.refl _ _ | with_reducible refine Below.setCell ?_ (by first | omega | (simp; done) | (simp; omega)) _ | with_reducible refine Below.alloc ?_ (by first | omega | (simp; done) | (simp; omega)) _ | with_reducible refine Below.drew ?_ | (with_reducible refine Below.trans ?_ (Below.mono (by with_reducible assumption) (by first | omega | (simp; done) | (simp; omega)))) | (refine Below.trans ?_ (Below.mono (by assumption) (by first | omega | (simp; done) | (simp; omega))))))
  clear hWWy hO2 hZ2
  go_wp2_with (first | (refine list_load_blk rfl _ _ rfl _ _ _ hO9 rfl Try.underlying60 (by kernel_rfl) ?_) | (refine list_store_blk rfl _ _ _ rfl _ _ _ _ hZ9 rfl rfl (by kernel_rfl) rfl (by simp [Value.oneCell']) w.heap.size w bwy (by omega) ?_; intro w9 hR9 hoth9 hsz9 bw9))
  exact bodyPost_ret (v := .agg #[.int .i64 5, .int .i64 0, .int .i64 k1, .int .i64 k2, .int .i64 k3, .int .i64 0, .int .i64 0, .int .i64 0, .bool false, .int .u64 0, .int .u64 0, .int .i64 0, .bool false, .int .i64 0, .int .i64 0, .int .i64 0, .int .i64 0, .int .i64 0, .slice none 0 0, .slice none 0 0, .bool mark]) (results_cell rfl rfl (hR9.loadVar Try.underlying60 (by kernel_rfl))) rfl ⟨rfl, bw9⟩
set_option maxRecDepth 100000 in
set_option maxHeartbeats 16000000 in
theorem opClean7_any (lock lk ls lt old new vn : Int) (pe : Pe) (ba ya : Option Addr) (bn bc yn yc : Nat) (mark : Bool) (w : World) : Calls Try.prog 42 #[.agg #[.int .i64 7, .int .i64 lock, .int .i64 lk, .int .i64 ls, .int .i64 lt, .int .i64 old, .int .i64 new, .int .i64 vn, .bool pe.en.ad.v6, .int .u64 pe.en.ad.hi, .int .u64 pe.en.ad.lo, .int .i64 pe.en.port, .bool pe.came, .int .i64 pe.since, .int .i64 pe.pts, .int .i64 pe.at_, .int .i64 pe.ping, .int .i64 pe.work, .slice ba bn bc, .slice ya yn yc, .bool mark]] w
    fun r w' => r = .returned (.agg #[.int .i64 7, .int .i64 0, .int .i64 (cK lk), .int .i64 (cS lk ls), .int .i64 (cT lk lt), .int .i64 old, .int .i64 new, .int .i64 0, .bool false, .int .u64 0, .int .u64 0, .int .i64 0, .bool false, .int .i64 0, .int .i64 0, .int .i64 0, .int .i64 0, .int .i64 0, .slice none 0 0, .slice none 0 0, .bool mark]) ∧ Below w.heap.size w w' := by
  have h1 := fun w => opPl_any lk ls lt w
  generalize cK lk = k1 at *
  generalize cS lk ls = k2 at *
  generalize cT lk lt = k3 at *
  have H1 := Lib.hid h1; clear h1
  go_enter Try.func42, Try.ntmps42
  go_upto_region 2 with (refine list_store_blk rfl 60 _ _ rfl (w.heap.size + 1 + 1) _ _ 60 (BlockIs.newAt' _ _ _ (by simp)) rfl rfl (by kernel_rfl) rfl (by simp [Value.oneCell']) w.heap.size w (by (repeat (first | with_reducible assumption | with_reducible exact Below.refl _ _ | with_reducible refine Below.setCell ?_ (by first | omega | (simp; done) | (simp; omega)) _ | with_reducible refine Below.alloc ?_ (by first | omega | (simp; done) | (simp; omega)) _ | with_reducible refine Below.drew ?_ | (with_reducible refine Below.trans ?_ (Below.mono (by with_reducible assumption) (by first | omega | (simp; done) | (simp; omega)))) | (refine Below.trans ?_ (Below.mono (by assumption) (by first | omega | (simp; done) | (simp; omega))))))) (by omega) ?_; intro w1 hO hoth hsz bw1)
  have hA := hoth w.heap.size [.int .i64 7, .int .i64 lock, .int .i64 lk, .int .i64 ls, .int .i64 lt, .int .i64 old, .int .i64 new, .int .i64 vn, .bool pe.en.ad.v6, .int .u64 pe.en.ad.hi, .int .u64 pe.en.ad.lo, .int .i64 pe.en.port, .bool pe.came, .int .i64 pe.since, .int .i64 pe.pts, .int .i64 pe.at_, .int .i64 pe.ping, .int .i64 pe.work, .slice ba bn bc, .slice ya yn yc, .bool mark] 60 (by omega) ((BlockIs.new w [.int .i64 7, .int .i64 lock, .int .i64 lk, .int .i64 ls, .int .i64 lt, .int .i64 old, .int .i64 new, .int .i64 vn, .bool pe.en.ad.v6, .int .u64 pe.en.ad.hi, .int .u64 pe.en.ad.lo, .int .i64 pe.en.port, .bool pe.came, .int .i64 pe.since, .int .i64 pe.pts, .int .i64 pe.at_, .int .i64 pe.ping, .int .i64 pe.work, .slice ba bn bc, .slice ya yn yc, .bool mark] _).alloc' _ |>.alloc' _)
  have hZ := hoth (w.heap.size + 1) [.int .i64 0, .int .i64 0, .int .i64 0, .int .i64 0, .int .i64 0, .int .i64 0, .int .i64 0, .int .i64 0, .bool false, .int .u64 0, .int .u64 0, .int .i64 0, .bool false, .int .i64 0, .int .i64 0, .int .i64 0, .int .i64 0, .int .i64 0, .slice none 0 0, .slice none 0 0, .bool false] 60 (by omega) ((BlockIs.newAt' (w.alloc _) [.int .i64 0, .int .i64 0, .int .i64 0, .int .i64 0, .int .i64 0, .int .i64 0, .int .i64 0, .int .i64 0, .bool false, .int .u64 0, .int .u64 0, .int .i64 0, .bool false, .int .i64 0, .int .i64 0, .int .i64 0, .int .i64 0, .int .i64 0, .slice none 0 0, .slice none 0 0, .bool false] _ (by simp)).alloc' _)
  simp only [World.size_alloc] at hsz
  clear hoth
  have xa0 := hA.cell (i := 0) rfl
  have xa2 := hA.cell (i := 2) rfl
  have xa3 := hA.cell (i := 3) rfl
  have xa4 := hA.cell (i := 4) rfl
  have xa5 := hA.cell (i := 5) rfl
  have xa6 := hA.cell (i := 6) rfl
  have xaf := hA.frozen
  have xal := hA.lt
  have xo2 := hO.cell (i := 2) rfl
  have xo3 := hO.cell (i := 3) rfl
  have xo4 := hO.cell (i := 4) rfl
  have xo5 := hO.cell (i := 5) rfl
  have xo6 := hO.cell (i := 6) rfl
  have xof := hO.frozen
  have xol := hO.lt
  have HA := Lib.hid hA; have HZ := Lib.hid hZ; have HO := Lib.hid hO
  clear hA hZ hO
  go_wp2_with fail
  go_region_with (go_at_call 91; (with_reducible refine (H1.out _).mono ?_); rintro e w2 ⟨rfl, b2⟩; obtain ⟨c2, f2⟩ := bcell b2; have z2 := b2.size; (try simp at z2); have d2a := fun o => c2 (w.heap.size) o (by first | omega | (simp; done) | (simp; omega)); have d2b := fun o => c2 (w.heap.size + 1 + 1) o (by first | omega | (simp; done) | (simp; omega)); have q2b := fun o => f2 (w.heap.size + 1 + 1) o (by first | omega | (simp; done) | (simp; omega)); clear c2 f2)
  all_goals
    go_upto_region 16 with fail
    have hO2 := (BlockIs.drew' (HO.out)).below b2
    have hZ2 := (BlockIs.drew' (HZ.out)).below b2
    go_name_world WWy hWWy
    have hO9 : BlockIs WWy (w.heap.size + 1 + 1) [.int .i64 7, .int .i64 0, .int .i64 k1, .int .i64 k2, .int .i64 k3, .int .i64 old, .int .i64 new, .int .i64 0, .bool false, .int .u64 0, .int .u64 0, .int .i64 0, .bool false, .int .i64 0, .int .i64 0, .int .i64 0, .int .i64 0, .int .i64 0, .slice none 0 0, .slice none 0 0, .bool mark] 60 := by subst hWWy; exact (((((hO2).set 2 _).set 3 _).set 4 _).set 5 _).set 6 _
    have hZ9 : BlockIs WWy (w.heap.size + 1) [.int .i64 0, .int .i64 0, .int .i64 0, .int .i64 0, .int .i64 0, .int .i64 0, .int .i64 0, .int .i64 0, .bool false, .int .u64 0, .int .u64 0, .int .i64 0, .bool false, .int .i64 0, .int .i64 0, .int .i64 0, .int .i64 0, .int .i64 0, .slice none 0 0, .slice none 0 0, .bool false] 60 := by
      subst hWWy
      iterate 5 refine BlockIs.other ?_ (by simp) _
      exact hZ2
    have bwy : Below w.heap.size w WWy := by subst hWWy; (repeat (first | with_reducible assumption | with_reducible exact Below.refl _ _ | with_reducible refine Below.setCell ?_ (by first | omega | (simp; done) | (simp; omega)) _ | with_reducible refine Below.alloc ?_ (by first | omega | (simp; done) | (simp; omega)) _ | with_reducible refine Below.drew ?_ | (with_reducible refine Below.trans ?_ (Below.mono (by with_reducible assumption) (by first | omega | (simp; done) | (simp; omega)))) | (refine Below.trans ?_ (Below.mono (by assumption) (by first | omega | (simp; done) | (simp; omega))))))
    clear hWWy hO2 hZ2
    go_wp2_with (first | (refine list_load_blk rfl _ _ rfl _ _ _ hO9 rfl Try.underlying60 (by kernel_rfl) ?_) | (refine list_store_blk rfl _ _ _ rfl _ _ _ _ hZ9 rfl rfl (by kernel_rfl) rfl (by simp [Value.oneCell']) w.heap.size w bwy (by omega) ?_; intro w9 hR9 hoth9 hsz9 bw9))
    exact bodyPost_ret (v := .agg #[.int .i64 7, .int .i64 0, .int .i64 k1, .int .i64 k2, .int .i64 k3, .int .i64 old, .int .i64 new, .int .i64 0, .bool false, .int .u64 0, .int .u64 0, .int .i64 0, .bool false, .int .i64 0, .int .i64 0, .int .i64 0, .int .i64 0, .int .i64 0, .slice none 0 0, .slice none 0 0, .bool mark]) (results_cell rfl rfl (hR9.loadVar Try.underlying60 (by kernel_rfl))) rfl ⟨rfl, bw9⟩
set_option maxRecDepth 100000 in
set_option maxHeartbeats 16000000 in
theorem opClean8_any (lock lk ls lt old new vn : Int) (pe : Pe) (ba ya : Option Addr) (bn bc yn yc : Nat) (mark : Bool) (w : World) : Calls Try.prog 42 #[.agg #[.int .i64 8, .int .i64 lock, .int .i64 lk, .int .i64 ls, .int .i64 lt, .int .i64 old, .int .i64 new, .int .i64 vn, .bool pe.en.ad.v6, .int .u64 pe.en.ad.hi, .int .u64 pe.en.ad.lo, .int .i64 pe.en.port, .bool pe.came, .int .i64 pe.since, .int .i64 pe.pts, .int .i64 pe.at_, .int .i64 pe.ping, .int .i64 pe.work, .slice ba bn bc, .slice ya yn yc, .bool mark]] w
    fun r w' => r = .returned (.agg #[.int .i64 8, .int .i64 0, .int .i64 0, .int .i64 0, .int .i64 0, .int .i64 0, .int .i64 0, .int .i64 0, .bool false, .int .u64 0, .int .u64 0, .int .i64 0, .bool false, .int .i64 0, .int .i64 0, .int .i64 0, .int .i64 0, .int .i64 0, .slice none 0 0, .slice none 0 0, .bool mark]) ∧ Below w.heap.size w w' := by
  go_enter Try.func42, Try.ntmps42
  go_upto_region 2 with (refine list_store_blk rfl 60 _ _ rfl (w.heap.size + 1 + 1) _ _ 60 (BlockIs.newAt' _ _ _ (by simp)) rfl rfl (by kernel_rfl) rfl (by simp [Value.oneCell']) w.heap.size w (by (repeat (first | with_reducible assumption | with_reducible exact Below.refl _ _ | with_reducible refine Below.setCell ?_ (by first | omega | (simp; done) | (simp; omega)) _ | with_reducible refine Below.alloc ?_ (by first | omega | (simp; done) | (simp; omega)) _ | with_reducible refine Below.drew ?_ | (with_reducible refine Below.trans ?_ (Below.mono (by with_reducible assumption) (by first | omega | (simp; done) | (simp; omega)))) | (refine Below.trans ?_ (Below.mono (by assumption) (by first | omega | (simp; done) | (simp; omega))))))) (by omega) ?_; intro w1 hO hoth hsz bw1)
  have hA := hoth w.heap.size [.int .i64 8, .int .i64 lock, .int .i64 lk, .int .i64 ls, .int .i64 lt, .int .i64 old, .int .i64 new, .int .i64 vn, .bool pe.en.ad.v6, .int .u64 pe.en.ad.hi, .int .u64 pe.en.ad.lo, .int .i64 pe.en.port, .bool pe.came, .int .i64 pe.since, .int .i64 pe.pts, .int .i64 pe.at_, .int .i64 pe.ping, .int .i64 pe.work, .slice ba bn bc, .slice ya yn yc, .bool mark] 60 (by omega) ((BlockIs.new w [.int .i64 8, .int .i64 lock, .int .i64 lk, .int .i64 ls, .int .i64 lt, .int .i64 old, .int .i64 new, .int .i64 vn, .bool pe.en.ad.v6, .int .u64 pe.en.ad.hi, .int .u64 pe.en.ad.lo, .int .i64 pe.en.port, .bool pe.came, .int .i64 pe.since, .int .i64 pe.pts, .int .i64 pe.at_, .int .i64 pe.ping, .int .i64 pe.work, .slice ba bn bc, .slice ya yn yc, .bool mark] _).alloc' _ |>.alloc' _)
  have hZ := hoth (w.heap.size + 1) [.int .i64 0, .int .i64 0, .int .i64 0, .int .i64 0, .int .i64 0, .int .i64 0, .int .i64 0, .int .i64 0, .bool false, .int .u64 0, .int .u64 0, .int .i64 0, .bool false, .int .i64 0, .int .i64 0, .int .i64 0, .int .i64 0, .int .i64 0, .slice none 0 0, .slice none 0 0, .bool false] 60 (by omega) ((BlockIs.newAt' (w.alloc _) [.int .i64 0, .int .i64 0, .int .i64 0, .int .i64 0, .int .i64 0, .int .i64 0, .int .i64 0, .int .i64 0, .bool false, .int .u64 0, .int .u64 0, .int .i64 0, .bool false, .int .i64 0, .int .i64 0, .int .i64 0, .int .i64 0, .int .i64 0, .slice none 0 0, .slice none 0 0, .bool false] _ (by simp)).alloc' _)
  simp only [World.size_alloc] at hsz
  clear hoth
  have xa0 := hA.cell (i := 0) rfl
  have xaf := hA.frozen
  have xal := hA.lt
  have xo0 := hO.cell (i := 0) rfl
  have xof := hO.frozen
  have xol := hO.lt
  have HA := Lib.hid hA; have HZ := Lib.hid hZ; have HO := Lib.hid hO
  clear hA hZ hO
  go_upto_region 16 with fail
  have hO2 := HO.out
  have hZ2 := HZ.out
  go_name_world WWy hWWy
  have hO9 : BlockIs WWy (w.heap.size + 1 + 1) [.int .i64 8, .int .i64 0, .int .i64 0, .int .i64 0, .int .i64 0, .int .i64 0, .int .i64 0, .int .i64 0, .bool false, .int .u64 0, .int .u64 0, .int .i64 0, .bool false, .int .i64 0, .int .i64 0, .int .i64 0, .int .i64 0, .int .i64 0, .slice none 0 0, .slice none 0 0, .bool mark] 60 := by subst hWWy; exact hO2
  have hZ9 : BlockIs WWy (w.heap.size + 1) [.int .i64 0, .int .i64 0, .int .i64 0, .int .i64 0, .int .i64 0, .int .i64 0, .int .i64 0, .int .i64 0, .bool false, .int .u64 0, .int .u64 0, .int .i64 0, .bool false, .int .i64 0, .int .i64 0, .int .i64 0, .int .i64 0, .int .i64 0, .slice none 0 0, .slice none 0 0, .bool false] 60 := by
    subst hWWy
    exact hZ2
  have bwy : Below w.heap.size w WWy := by subst hWWy; (repeat (first | with_reducible assumption | with_reducible exact Below.refl _ _ | with_reducible refine Below.setCell ?_ (by first | omega | (simp; done) | (simp; omega)) _ | with_reducible refine Below.alloc ?_ (by first | omega | (simp; done) | (simp; omega)) _ | with_reducible refine Below.drew ?_ | (with_reducible refine Below.trans ?_ (Below.mono (by with_reducible assumption) (by first | omega | (simp; done) | (simp; omega)))) | (refine Below.trans ?_ (Below.mono (by assumption) (by first | omega | (simp; done) | (simp; omega))))))
  clear hWWy hO2 hZ2
  go_wp2_with (first | (refine list_load_blk rfl _ _ rfl _ _ _ hO9 rfl Try.underlying60 (by kernel_rfl) ?_) | (refine list_store_blk rfl _ _ _ rfl _ _ _ _ hZ9 rfl rfl (by kernel_rfl) rfl (by simp [Value.oneCell']) w.heap.size w bwy (by omega) ?_; intro w9 hR9 hoth9 hsz9 bw9))
  exact bodyPost_ret (v := .agg #[.int .i64 8, .int .i64 0, .int .i64 0, .int .i64 0, .int .i64 0, .int .i64 0, .int .i64 0, .int .i64 0, .bool false, .int .u64 0, .int .u64 0, .int .i64 0, .bool false, .int .i64 0, .int .i64 0, .int .i64 0, .int .i64 0, .int .i64 0, .slice none 0 0, .slice none 0 0, .bool mark]) (results_cell rfl rfl (hR9.loadVar Try.underlying60 (by kernel_rfl))) rfl ⟨rfl, bw9⟩
theorem k8_ne {k : Int} (h : k < 1 ∨ 8 < k) : (k == 1) = false ∧ (k == 2) = false ∧ (k == 3) = false ∧ (k == 4) = false ∧ (k == 5) = false ∧ (k == 6) = false ∧ (k == 7) = false ∧ (k == 8) = false := by
  simp only [beq_eq_false_iff_ne]; omega
set_option maxRecDepth 100000 in
set_option maxHeartbeats 16000000 in
theorem opClean0_any (k lock lk ls lt old new vn : Int) (pe : Pe) (ba ya : Option Addr) (bn bc yn yc : Nat) (mark : Bool) (h : k < 1 ∨ 8 < k) (w : World) : Calls Try.prog 42 #[.agg #[.int .i64 k, .int .i64 lock, .int .i64 lk, .int .i64 ls, .int .i64 lt, .int .i64 old, .int .i64 new, .int .i64 vn, .bool pe.en.ad.v6, .int .u64 pe.en.ad.hi, .int .u64 pe.en.ad.lo, .int .i64 pe.en.port, .bool pe.came, .int .i64 pe.since, .int .i64 pe.pts, .int .i64 pe.at_, .int .i64 pe.ping, .int .i64 pe.work, .slice ba bn bc, .slice ya yn yc, .bool mark]] w
    fun r w' => r = .returned (.agg #[.int .i64 0, .int .i64 0, .int .i64 0, .int .i64 0, .int .i64 0, .int .i64 0, .int .i64 0, .int .i64 0, .bool false, .int .u64 0, .int .u64 0, .int .i64 0, .bool false, .int .i64 0, .int .i64 0, .int .i64 0, .int .i64 0, .int .i64 0, .slice none 0 0, .slice none 0 0, .bool false]) ∧ Below w.heap.size w w' := by
  obtain ⟨n1, n2, n3, n4, n5, n6, n7, n8⟩ := k8_ne h
  go_enter Try.func42, Try.ntmps42
  go_upto_region 2 with (refine list_store_blk rfl 60 _ _ rfl (w.heap.size + 1 + 1) _ _ 60 (BlockIs.newAt' _ _ _ (by simp)) rfl rfl (by kernel_rfl) rfl (by simp [Value.oneCell']) w.heap.size w (by (repeat (first | with_reducible assumption | with_reducible exact Below.refl _ _ | with_reducible refine Below.setCell ?_ (by first | omega | (simp; done) | (simp; omega)) _ | with_reducible refine Below.alloc ?_ (by first | omega | (simp; done) | (simp; omega)) _ | with_reducible refine Below.drew ?_ | (with_reducible refine Below.trans ?_ (Below.mono (by with_reducible assumption) (by first | omega | (simp; done) | (simp; omega)))) | (refine Below.trans ?_ (Below.mono (by assumption) (by first | omega | (simp; done) | (simp; omega))))))) (by omega) ?_; intro w1 hO hoth hsz bw1)
  have hA := hoth w.heap.size [.int .i64 k, .int .i64 lock, .int .i64 lk, .int .i64 ls, .int .i64 lt, .int .i64 old, .int .i64 new, .int .i64 vn, .bool pe.en.ad.v6, .int .u64 pe.en.ad.hi, .int .u64 pe.en.ad.lo, .int .i64 pe.en.port, .bool pe.came, .int .i64 pe.since, .int .i64 pe.pts, .int .i64 pe.at_, .int .i64 pe.ping, .int .i64 pe.work, .slice ba bn bc, .slice ya yn yc, .bool mark] 60 (by omega) ((BlockIs.new w [.int .i64 k, .int .i64 lock, .int .i64 lk, .int .i64 ls, .int .i64 lt, .int .i64 old, .int .i64 new, .int .i64 vn, .bool pe.en.ad.v6, .int .u64 pe.en.ad.hi, .int .u64 pe.en.ad.lo, .int .i64 pe.en.port, .bool pe.came, .int .i64 pe.since, .int .i64 pe.pts, .int .i64 pe.at_, .int .i64 pe.ping, .int .i64 pe.work, .slice ba bn bc, .slice ya yn yc, .bool mark] _).alloc' _ |>.alloc' _)
  have hZ := hoth (w.heap.size + 1) [.int .i64 0, .int .i64 0, .int .i64 0, .int .i64 0, .int .i64 0, .int .i64 0, .int .i64 0, .int .i64 0, .bool false, .int .u64 0, .int .u64 0, .int .i64 0, .bool false, .int .i64 0, .int .i64 0, .int .i64 0, .int .i64 0, .int .i64 0, .slice none 0 0, .slice none 0 0, .bool false] 60 (by omega) ((BlockIs.newAt' (w.alloc _) [.int .i64 0, .int .i64 0, .int .i64 0, .int .i64 0, .int .i64 0, .int .i64 0, .int .i64 0, .int .i64 0, .bool false, .int .u64 0, .int .u64 0, .int .i64 0, .bool false, .int .i64 0, .int .i64 0, .int .i64 0, .int .i64 0, .int .i64 0, .slice none 0 0, .slice none 0 0, .bool false] _ (by simp)).alloc' _)
  simp only [World.size_alloc] at hsz
  clear hoth
  have xa0 := hA.cell (i := 0) rfl
  have xaf := hA.frozen
  have xal := hA.lt
  have xo0 := hO.cell (i := 0) rfl
  have xof := hO.frozen
  have xol := hO.lt
  have HA := Lib.hid hA; have HZ := Lib.hid hZ; have HO := Lib.hid hO
  clear hA hZ hO
  go_upto_region 3 with fail
  have hZ9 := HZ.out
  have bwy := bw1
  go_wp2_with (refine list_store_blk rfl _ _ _ rfl _ _ _ _ hZ9 rfl rfl (by kernel_rfl) rfl (by simp [Value.oneCell']) w.heap.size w bwy (by omega) ?_; intro w9 hR9 hoth9 hsz9 bw9)
  exact bodyPost_ret (v := .agg #[.int .i64 0, .int .i64 0, .int .i64 0, .int .i64 0, .int .i64 0, .int .i64 0, .int .i64 0, .int .i64 0, .bool false, .int .u64 0, .int .u64 0, .int .i64 0, .bool false, .int .i64 0, .int .i64 0, .int .i64 0, .int .i64 0, .int .i64 0, .slice none 0 0, .slice none 0 0, .bool false]) (results_cell rfl rfl (hR9.loadVar Try.underlying60 (by kernel_rfl))) rfl ⟨rfl, bw9⟩
end Go.Proofs.Ytnohkfbapibmdaa
