/- Texts put together: OrdN. No condition. -/
import Derived.Test.YtdmobgdgeiiicaaGreatRocwzsnmeyz
import Derived.Test.YtdmobgdgeiiicaaGreatRqgtmdnquer
namespace Go.Proofs.YtdmobgdgeiiicaaGreat
open Go.RowKit

set_option maxRecDepth 100000 in
theorem ntCmp_any (a b : Nt) (w : World) : Calls Tryz.prog 51 #[.agg #[.bool a.ad.v6, .int .u64 a.ad.hi, .int .u64 a.ad.lo, .int .i64 a.bits], .agg #[.bool b.ad.v6, .int .u64 b.ad.hi, .int .u64 b.ad.lo, .int .i64 b.bits]] w fun e w' => e = .returned (.int .i64 (ntCmp a b)) ∧ Below w.heap.size w w' := by
  have ho := Lib.hid (fun (w : World) => or_any (.slice (some ⟨w.heap.size, 0, none⟩) 2 2) [adCmp a.ad b.ad, cmpI a.bits b.bits] (w.alloc (.cells #[.int .i64 (adCmp a.ad b.ad), .int .i64 (cmpI a.bits b.bits)] 3)) ((BlockIs.new w [.int .i64 (adCmp a.ad b.ad), .int .i64 (cmpI a.bits b.bits)] 3).reads rfl (by decide)))
  have z0 : w.heap.size < w.heap.size + 1 + 1 := by omega
  go_enter Tryz.func51, Tryz.ntmps51
  go_wp2_with fail
  go_region_held3 (fun w' => w'.cell? ⟨w.heap.size, 0, none⟩ = some (.bool a.ad.v6) ∧ w'.cell? ⟨w.heap.size, 1, none⟩ = some (.int .u64 a.ad.hi) ∧ w'.cell? ⟨w.heap.size, 2, none⟩ = some (.int .u64 a.ad.lo) ∧ w'.cell? ⟨w.heap.size, 3, none⟩ = some (.int .i64 a.bits) ∧ w'.cell? ⟨w.heap.size + 1, 0, none⟩ = some (.bool b.ad.v6) ∧ w'.cell? ⟨w.heap.size + 1, 1, none⟩ = some (.int .u64 b.ad.hi) ∧ w'.cell? ⟨w.heap.size + 1, 2, none⟩ = some (.int .u64 b.ad.lo) ∧ w'.cell? ⟨w.heap.size + 1, 3, none⟩ = some (.int .i64 b.bits)) (first | go_keep | (simp (disch := omega) [*])) (first | (go_at_call 78; refine (adCmp_any a.ad b.ad _).mono ?_; rintro e w1 ⟨rfl, b1⟩; obtain ⟨c1, f1⟩ := bcell b1; have z1 := b1.size; (try simp at z1)) | (go_at_call 79; refine (cmpInt_any _ _ _).mono ?_; rintro e w' ⟨rfl, rfl⟩) | (go_at_call 77; refine (ho.out _).mono ?_; rintro e w' ⟨rfl, rfl⟩))
  go_wp2_with fail
  go_ret
  refine ⟨rfl, ?_⟩
  repeat (first | assumption | exact Below.refl _ _ | refine Below.alloc ?_ (by first | omega | (simp; done) | (simp; omega)) _ | refine Below.drew ?_ | (refine Below.trans ?_ (Below.mono (by assumption) (by first | omega | (simp; done) | (simp; omega)))))
set_option maxRecDepth 100000 in
theorem refNtCmp_any (a b : Nt) (w : World) : Calls Tryz.prog 31 #[.agg #[.bool a.ad.v6, .int .u64 a.ad.hi, .int .u64 a.ad.lo, .int .i64 a.bits], .agg #[.bool b.ad.v6, .int .u64 b.ad.hi, .int .u64 b.ad.lo, .int .i64 b.bits]] w fun e w' => e = .returned (.int .i64 (ntCmp a b)) ∧ Below w.heap.size w w' := by
  have z0 : w.heap.size < w.heap.size + 1 + 1 := by omega
  go_enter Tryz.func31, Tryz.ntmps31
  go_wp2_with (go_at_call 59; refine (refAdCmp_any a.ad b.ad _).mono ?_; rintro e w1 ⟨rfl, b1⟩; obtain ⟨c1, f1⟩ := bcell b1)
  all_goals
    go_ret
    refine ⟨ret_int ?_, ?_⟩
    · unfold ntCmp; rw [orI_two]
      simp_all [cmpI]
      try omega
    · repeat (first | assumption | exact Below.refl _ _ | refine Below.alloc ?_ (by first | omega | (simp; done) | (simp; omega)) _ | refine Below.drew ?_ | (refine Below.trans ?_ (Below.mono (by assumption) (by first | omega | (simp; done) | (simp; omega)))))
end Go.Proofs.YtdmobgdgeiiicaaGreat
