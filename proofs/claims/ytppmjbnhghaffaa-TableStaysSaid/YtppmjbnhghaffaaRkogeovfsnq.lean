/- Texts put together: TabL. No condition. -/
import Derived.Test.YtppmjbnhghaffaaRgdzhiqvuoi
namespace Go.Proofs.Ytppmjbnhghaffaa
open Go.RowKit Go.Lib

set_option maxRecDepth 100000 in
set_option maxHeartbeats 4000000 in
theorem tadd_clo (x p : Pe) (B : Nat) (w : World) (hP : PeIn w B 0 p) (hB : B < w.heap.size) :
    Calls Try.prog 110 #[.agg #[.bool x.en.ad.v6, .int .u64 x.en.ad.hi, .int .u64 x.en.ad.lo, .int .i64 x.en.port, .bool x.came, .int .i64 x.since, .int .i64 x.pts, .int .i64 x.at_, .int .i64 x.ping, .int .i64 x.work], .pointer (some ⟨B, 0, none⟩)] w fun e w' => e = .returned (.bool (decide (0 < enCmp x.en p.en))) ∧ Below w.heap.size w w' := by
  have HO := Lib.hid (fun W => order_any x p W)
  generalize enCmp x.en p.en = z at *
  have hne : B ≠ w.heap.size := by omega
  obtain ⟨x0, x1, x2, x3, x4, x5, x6, x7, x8, x9⟩ := hP
  simp only [Nat.zero_add] at x0 x1 x2 x3 x4 x5 x6 x7 x8 x9
  go_enter Try.func110, Try.ntmps110
  go_wp2_with (go_at_call 107; (with_reducible refine (HO.out _).mono ?_); rintro e w1 ⟨rfl, b1⟩)
  go_ret
  refine ⟨rfl, ?_⟩
  (repeat (first | with_reducible assumption | with_reducible exact Below.refl _ _ | with_reducible refine Below.setCell ?_ (by first | omega | (simp; done) | (simp; omega)) _ | with_reducible refine Below.alloc ?_ (by first | omega | (simp; done) | (simp; omega)) _ | with_reducible refine Below.drew ?_ | (with_reducible refine Below.trans ?_ (Below.mono (by with_reducible assumption) (by first | omega | (simp; done) | (simp; omega)))) | (refine Below.trans ?_ (Below.mono (by assumption) (by first | omega | (simp; done) | (simp; omega))))))
/-- where the first stands that is behind it -/
theorem fnI_put (l : List Pe) (p : Pe) : fnI l (fun x => decide (0 < enCmp x.en p.en)) = -1 ∧ putI l p = l.length ∨ ∃ i : Nat, fnI l (fun x => decide (0 < enCmp x.en p.en)) = i ∧ putI l p = i ∧ i < l.length := by
  unfold fnI putI
  cases h : l.findIdx? (fun x => decide (0 < enCmp x.en p.en)) with
  | none => exact Or.inl ⟨rfl, rfl⟩
  | some i =>
    rw [List.findIdx?_eq_some_iff_getElem] at h
    exact Or.inr ⟨i, rfl, rfl, h.1⟩
end Go.Proofs.Ytppmjbnhghaffaa
