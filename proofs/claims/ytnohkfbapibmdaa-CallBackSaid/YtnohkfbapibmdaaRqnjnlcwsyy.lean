/- Texts put together: AddrB. No condition. -/
import Derived.Test.YtnohkfbapibmdaaRwofutmhjkh
namespace Go.Proofs.Ytnohkfbapibmdaa
open Go.RowKit

set_option maxRecDepth 100000 in
theorem adRight_any (a : Ad) (hf : a.fits) (w : World) : Calls Try.prog 135 #[.agg #[.bool a.v6, .int .u64 a.hi, .int .u64 a.lo]] w fun e w' => e = .returned (.bool (adRight a)) ∧ Below w.heap.size w w' := by
  obtain ⟨h1, h2⟩ := hf
  have h6 := right6 a
  have h4 := right4 a
  have q6 := fun W => eqlAd (adOf a.hi a.lo) a W
  have q4 : ∀ W, (binOp .eql 25 (.agg #[.bool false, .int .u64 0, .int .u64 ((a.lo : Int) % 4294967296)]) (.agg #[.bool a.v6, .int .u64 a.hi, .int .u64 a.lo])).run Try.prog W = .ok (.bool (decide (ad4 (a.lo % 4294967296) = a))) W := fun W => by
    have := eqlAd (ad4 (a.lo % 4294967296)) a W
    have e : ((ad4 (a.lo % 4294967296)).lo : Int) = (a.lo : Int) % 4294967296 := by unfold ad4; simp only; omega
    rw [e] at this; exact this
  have ha := and32_u64 a.lo h2
  have hw : IntKind.u32.wrap ((a.lo : Int) % 4294967296) = (a.lo : Int) % 4294967296 := IntWalk.u32_in _ (by omega)
  generalize hr : adRight a = r at *
  cases hv : a.v6 with
  | true =>
    rw [h6 hv] at q6
    simp only [hv] at q6
    have H6 := Lib.hid q6; clear h6 h4 q4 q6 hr
    go_enter Try.func135, Try.ntmps135
    go_wp2_with fail
    go_region_held3 (fun w' => w'.cell? ⟨w.heap.size, 0, none⟩ = some (.bool true) ∧ w'.cell? ⟨w.heap.size, 1, none⟩ = some (.int .u64 a.hi) ∧ w'.cell? ⟨w.heap.size, 2, none⟩ = some (.int .u64 a.lo)) (first | go_keep | (simp (disch := omega) [*])) (first | (go_at_call 172; refine (adV6_any a.hi a.lo h1 h2 _).mono ?_; rintro e w1 ⟨rfl, b1⟩; obtain ⟨c1, f1⟩ := bcell b1; have q6 := H6.out))
    go_wp2_with fail
    go_ret
    exact ⟨rfl, Below.trans (Below.drew ((Below.refl _ _).alloc (Nat.le_refl _) _)) (b1.mono (by simp))⟩
  | false =>
    rw [h4 hv] at q4
    simp only [hv] at q4
    have H4 := Lib.hid q4; clear h6 h4 q4 q6 hr
    go_enter Try.func135, Try.ntmps135
    go_wp2_with fail
    go_region_held3 (fun w' => w'.cell? ⟨w.heap.size, 0, none⟩ = some (.bool false) ∧ w'.cell? ⟨w.heap.size, 1, none⟩ = some (.int .u64 a.hi) ∧ w'.cell? ⟨w.heap.size, 2, none⟩ = some (.int .u64 a.lo)) (first | go_keep | (simp (disch := omega) [*])) (first | (go_at_call 173; refine (v4_any _ (by omega) (by omega) _).mono ?_; rintro e w1 ⟨rfl, b1⟩; obtain ⟨c1, f1⟩ := bcell b1; have q4 := H4.out))
    go_wp2_with fail
    go_ret
    exact ⟨rfl, Below.trans (Below.drew ((Below.refl _ _).alloc (Nat.le_refl _) _)) (b1.mono (by simp))⟩
end Go.Proofs.Ytnohkfbapibmdaa
