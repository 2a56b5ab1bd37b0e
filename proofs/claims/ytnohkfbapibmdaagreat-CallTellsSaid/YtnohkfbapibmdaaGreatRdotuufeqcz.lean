/- Texts put together: NetC. No condition. -/
import Derived.Test.YtnohkfbapibmdaaGreatRhhfcktqkyg
import Derived.Test.YtnohkfbapibmdaaGreatRrycftbcloq
import Derived.BigRegion
namespace Go.Proofs.YtnohkfbapibmdaaGreat
open Go.RowKit
set_option linter.unusedSimpArgs false
set_option linter.unusedVariables false

theorem ntIff (a b : Nt) : a = b ↔ a.ad.v6 = b.ad.v6 ∧ (a.ad.hi : Int) = b.ad.hi ∧ (a.ad.lo : Int) = b.ad.lo ∧ a.bits = b.bits := ⟨fun h => by subst h; exact ⟨rfl, rfl, rfl, rfl⟩, fun ⟨h1, h2, h3, h4⟩ => Nt.ext' (Ad.ext' h1 (by omega) (by omega)) h4⟩
theorem eqlNt (a b : Nt) (W : World) : (binOp .eql 28 (.agg #[.bool a.ad.v6, .int .u64 a.ad.hi, .int .u64 a.ad.lo, .int .i64 a.bits]) (.agg #[.bool b.ad.v6, .int .u64 b.ad.hi, .int .u64 b.ad.lo, .int .i64 b.bits])).run Tryz.prog W = .ok (.bool (decide (a = b))) W := by
  go_simp
  by_cases h : a = b
  · have e := (ntIff a b).1 h
    simp [e, h]
  · have e := fun e => h ((ntIff a b).2 e)
    simp only [h]
    repeat' split
    all_goals simp_all
theorem and_high_int (x k : Nat) (hx : x < 4294967296) (hk : k ≤ 32) : bits .and .u64 (x : Int) ((topN k : Nat) / 4294967296 : Int) = (cutW 32 x k : Nat) := by
  have e : ((topN k : Nat) / 4294967296 : Int) = ((topN k / 4294967296 : Nat) : Int) := by omega
  rw [e, bits_and_u64_nat x _ (by omega) (by have := topN_lt k; omega), and_high x k hx hk]

set_option maxRecDepth 100000 in
set_option maxHeartbeats 4000000 in
theorem adMask_any (a : Ad) (hf : a.fits) (n : Int) (w : World) : Calls Tryz.prog 101 #[.agg #[.bool a.v6, .int .u64 a.hi, .int .u64 a.lo], .int .i64 n] w fun e w' => e = .returned (.agg #[.bool (adMask a n).v6, .int .u64 (adMask a n).hi, .int .u64 (adMask a n).lo]) ∧ Below w.heap.size w w' := by
  have hR := fun w => adRight_any a hf w
  have hB := fun w => adBits_any a w
  obtain ⟨r, hm⟩ : ∃ r, adMask a n = r := ⟨_, rfl⟩
  have hk : (clampB a n : Int) = min (max n 0) (adBits a) := by unfold clampB; have : 0 ≤ adBits a := by { unfold adBits; split <;> omega }; omega
  rw [hm]
  unfold adMask at hm
  cases hr : adRight a with
  | false =>
    rw [hr] at hR
    rw [hr, if_neg (by simp)] at hm
    subst hm
    have HR := Lib.hid hR; clear hR hB hk
    go_enter Tryz.func101, Tryz.ntmps101
    go_wp2_with (go_at_call 53; (with_reducible refine (HR.out _).mono ?_); rintro e w1 ⟨rfl, b1⟩; obtain ⟨c1, f1⟩ := bcell b1; have z1 := b1.size; (try simp at z1); have d1a := fun o => c1 (w.heap.size) o (by first | omega | (simp; done) | (simp; omega)); have q1a := fun o => f1 (w.heap.size) o (by first | omega | (simp; done) | (simp; omega)); have d1b := fun o => c1 (w.heap.size + 1) o (by first | omega | (simp; done) | (simp; omega)); have q1b := fun o => f1 (w.heap.size + 1) o (by first | omega | (simp; done) | (simp; omega)); clear c1 f1)
    refine bodyPost_ret (v := .agg #[.bool false, .int .u64 0, .int .u64 0]) (by simp [results, Tryz.results101, go_sem, d1b]) rfl ⟨rfl, ?_⟩
    (repeat (first | assumption | exact Below.refl _ _ | refine Below.setCell ?_ (by first | omega | (simp; done) | (simp; omega)) _ | refine Below.alloc ?_ (by first | omega | (simp; done) | (simp; omega)) _ | refine Below.drew ?_ | (refine Below.trans ?_ (Below.mono (by assumption) (by first | omega | (simp; done) | (simp; omega))))))
  | true =>
    rw [hr] at hR
    rw [hr, if_pos rfl] at hm
    generalize clampB a n = K at *
    obtain ⟨h1, h2⟩ := hf
    cases hv : a.v6 with
    | true =>
      rw [hv, if_pos rfl] at hm
      rw [adBits_of hv] at hk hB
      rw [hv] at hR hB
      subst hm
      have HR := Lib.hid hR; have HB := Lib.hid hB; clear hR hB
      have hM := fun w => masked_any a.hi a.lo (min (max n 0) 128) h1 h2 (by omega) (by omega) w
      rw [← hk, Int.toNat_natCast, hk] at hM
      have HM := Lib.hid hM; clear hM
      go_enter Tryz.func101, Tryz.ntmps101
      go_wp2_with (first | (go_at_call 53; (with_reducible refine (HR.out _).mono ?_); rintro e w1 ⟨rfl, b1⟩; obtain ⟨c1, f1⟩ := bcell b1; have z1 := b1.size; (try simp at z1); have d1a := fun o => c1 (w.heap.size) o (by first | omega | (simp; done) | (simp; omega)); have q1a := fun o => f1 (w.heap.size) o (by first | omega | (simp; done) | (simp; omega)); have d1b := fun o => c1 (w.heap.size + 1) o (by first | omega | (simp; done) | (simp; omega)); have q1b := fun o => f1 (w.heap.size + 1) o (by first | omega | (simp; done) | (simp; omega)); clear c1 f1) | (go_at_call 97; (with_reducible refine (HB.out _).mono ?_); rintro e w2 ⟨rfl, b2⟩; obtain ⟨c2, f2⟩ := bcell b2; have z2 := b2.size; (try simp at z2); have d2a := fun o => c2 (w.heap.size) o (by first | omega | (simp; done) | (simp; omega)); have q2a := fun o => f2 (w.heap.size) o (by first | omega | (simp; done) | (simp; omega)); have d2b := fun o => c2 (w.heap.size + 1) o (by first | omega | (simp; done) | (simp; omega)); have q2b := fun o => f2 (w.heap.size + 1) o (by first | omega | (simp; done) | (simp; omega)); clear c2 f2) | (go_at_call 100; (with_reducible refine (HM.out _).mono ?_); rintro e w3 ⟨rfl, rfl⟩))
      refine bodyPost_ret (v := .agg #[.bool true, .int .u64 (cutW 64 a.hi K : Nat), .int .u64 (cutW 64 a.lo (K - 64) : Nat)]) (by simp [results, Tryz.results101, go_sem, d1a, d1b, d2a, d2b]) rfl ⟨rfl, ?_⟩
      (repeat (first | assumption | exact Below.refl _ _ | refine Below.setCell ?_ (by first | omega | (simp; done) | (simp; omega)) _ | refine Below.alloc ?_ (by first | omega | (simp; done) | (simp; omega)) _ | refine Below.drew ?_ | (refine Below.trans ?_ (Below.mono (by assumption) (by first | omega | (simp; done) | (simp; omega))))))
    | false =>
      rw [hv, if_neg (by simp)] at hm
      rw [adBits_of4 hv] at hk hB
      rw [hv] at hR hB
      unfold adRight at hr
      rw [hv, if_neg (by simp)] at hr
      obtain ⟨g1, g2⟩ := of_decide_eq_true hr
      subst hm
      have HR := Lib.hid hR; have HB := Lib.hid hB; clear hR hB
      have hT := fun w => top_any (min (max n 0) 32) w
      rw [show clamp64 (min (max n 0) 32) = K from by unfold clamp64; omega] at hT
      have HT := Lib.hid hT; clear hT
      have e1 := and_high_int a.lo K g2 (by omega)
      have e2 : IntKind.u64.wrap (((topN K : Nat) : Int) / 4294967296) = ((topN K : Nat) : Int) / 4294967296 := IntWalk.u64_in _ (by have := topN_lt K; omega)
      have G1 := Lib.hid g1; clear g1 hr
      go_enter Tryz.func101, Tryz.ntmps101
      go_wp2_with (first | (go_at_call 53; (with_reducible refine (HR.out _).mono ?_); rintro e w1 ⟨rfl, b1⟩; obtain ⟨c1, f1⟩ := bcell b1; have z1 := b1.size; (try simp at z1); have d1a := fun o => c1 (w.heap.size) o (by first | omega | (simp; done) | (simp; omega)); have q1a := fun o => f1 (w.heap.size) o (by first | omega | (simp; done) | (simp; omega)); have d1b := fun o => c1 (w.heap.size + 1) o (by first | omega | (simp; done) | (simp; omega)); have q1b := fun o => f1 (w.heap.size + 1) o (by first | omega | (simp; done) | (simp; omega)); clear c1 f1) | (go_at_call 97; (with_reducible refine (HB.out _).mono ?_); rintro e w2 ⟨rfl, b2⟩; obtain ⟨c2, f2⟩ := bcell b2; have z2 := b2.size; (try simp at z2); have d2a := fun o => c2 (w.heap.size) o (by first | omega | (simp; done) | (simp; omega)); have q2a := fun o => f2 (w.heap.size) o (by first | omega | (simp; done) | (simp; omega)); have d2b := fun o => c2 (w.heap.size + 1) o (by first | omega | (simp; done) | (simp; omega)); have q2b := fun o => f2 (w.heap.size + 1) o (by first | omega | (simp; done) | (simp; omega)); clear c2 f2))
      go_region_with (go_at_call 114; (with_reducible refine (HT.out _).mono ?_); rintro e w4 ⟨rfl, rfl⟩)
      all_goals go_wp2_with fail
      all_goals
        refine bodyPost_ret (v := .agg #[.bool false, .int .u64 a.hi, .int .u64 (cutW 32 a.lo K : Nat)]) (by simp [results, Tryz.results101, go_sem, d1a, d1b, d2a, d2b]) rfl ⟨by rw [G1.out], ?_⟩
        (repeat (first | assumption | exact Below.refl _ _ | refine Below.setCell ?_ (by first | omega | (simp; done) | (simp; omega)) _ | refine Below.alloc ?_ (by first | omega | (simp; done) | (simp; omega)) _ | refine Below.drew ?_ | (refine Below.trans ?_ (Below.mono (by assumption) (by first | omega | (simp; done) | (simp; omega))))))
end Go.Proofs.YtnohkfbapibmdaaGreat
