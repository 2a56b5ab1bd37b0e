/- Texts put together: Ip6S, Addr, AddrB, NetC, NetD. No condition. -/
import Derived.Test.YtnplgagaoeckoaaGreatRkbmpemvqpq
import Derived.Test.YtnplgagaoeckoaaGreatRrjxbgxemzo
import Derived.Test.YtnplgagaoeckoaaGreatRfnolrsgeod
import Derived.Test.YtnplgagaoeckoaaGreatRjocmslpnog
import Derived.Test.YtnplgagaoeckoaaGreatRows
import Derived.WalkKit
import Derived.WalkSpells
import Derived.WalkLawsBesides
import Derived.BigGuardPart
import Derived.BigQuiet
import Derived.Deep.QuietTactic
import Derived.Deep.Light
import Derived.OwnWalk
import Derived.Lib.IndexLaws
import Derived.Lib.IndexBytes
import Derived.Test.YtnplgagaoeckoaaGreatRfgjxawdjfq
import Derived.Test.YtnplgagaoeckoaaGreatRpgazgkwvhb
import Derived.Test.YtnplgagaoeckoaaGreatRluqwkbtqlq
import Derived.Handy
import Derived.Deep.RegionHeld3
import Derived.Deep.DeepCutAuto
import Derived.Laws.OwnMore
import Derived.StillTailTactics
import Derived.BigRegion
import Derived.Deep.WholeRow
import Derived.Test.YtnplgagaoeckoaaGreatRsotvhlhkis
set_option maxRecDepth 100000
set_option linter.unusedSimpArgs false
set_option linter.unusedVariables false
namespace Go.Proofs.YtnplgagaoeckoaaGreat
open Go.RowKit
/-- what a search for a text asks of the world -/
def Cpu (w : World) : Prop := ∃ m, w.cell? ⟨0, 0, none⟩ = some (.int .i64 m)
theorem Cpu.below {w w' : World} (h : Cpu w) (hb : Below w.heap.size w w') : Cpu w' := by
 obtain ⟨m, hm⟩ := h
 have : 0 < w.heap.size := World.block_lt_of_cell? w ⟨0, 0, none⟩ hm
 exact ⟨m, keep hb this hm⟩
theorem Reads.take {w : World} {v : Value} {n : Nat} {xs : List Value} {k : Nat} {a : Option Addr} {c c' : Nat} (h : Reads w v n 1 xs) (hv : v = .slice a n c) (hk : k ≤ n) : Reads w (.slice a k c') k 1 (xs.take k) ∨ c' < k := by
 obtain ⟨h1, h2, h3⟩ := h
 by_cases hc : c' < k
 ·exact Or.inr hc
 ·refine Or.inl ⟨by simp; omega, by omega, ?_⟩
  rcases h3 with ⟨h0, a', c2, hv'⟩ | ⟨hp, b, o, c2, hv', hc2, hlt, hx⟩
  ·exact Or.inl ⟨by omega, a, c', by rw [show k = 0 from by omega]⟩
  ·rw [hv] at hv'; cases hv'
   by_cases h0 : k = 0
   ·subst h0; exact Or.inl ⟨rfl, _, _, rfl⟩
   ·refine Or.inr ⟨by omega, b, o, c', rfl, by omega, hlt, fun j x hj => hx j x ?_⟩
    rw [List.getElem?_take] at hj; split at hj
    ·exact hj
    ·cases hj
theorem Reads.drop {w : World} {b o n c : Nat} {xs : List Value} {k : Nat} {c' : Nat} (h : Reads w (.slice (some ⟨b, o, none⟩) n c) n 1 xs) (hk : k ≤ n) (hc : n - k ≤ c') : Reads w (.slice (some ⟨b, o + k, none⟩) (n - k) c') (n - k) 1 (xs.drop k) := by
 obtain ⟨h1, h2, h3⟩ := h
 refine ⟨by clear h3; rw [List.length_drop, h1]; omega, by omega, ?_⟩
 by_cases h0 : n - k = 0
 ·rw [h0]; exact Or.inl ⟨rfl, _, _, rfl⟩
 ·rcases h3 with ⟨h0, a', c2, hv'⟩ | ⟨hp, b', o', c2, hv', hc2, hlt, hx⟩
  ·omega
  ·cases hv'
   refine Or.inr ⟨by omega, b, o + k, c', rfl, hc, hlt, fun j x hj => ?_⟩
   rw [Nat.add_assoc]
   exact hx (k + j) x (by rw [List.getElem?_drop] at hj; exact hj)
theorem v4_any (n : Int) (h0 : 0 ≤ n) (hn : n < 4294967296) (w : World) : Calls Tryz.prog 131 #[.int .u32 n] w fun e w' => e = .returned (.agg #[.bool false, .int .u64 0, .int .u64 n]) ∧ Below w.heap.size w w' := by
 have q : IntKind.u64.wrap n = n := IntWalk.u64_in _ (by omega)
 go_enter Tryz.func131, Tryz.ntmps131
 go_wp2_with fail
 refine bodyPost_ret (v := (.agg #[.bool false, .int .u64 0, .int .u64 n])) (by simp [results, Tryz.results131, go_sem]) rfl ⟨rfl, by go_grown⟩
theorem adOf_yes {hi lo : Nat} (h1 : (hi : Int) = 0) (h2 : ((lo : Int) / 4294967296 == 65535) = true) : adOf hi lo = ⟨false, 0, lo % 4294967296⟩ := by
 unfold adOf; rw [if_pos ⟨by omega, by rw [beq_iff_eq] at h2; omega⟩]
theorem adOf_no1 {hi lo : Nat} (h1 : ¬ (hi : Int) = 0) : adOf hi lo = ⟨true, hi, lo⟩ := by
 unfold adOf; rw [if_neg (by omega)]
theorem adOf_no2 {hi lo : Nat} (h2 : ((lo : Int) / 4294967296 == 65535) = false) : adOf hi lo = ⟨true, hi, lo⟩ := by
 unfold adOf; rw [if_neg (by rw [beq_eq_false_iff_ne] at h2; omega)]
theorem adV6_any (hi lo : Nat) (h1 : hi < 18446744073709551616) (h2 : lo < 18446744073709551616) (w : World) : Calls Tryz.prog 130 #[.int .u64 hi, .int .u64 lo] w fun e w' => e = .returned (.agg #[.bool (adOf hi lo).v6, .int .u64 (adOf hi lo).hi, .int .u64 (adOf hi lo).lo]) ∧ Below w.heap.size w w' := by
 have ha := and32_u64 lo h2
 go_enter Tryz.func130, Tryz.ntmps130
 go_wp2_with (go_at_call 131; refine (v4_any _ (by omega) (by omega) _).mono ?_; rintro e w1 ⟨rfl, b1⟩; obtain ⟨c1, f1⟩ := bcell b1)
 ·have e := adOf_yes ‹_› ‹_›
  refine bodyPost_ret (v := .agg #[.bool false, .int .u64 0, .int .u64 ((lo : Int) % 4294967296)]) (by simp [results, Tryz.results130, go_sem, c1]) rfl ⟨by rw [e]; rfl, ?_⟩
  exact Below.setCell (Below.setCell (Below.setCell (((Below.refl _ _).alloc (Nat.le_refl _) _).trans (b1.mono (by simp))) (Nat.le_refl _) _) (Nat.le_refl _) _) (Nat.le_refl _) _
 ·have e := adOf_no2 (hi := hi) ‹_›
  obtain rfl : hi = 0 := by omega
  refine bodyPost_ret (v := .agg #[.bool true, .int .u64 0, .int .u64 lo]) (by simp [results, Tryz.results130, go_sem]) rfl ⟨by rw [e]; rfl, by go_grown⟩
 ·have e := adOf_no1 (lo := lo) ‹_›
  refine bodyPost_ret (v := .agg #[.bool true, .int .u64 hi, .int .u64 lo]) (by simp [results, Tryz.results130, go_sem]) rfl ⟨by rw [e], by go_grown⟩
theorem adBits_any (a : Ad) (w : World) : Calls Tryz.prog 108 #[.agg #[.bool a.v6, .int .u64 a.hi, .int .u64 a.lo]] w fun e w' => e = .returned (.int .i64 (adBits a)) ∧ Below w.heap.size w w' := by
 unfold adBits
 go_enter Tryz.func108, Tryz.ntmps108
 go_wp2
 all_goals
  go_ret
  exact ⟨ret_int (by simp [*]), (Below.refl _ _).alloc (Nat.le_refl _) _⟩
theorem refAdBits_any (a : Ad) (w : World) : Calls Tryz.prog 111 #[.agg #[.bool a.v6, .int .u64 a.hi, .int .u64 a.lo]] w fun e w' => e = .returned (.int .i64 (adBits a)) ∧ Below w.heap.size w w' := by
 unfold adBits
 go_enter Tryz.func111, Tryz.ntmps111
 go_wp2
 all_goals
  go_ret
  exact ⟨ret_int (by simp [*]), (Below.refl _ _).alloc (Nat.le_refl _) _⟩
theorem adRight_any (a : Ad) (hf : a.fits) (w : World) : Calls Tryz.prog 120 #[.agg #[.bool a.v6, .int .u64 a.hi, .int .u64 a.lo]] w fun e w' => e = .returned (.bool (adRight a)) ∧ Below w.heap.size w w' := by
 obtain ⟨h1, h2⟩ := hf
 have h6 := right6 a
 have h4 := right4 a
 have q6 := fun W => eqlAd (adOf a.hi a.lo) a W
 have q4 : ∀ W, (binOp .eql 46 (.agg #[.bool false, .int .u64 0, .int .u64 ((a.lo : Int) % 4294967296)]) (.agg #[.bool a.v6, .int .u64 a.hi, .int .u64 a.lo])).run Tryz.prog W = .ok (.bool (decide (ad4 (a.lo % 4294967296) = a))) W := fun W => by
  have := eqlAd (ad4 (a.lo % 4294967296)) a W
  have e : ((ad4 (a.lo % 4294967296)).lo : Int) = (a.lo : Int) % 4294967296 := by unfold ad4; simp only; omega
  rw [e] at this; exact this
 have ha := and32_u64 a.lo h2
 have hw : IntKind.u32.wrap ((a.lo : Int) % 4294967296) = (a.lo : Int) % 4294967296 := IntWalk.u32_in _ (by omega)
 generalize hr : adRight a = r at *
 cases hv : a.v6 with
 | true =>
  rw [h6 hv] at q6
  simp only [hv] at q6
  have H6 := zh q6; clear h6 h4 q4 q6 hr
  go_enter Tryz.func120, Tryz.ntmps120
  go_wp2_with fail
  go_region_held3 (fun w' => w'.cell? ⟨w.heap.size, 0, none⟩ = some (.bool true) ∧ w'.cell? ⟨w.heap.size, 1, none⟩ = some (.int .u64 a.hi) ∧ w'.cell? ⟨w.heap.size, 2, none⟩ = some (.int .u64 a.lo)) (first | go_keep | (simp (disch := omega) [*])) (first | (go_at_call 130; refine (adV6_any a.hi a.lo h1 h2 _).mono ?_; rintro e w1 ⟨rfl, b1⟩; obtain ⟨c1, f1⟩ := bcell b1; have q6 := H6.out))
  go_wp2_with fail
  go_ret
  exact ⟨rfl, Below.trans (Below.drew ((Below.refl _ _).alloc (Nat.le_refl _) _)) (b1.mono (by simp))⟩
 | false =>
  rw [h4 hv] at q4
  simp only [hv] at q4
  have H4 := zh q4; clear h6 h4 q4 q6 hr
  go_enter Tryz.func120, Tryz.ntmps120
  go_wp2_with fail
  go_region_held3 (fun w' => w'.cell? ⟨w.heap.size, 0, none⟩ = some (.bool false) ∧ w'.cell? ⟨w.heap.size, 1, none⟩ = some (.int .u64 a.hi) ∧ w'.cell? ⟨w.heap.size, 2, none⟩ = some (.int .u64 a.lo)) (first | go_keep | (simp (disch := omega) [*])) (first | (go_at_call 131; refine (v4_any _ (by omega) (by omega) _).mono ?_; rintro e w1 ⟨rfl, b1⟩; obtain ⟨c1, f1⟩ := bcell b1; have q4 := H4.out))
  go_wp2_with fail
  go_ret
  exact ⟨rfl, Below.trans (Below.drew ((Below.refl _ _).alloc (Nat.le_refl _) _)) (b1.mono (by simp))⟩
theorem refAdRight_any (a : Ad) (hf : a.fits) (w : World) : Calls Tryz.prog 116 #[.agg #[.bool a.v6, .int .u64 a.hi, .int .u64 a.lo]] w fun e w' => e = .returned (.bool (adRight a)) ∧ Below w.heap.size w w' := by
 have hr : adRight a = if a.v6 = true then !(decide ((a.hi : Int) = 0 ∧ (a.lo : Int) / 4294967296 = 65535)) else decide ((a.hi : Int) = 0 ∧ (a.lo : Int) < 4294967296) := by
  unfold adRight
  have e1 : ((a.hi : Int) = 0 ∧ (a.lo : Int) / 4294967296 = 65535) ↔ (a.hi = 0 ∧ a.lo / 4294967296 = 65535) := by omega
  have e2 : ((a.hi : Int) = 0 ∧ (a.lo : Int) < 4294967296) ↔ (a.hi = 0 ∧ a.lo < 4294967296) := by omega
  simp only [e1, e2]
 have HR := zh hr; clear hr
 have hw : IntKind.u64.wrap ((a.lo : Int) / 4294967296) = (a.lo : Int) / 4294967296 := IntWalk.u64_in _ (by have := hf.2; omega)
 go_enter Tryz.func116, Tryz.ntmps116
 go_wp2_with fail
 all_goals
  go_ret
  refine ⟨?_, by go_grown⟩
  rw [HR.out]
  simp_all
  try rfl

theorem and_high_int (x k : Nat) (hx : x < 4294967296) (hk : k ≤ 32) : bits .and .u64 (x : Int) ((topN k : Nat) / 4294967296 : Int) = (cutW 32 x k : Nat) := by
 have e : ((topN k : Nat) / 4294967296 : Int) = ((topN k / 4294967296 : Nat) : Int) := by omega
 rw [e, bits_and_u64_nat x _ (by omega) (by have := topN_lt k; omega), and_high x k hx hk]

set_option maxHeartbeats 4000000 in
theorem adMask_any (a : Ad) (hf : a.fits) (n : Int) (w : World) : Calls Tryz.prog 121 #[.agg #[.bool a.v6, .int .u64 a.hi, .int .u64 a.lo], .int .i64 n] w fun e w' => e = .returned (.agg #[.bool (adMask a n).v6, .int .u64 (adMask a n).hi, .int .u64 (adMask a n).lo]) ∧ Below w.heap.size w w' := by
 have hR := fun w => adRight_any a hf w
 have hB := fun w => adBits_any a w
 obtain ⟨r, hm⟩ : ∃ r, adMask a n = r := ⟨_, rfl⟩
 have hk : (clampB a n : Int) = min (max n 0) (adBits a) := by unfold clampB; have : 0 ≤ adBits a := by { unfold adBits; split <;> omega }; omega
 rw [hm]
 unfold adMask at hm
 cases hr : adRight a with
 | false =>
  rw [hr] at hR
  rw [hr, if_neg (by simp)] at hm
  subst hm
  have HR := zh hR; clear hR hB hk
  go_enter Tryz.func121, Tryz.ntmps121
  go_wp2_with (go_at_call 120; (with_reducible refine (HR.out _).mono ?_); rintro e w1 ⟨rfl, b1⟩; obtain ⟨c1, f1⟩ := bcell b1; have z1 := b1.size; (try simp at z1); have d1a := fun o => c1 (w.heap.size) o (by first | omega | (simp; done) | (simp; omega)); have q1a := fun o => f1 (w.heap.size) o (by first | omega | (simp; done) | (simp; omega)); have d1b := fun o => c1 (w.heap.size + 1) o (by first | omega | (simp; done) | (simp; omega)); have q1b := fun o => f1 (w.heap.size + 1) o (by first | omega | (simp; done) | (simp; omega)); clear c1 f1)
  refine bodyPost_ret (v := .agg #[.bool false, .int .u64 0, .int .u64 0]) (by simp [results, Tryz.results121, go_sem, d1b]) rfl ⟨rfl, ?_⟩
  (repeat (first | assumption | exact Below.refl _ _ | refine Below.setCell ?_ (by first | omega | (simp; done) | (simp; omega)) _ | refine Below.alloc ?_ (by first | omega | (simp; done) | (simp; omega)) _ | refine Below.drew ?_ | (refine Below.trans ?_ (Below.mono (by assumption) (by first | omega | (simp; done) | (simp; omega))))))
 | true =>
  rw [hr] at hR
  rw [hr, if_pos rfl] at hm
  generalize clampB a n = K at *
  obtain ⟨h1, h2⟩ := hf
  cases hv : a.v6 with
  | true =>
   rw [hv, if_pos rfl] at hm
   rw [adBits_of hv] at hk hB
   rw [hv] at hR hB
   subst hm
   obtain ⟨HR, HB⟩ := zh2 hR hB; clear hR hB
   have hM := fun w => masked_any a.hi a.lo (min (max n 0) 128) h1 h2 (by omega) (by omega) w
   rw [← hk, Int.toNat_natCast, hk] at hM
   have HM := zh hM; clear hM
   go_enter Tryz.func121, Tryz.ntmps121
   go_wp2_with (first | (go_at_call 120; (with_reducible refine (HR.out _).mono ?_); rintro e w1 ⟨rfl, b1⟩; obtain ⟨c1, f1⟩ := bcell b1; have z1 := b1.size; (try simp at z1); have d1a := fun o => c1 (w.heap.size) o (by first | omega | (simp; done) | (simp; omega)); have q1a := fun o => f1 (w.heap.size) o (by first | omega | (simp; done) | (simp; omega)); have d1b := fun o => c1 (w.heap.size + 1) o (by first | omega | (simp; done) | (simp; omega)); have q1b := fun o => f1 (w.heap.size + 1) o (by first | omega | (simp; done) | (simp; omega)); clear c1 f1) | (go_at_call 108; (with_reducible refine (HB.out _).mono ?_); rintro e w2 ⟨rfl, b2⟩; obtain ⟨c2, f2⟩ := bcell b2; have z2 := b2.size; (try simp at z2); have d2a := fun o => c2 (w.heap.size) o (by first | omega | (simp; done) | (simp; omega)); have q2a := fun o => f2 (w.heap.size) o (by first | omega | (simp; done) | (simp; omega)); have d2b := fun o => c2 (w.heap.size + 1) o (by first | omega | (simp; done) | (simp; omega)); have q2b := fun o => f2 (w.heap.size + 1) o (by first | omega | (simp; done) | (simp; omega)); clear c2 f2) | (go_at_call 133; (with_reducible refine (HM.out _).mono ?_); rintro e w3 ⟨rfl, rfl⟩))
   refine bodyPost_ret (v := .agg #[.bool true, .int .u64 (cutW 64 a.hi K : Nat), .int .u64 (cutW 64 a.lo (K - 64) : Nat)]) (by simp [results, Tryz.results121, go_sem, d1a, d1b, d2a, d2b]) rfl ⟨rfl, ?_⟩
   (repeat (first | assumption | exact Below.refl _ _ | refine Below.setCell ?_ (by first | omega | (simp; done) | (simp; omega)) _ | refine Below.alloc ?_ (by first | omega | (simp; done) | (simp; omega)) _ | refine Below.drew ?_ | (refine Below.trans ?_ (Below.mono (by assumption) (by first | omega | (simp; done) | (simp; omega))))))
  | false =>
   rw [hv, if_neg (by simp)] at hm
   rw [adBits_of4 hv] at hk hB
   rw [hv] at hR hB
   unfold adRight at hr
   rw [hv, if_neg (by simp)] at hr
   obtain ⟨g1, g2⟩ := of_decide_eq_true hr
   subst hm
   obtain ⟨HR, HB⟩ := zh2 hR hB; clear hR hB
   have hT := fun w => top_any (min (max n 0) 32) w
   rw [show clamp64 (min (max n 0) 32) = K from by unfold clamp64; omega] at hT
   have HT := zh hT; clear hT
   have e1 := and_high_int a.lo K g2 (by omega)
   have e2 : IntKind.u64.wrap (((topN K : Nat) : Int) / 4294967296) = ((topN K : Nat) : Int) / 4294967296 := IntWalk.u64_in _ (by have := topN_lt K; omega)
   have G1 := zh g1; clear g1 hr
   go_enter Tryz.func121, Tryz.ntmps121
   go_wp2_with (first | (go_at_call 120; (with_reducible refine (HR.out _).mono ?_); rintro e w1 ⟨rfl, b1⟩; obtain ⟨c1, f1⟩ := bcell b1; have z1 := b1.size; (try simp at z1); have d1a := fun o => c1 (w.heap.size) o (by first | omega | (simp; done) | (simp; omega)); have q1a := fun o => f1 (w.heap.size) o (by first | omega | (simp; done) | (simp; omega)); have d1b := fun o => c1 (w.heap.size + 1) o (by first | omega | (simp; done) | (simp; omega)); have q1b := fun o => f1 (w.heap.size + 1) o (by first | omega | (simp; done) | (simp; omega)); clear c1 f1) | (go_at_call 108; (with_reducible refine (HB.out _).mono ?_); rintro e w2 ⟨rfl, b2⟩; obtain ⟨c2, f2⟩ := bcell b2; have z2 := b2.size; (try simp at z2); have d2a := fun o => c2 (w.heap.size) o (by first | omega | (simp; done) | (simp; omega)); have q2a := fun o => f2 (w.heap.size) o (by first | omega | (simp; done) | (simp; omega)); have d2b := fun o => c2 (w.heap.size + 1) o (by first | omega | (simp; done) | (simp; omega)); have q2b := fun o => f2 (w.heap.size + 1) o (by first | omega | (simp; done) | (simp; omega)); clear c2 f2))
   go_region_with (go_at_call 132; (with_reducible refine (HT.out _).mono ?_); rintro e w4 ⟨rfl, rfl⟩)
   all_goals go_wp2_with fail
   all_goals
    refine bodyPost_ret (v := .agg #[.bool false, .int .u64 a.hi, .int .u64 (cutW 32 a.lo K : Nat)]) (by simp [results, Tryz.results121, go_sem, d1a, d1b, d2a, d2b]) rfl ⟨by rw [G1.out], ?_⟩
    (repeat (first | assumption | exact Below.refl _ _ | refine Below.setCell ?_ (by first | omega | (simp; done) | (simp; omega)) _ | refine Below.alloc ?_ (by first | omega | (simp; done) | (simp; omega)) _ | refine Below.drew ?_ | (refine Below.trans ?_ (Below.mono (by assumption) (by first | omega | (simp; done) | (simp; omega))))))

set_option maxHeartbeats 4000000 in
theorem refAdMask_any (a : Ad) (hf : a.fits) (n : Int) (w : World) : Calls Tryz.prog 123 #[.agg #[.bool a.v6, .int .u64 a.hi, .int .u64 a.lo], .int .i64 n] w fun e w' => e = .returned (.agg #[.bool (adMask a n).v6, .int .u64 (adMask a n).hi, .int .u64 (adMask a n).lo]) ∧ Below w.heap.size w w' := by
 have hR := fun w => refAdRight_any a hf w
 have hB := fun w => refAdBits_any a w
 obtain ⟨r, hm⟩ : ∃ r, adMask a n = r := ⟨_, rfl⟩
 have hk : (clampB a n : Int) = min (max n 0) (adBits a) := by unfold clampB; have : 0 ≤ adBits a := by { unfold adBits; split <;> omega }; omega
 rw [hm]
 unfold adMask at hm
 cases hr : adRight a with
 | false =>
  rw [hr] at hR
  rw [hr, if_neg (by simp)] at hm
  subst hm
  have HR := zh hR; clear hR hB hk
  go_enter Tryz.func123, Tryz.ntmps123
  go_wp2_with (go_at_call 116; (with_reducible refine (HR.out _).mono ?_); rintro e w1 ⟨rfl, b1⟩; obtain ⟨c1, f1⟩ := bcell b1; have z1 := b1.size; (try simp at z1); have d1a := fun o => c1 (w.heap.size) o (by first | omega | (simp; done) | (simp; omega)); have q1a := fun o => f1 (w.heap.size) o (by first | omega | (simp; done) | (simp; omega)); have d1b := fun o => c1 (w.heap.size + 1) o (by first | omega | (simp; done) | (simp; omega)); have q1b := fun o => f1 (w.heap.size + 1) o (by first | omega | (simp; done) | (simp; omega)); clear c1 f1)
  refine bodyPost_ret (v := .agg #[.bool false, .int .u64 0, .int .u64 0]) (by simp [results, Tryz.results123, go_sem, *]) rfl ⟨rfl, ?_⟩
  (repeat (first | assumption | exact Below.refl _ _ | refine Below.setCell ?_ (by first | omega | (simp; done) | (simp; omega)) _ | refine Below.alloc ?_ (by first | omega | (simp; done) | (simp; omega)) _ | refine Below.drew ?_ | (refine Below.trans ?_ (Below.mono (by assumption) (by first | omega | (simp; done) | (simp; omega))))))
 | true =>
  rw [hr] at hR
  rw [hr, if_pos rfl] at hm
  generalize clampB a n = K at *
  obtain ⟨h1, h2⟩ := hf
  cases hv : a.v6 with
  | true =>
   rw [hv, if_pos rfl] at hm
   rw [adBits_of hv] at hk hB
   rw [hv] at hR hB
   subst hm
   obtain ⟨HR, HB⟩ := zh2 hR hB; clear hR hB
   have hC := zh (fun (M : Int) (h : M = K) (w : World) => (by rw [h]; exact refCut_any a.hi a.lo K h1 h2 (by omega) w : Calls Tryz.prog 134 #[.int .u64 a.hi, .int .u64 a.lo, .int .i64 M] w fun e w' => e = .returned (.tuple #[.int .u64 (cutW 64 a.hi K : Nat), .int .u64 (cutW 64 a.lo (K - 64) : Nat)]) ∧ w = w'))
   rcases Int.lt_or_le n 0 with hn | hn
   ·have HC := zh (hC.out 0 (by omega)); clear hC
    go_enter Tryz.func123, Tryz.ntmps123
    go_wp2_with (first | (go_at_call 116; (with_reducible refine (HR.out _).mono ?_); rintro e w1 ⟨rfl, b1⟩; obtain ⟨c1, f1⟩ := bcell b1; have z1 := b1.size; (try simp at z1); have d1a := fun o => c1 (w.heap.size) o (by first | omega | (simp; done) | (simp; omega)); have q1a := fun o => f1 (w.heap.size) o (by first | omega | (simp; done) | (simp; omega)); have d1b := fun o => c1 (w.heap.size + 1) o (by first | omega | (simp; done) | (simp; omega)); have q1b := fun o => f1 (w.heap.size + 1) o (by first | omega | (simp; done) | (simp; omega)); clear c1 f1) | (go_at_call 111; (with_reducible refine (HB.out _).mono ?_); rintro e w2 ⟨rfl, b2⟩; obtain ⟨c2, f2⟩ := bcell b2; have z2 := b2.size; (try simp at z2); have d2a := fun o => c2 (w.heap.size) o (by first | omega | (simp; done) | (simp; omega)); have q2a := fun o => f2 (w.heap.size) o (by first | omega | (simp; done) | (simp; omega)); have d2b := fun o => c2 (w.heap.size + 1) o (by first | omega | (simp; done) | (simp; omega)); have q2b := fun o => f2 (w.heap.size + 1) o (by first | omega | (simp; done) | (simp; omega)); clear c2 f2) | (go_at_call 134; (with_reducible refine (HC.out _).mono ?_); rintro e w3 ⟨rfl, rfl⟩))
    refine bodyPost_ret (v := .agg #[.bool true, .int .u64 (cutW 64 a.hi K : Nat), .int .u64 (cutW 64 a.lo (K - 64) : Nat)]) (by simp [results, Tryz.results123, go_sem, *]) rfl ⟨rfl, ?_⟩
    (repeat (first | assumption | exact Below.refl _ _ | refine Below.setCell ?_ (by first | omega | (simp; done) | (simp; omega)) _ | refine Below.alloc ?_ (by first | omega | (simp; done) | (simp; omega)) _ | refine Below.drew ?_ | (refine Below.trans ?_ (Below.mono (by assumption) (by first | omega | (simp; done) | (simp; omega))))))
   rcases Int.lt_or_le 128 n with hn2 | hn2
   ·have HC := zh (hC.out 128 (by omega)); clear hC
    go_enter Tryz.func123, Tryz.ntmps123
    go_wp2_with (first | (go_at_call 116; (with_reducible refine (HR.out _).mono ?_); rintro e w1 ⟨rfl, b1⟩; obtain ⟨c1, f1⟩ := bcell b1; have z1 := b1.size; (try simp at z1); have d1a := fun o => c1 (w.heap.size) o (by first | omega | (simp; done) | (simp; omega)); have q1a := fun o => f1 (w.heap.size) o (by first | omega | (simp; done) | (simp; omega)); have d1b := fun o => c1 (w.heap.size + 1) o (by first | omega | (simp; done) | (simp; omega)); have q1b := fun o => f1 (w.heap.size + 1) o (by first | omega | (simp; done) | (simp; omega)); clear c1 f1) | (go_at_call 111; (with_reducible refine (HB.out _).mono ?_); rintro e w2 ⟨rfl, b2⟩; obtain ⟨c2, f2⟩ := bcell b2; have z2 := b2.size; (try simp at z2); have d2a := fun o => c2 (w.heap.size) o (by first | omega | (simp; done) | (simp; omega)); have q2a := fun o => f2 (w.heap.size) o (by first | omega | (simp; done) | (simp; omega)); have d2b := fun o => c2 (w.heap.size + 1) o (by first | omega | (simp; done) | (simp; omega)); have q2b := fun o => f2 (w.heap.size + 1) o (by first | omega | (simp; done) | (simp; omega)); clear c2 f2) | (go_at_call 134; (with_reducible refine (HC.out _).mono ?_); rintro e w3 ⟨rfl, rfl⟩))
    refine bodyPost_ret (v := .agg #[.bool true, .int .u64 (cutW 64 a.hi K : Nat), .int .u64 (cutW 64 a.lo (K - 64) : Nat)]) (by simp [results, Tryz.results123, go_sem, *]) rfl ⟨rfl, ?_⟩
    (repeat (first | assumption | exact Below.refl _ _ | refine Below.setCell ?_ (by first | omega | (simp; done) | (simp; omega)) _ | refine Below.alloc ?_ (by first | omega | (simp; done) | (simp; omega)) _ | refine Below.drew ?_ | (refine Below.trans ?_ (Below.mono (by assumption) (by first | omega | (simp; done) | (simp; omega))))))
   ·have HC := zh (hC.out n (by omega)); clear hC
    go_enter Tryz.func123, Tryz.ntmps123
    go_wp2_with (first | (go_at_call 116; (with_reducible refine (HR.out _).mono ?_); rintro e w1 ⟨rfl, b1⟩; obtain ⟨c1, f1⟩ := bcell b1; have z1 := b1.size; (try simp at z1); have d1a := fun o => c1 (w.heap.size) o (by first | omega | (simp; done) | (simp; omega)); have q1a := fun o => f1 (w.heap.size) o (by first | omega | (simp; done) | (simp; omega)); have d1b := fun o => c1 (w.heap.size + 1) o (by first | omega | (simp; done) | (simp; omega)); have q1b := fun o => f1 (w.heap.size + 1) o (by first | omega | (simp; done) | (simp; omega)); clear c1 f1) | (go_at_call 111; (with_reducible refine (HB.out _).mono ?_); rintro e w2 ⟨rfl, b2⟩; obtain ⟨c2, f2⟩ := bcell b2; have z2 := b2.size; (try simp at z2); have d2a := fun o => c2 (w.heap.size) o (by first | omega | (simp; done) | (simp; omega)); have q2a := fun o => f2 (w.heap.size) o (by first | omega | (simp; done) | (simp; omega)); have d2b := fun o => c2 (w.heap.size + 1) o (by first | omega | (simp; done) | (simp; omega)); have q2b := fun o => f2 (w.heap.size + 1) o (by first | omega | (simp; done) | (simp; omega)); clear c2 f2) | (go_at_call 134; (with_reducible refine (HC.out _).mono ?_); rintro e w3 ⟨rfl, rfl⟩))
    refine bodyPost_ret (v := .agg #[.bool true, .int .u64 (cutW 64 a.hi K : Nat), .int .u64 (cutW 64 a.lo (K - 64) : Nat)]) (by simp [results, Tryz.results123, go_sem, *]) rfl ⟨rfl, ?_⟩
    (repeat (first | assumption | exact Below.refl _ _ | refine Below.setCell ?_ (by first | omega | (simp; done) | (simp; omega)) _ | refine Below.alloc ?_ (by first | omega | (simp; done) | (simp; omega)) _ | refine Below.drew ?_ | (refine Below.trans ?_ (Below.mono (by assumption) (by first | omega | (simp; done) | (simp; omega))))))
  | false =>
   rw [hv, if_neg (by simp)] at hm
   rw [adBits_of4 hv] at hk hB
   rw [hv] at hR hB
   unfold adRight at hr
   rw [hv, if_neg (by simp)] at hr
   obtain ⟨g1, g2⟩ := of_decide_eq_true hr
   clear g1 hr
   subst hm
   obtain ⟨HR, HB⟩ := zh2 hR hB; clear hR hB
   have hC := zh (fun (M : Int) (h : M = ((96 + K : Nat) : Int)) (w : World) => (by rw [h, show cutW 32 a.lo K = cutW 64 a.lo (96 + K - 64) from by unfold cutW; rw [show 64 - (96 + K - 64) = 32 - K from by omega]]; exact refCut_any 0 a.lo (96 + K) (by omega) h2 (by omega) w : Calls Tryz.prog 134 #[.int .u64 0, .int .u64 a.lo, .int .i64 M] w fun e w' => e = .returned (.tuple #[.int .u64 (cutW 64 0 (96 + K) : Nat), .int .u64 (cutW 32 a.lo K : Nat)]) ∧ w = w'))
   rcases Int.lt_or_le n 0 with hn | hn
   ·have HC := zh (hC.out 96 (by omega)); clear hC
    go_enter Tryz.func123, Tryz.ntmps123
    go_wp2_with (first | (go_at_call 116; (with_reducible refine (HR.out _).mono ?_); rintro e w1 ⟨rfl, b1⟩; obtain ⟨c1, f1⟩ := bcell b1; have z1 := b1.size; (try simp at z1); have d1a := fun o => c1 (w.heap.size) o (by first | omega | (simp; done) | (simp; omega)); have q1a := fun o => f1 (w.heap.size) o (by first | omega | (simp; done) | (simp; omega)); have d1b := fun o => c1 (w.heap.size + 1) o (by first | omega | (simp; done) | (simp; omega)); have q1b := fun o => f1 (w.heap.size + 1) o (by first | omega | (simp; done) | (simp; omega)); clear c1 f1) | (go_at_call 111; (with_reducible refine (HB.out _).mono ?_); rintro e w2 ⟨rfl, b2⟩; obtain ⟨c2, f2⟩ := bcell b2; have z2 := b2.size; (try simp at z2); have d2a := fun o => c2 (w.heap.size) o (by first | omega | (simp; done) | (simp; omega)); have q2a := fun o => f2 (w.heap.size) o (by first | omega | (simp; done) | (simp; omega)); have d2b := fun o => c2 (w.heap.size + 1) o (by first | omega | (simp; done) | (simp; omega)); have q2b := fun o => f2 (w.heap.size + 1) o (by first | omega | (simp; done) | (simp; omega)); clear c2 f2) | (go_at_call 134; (with_reducible refine (HC.out _).mono ?_); rintro e w3 ⟨rfl, rfl⟩))
    refine bodyPost_ret (v := .agg #[.bool false, .int .u64 0, .int .u64 (cutW 32 a.lo K : Nat)]) (by simp [results, Tryz.results123, go_sem, *]) rfl ⟨rfl, ?_⟩
    (repeat (first | assumption | exact Below.refl _ _ | refine Below.setCell ?_ (by first | omega | (simp; done) | (simp; omega)) _ | refine Below.alloc ?_ (by first | omega | (simp; done) | (simp; omega)) _ | refine Below.drew ?_ | (refine Below.trans ?_ (Below.mono (by assumption) (by first | omega | (simp; done) | (simp; omega))))))
   rcases Int.lt_or_le 32 n with hn2 | hn2
   ·have HC := zh (hC.out 128 (by omega)); clear hC
    go_enter Tryz.func123, Tryz.ntmps123
    go_wp2_with (first | (go_at_call 116; (with_reducible refine (HR.out _).mono ?_); rintro e w1 ⟨rfl, b1⟩; obtain ⟨c1, f1⟩ := bcell b1; have z1 := b1.size; (try simp at z1); have d1a := fun o => c1 (w.heap.size) o (by first | omega | (simp; done) | (simp; omega)); have q1a := fun o => f1 (w.heap.size) o (by first | omega | (simp; done) | (simp; omega)); have d1b := fun o => c1 (w.heap.size + 1) o (by first | omega | (simp; done) | (simp; omega)); have q1b := fun o => f1 (w.heap.size + 1) o (by first | omega | (simp; done) | (simp; omega)); clear c1 f1) | (go_at_call 111; (with_reducible refine (HB.out _).mono ?_); rintro e w2 ⟨rfl, b2⟩; obtain ⟨c2, f2⟩ := bcell b2; have z2 := b2.size; (try simp at z2); have d2a := fun o => c2 (w.heap.size) o (by first | omega | (simp; done) | (simp; omega)); have q2a := fun o => f2 (w.heap.size) o (by first | omega | (simp; done) | (simp; omega)); have d2b := fun o => c2 (w.heap.size + 1) o (by first | omega | (simp; done) | (simp; omega)); have q2b := fun o => f2 (w.heap.size + 1) o (by first | omega | (simp; done) | (simp; omega)); clear c2 f2) | (go_at_call 134; (with_reducible refine (HC.out _).mono ?_); rintro e w3 ⟨rfl, rfl⟩))
    refine bodyPost_ret (v := .agg #[.bool false, .int .u64 0, .int .u64 (cutW 32 a.lo K : Nat)]) (by simp [results, Tryz.results123, go_sem, *]) rfl ⟨rfl, ?_⟩
    (repeat (first | assumption | exact Below.refl _ _ | refine Below.setCell ?_ (by first | omega | (simp; done) | (simp; omega)) _ | refine Below.alloc ?_ (by first | omega | (simp; done) | (simp; omega)) _ | refine Below.drew ?_ | (refine Below.trans ?_ (Below.mono (by assumption) (by first | omega | (simp; done) | (simp; omega))))))
   ·have HC := zh (hC.out (96 + n) (by omega)); clear hC
    go_enter Tryz.func123, Tryz.ntmps123
    go_wp2_with (first | (go_at_call 116; (with_reducible refine (HR.out _).mono ?_); rintro e w1 ⟨rfl, b1⟩; obtain ⟨c1, f1⟩ := bcell b1; have z1 := b1.size; (try simp at z1); have d1a := fun o => c1 (w.heap.size) o (by first | omega | (simp; done) | (simp; omega)); have q1a := fun o => f1 (w.heap.size) o (by first | omega | (simp; done) | (simp; omega)); have d1b := fun o => c1 (w.heap.size + 1) o (by first | omega | (simp; done) | (simp; omega)); have q1b := fun o => f1 (w.heap.size + 1) o (by first | omega | (simp; done) | (simp; omega)); clear c1 f1) | (go_at_call 111; (with_reducible refine (HB.out _).mono ?_); rintro e w2 ⟨rfl, b2⟩; obtain ⟨c2, f2⟩ := bcell b2; have z2 := b2.size; (try simp at z2); have d2a := fun o => c2 (w.heap.size) o (by first | omega | (simp; done) | (simp; omega)); have q2a := fun o => f2 (w.heap.size) o (by first | omega | (simp; done) | (simp; omega)); have d2b := fun o => c2 (w.heap.size + 1) o (by first | omega | (simp; done) | (simp; omega)); have q2b := fun o => f2 (w.heap.size + 1) o (by first | omega | (simp; done) | (simp; omega)); clear c2 f2) | (go_at_call 134; (with_reducible refine (HC.out _).mono ?_); rintro e w3 ⟨rfl, rfl⟩))
    refine bodyPost_ret (v := .agg #[.bool false, .int .u64 0, .int .u64 (cutW 32 a.lo K : Nat)]) (by simp [results, Tryz.results123, go_sem, *]) rfl ⟨rfl, ?_⟩
    (repeat (first | assumption | exact Below.refl _ _ | refine Below.setCell ?_ (by first | omega | (simp; done) | (simp; omega)) _ | refine Below.alloc ?_ (by first | omega | (simp; done) | (simp; omega)) _ | refine Below.drew ?_ | (refine Below.trans ?_ (Below.mono (by assumption) (by first | omega | (simp; done) | (simp; omega))))))
end Go.Proofs.YtnplgagaoeckoaaGreat
