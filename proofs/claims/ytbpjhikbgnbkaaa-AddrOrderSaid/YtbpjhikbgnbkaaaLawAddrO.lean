/- The law of the order of addresses. -/
import Derived.Test.YtbpjhikbgnbkaaaLawAddr
namespace Go.Proofs.Ytbpjhikbgnbkaaa
open Go.RowKit

theorem cell3 (w : World) (A B : Obj) (l : List Value) (T : TypeId) (j : Nat) (v : Value) (h : l[j]? = some v) : (((w.alloc A).alloc B).alloc (.cells l.toArray T)).drew.cell? ⟨w.heap.size + 1 + 1, j, none⟩ = some v := by
  have := (BlockIs.new ((w.alloc A).alloc B) l T).cell (i := j) h
  have e : ((w.alloc A).alloc B).heap.size = w.heap.size + 1 + 1 := by simp
  rw [e] at this; exact this
set_option maxRecDepth 100000 in
set_option maxHeartbeats 40000000 in
theorem addrOrder_any (a b c : Ad) (w : World) (hc : Cpu w) : Calls Try.prog 13 #[.agg #[.bool a.v6, .int .u64 a.hi, .int .u64 a.lo], .agg #[.bool b.v6, .int .u64 b.hi, .int .u64 b.lo], .agg #[.bool c.v6, .int .u64 c.hi, .int .u64 c.lo]] w fun e w' => e = .returned (.bool true) ∧ Below w.heap.size w w' := by
  have hab := fun w => adCmp_any a b w
  have hbc := fun w => adCmp_any b c w
  have hac := fun w => adCmp_any a c w
  have hba := fun w => adCmp_any b a w
  have hra := fun w => refAdCmp_any a b w
  have hq := fun W => eqlAd a b W
  have hz : adCmp a b = 0 ↔ a = b := ⟨adCmp_zero, fun h => by subst h; exact cmp_ad.self a⟩
  have hn : adCmp b a = -adCmp a b := cmp_ad.neg a b
  have vx := adCmp_vals a b
  have vy := adCmp_vals b c
  have vz := adCmp_vals a c
  have t1 := cmp_ad.trans a b c
  have t3 := cmp_ad.trans c b a
  rw [cmp_ad.neg b c, cmp_ad.neg a c] at t3
  have hdec : decide (a = b) = decide (adCmp a b = 0) := by simp only [hz]
  simp only [hdec] at hq
  rw [hn] at hba t3
  generalize adCmp a b = x at *
  generalize adCmp b c = y at *
  generalize adCmp a c = z at *
  clear hz hn hdec
  have t2 : 0 ≤ x → 0 ≤ y → 0 ≤ z := fun h1 h2 => by have := t3 (by omega) (by omega); omega
  have HAB := Lib.hid hab; have HBC := Lib.hid hbc; have HAC := Lib.hid hac; have HBA := Lib.hid hba; have HRA := Lib.hid hra
  clear hab hbc hac hba hra t3
  have hm : (x != x) = false := by simp
  have hm2 : (x != - -x) = false := by simp
  have hs : ((x == 0) != decide (x = 0)) = false := by cases h : (x == 0) <;> simp_all
  rcases vx with rfl | rfl | rfl <;> rcases vy with rfl | rfl | rfl <;> rcases vz with rfl | rfl | rfl
  all_goals first
    | (exfalso; omega)
    | skip
  all_goals
    clear t1 t2
    go_enter Try.func13, Try.ntmps13
    go_wp2_with fail
    have k0 := cell3 w (.cells #[.bool a.v6, .int .u64 a.hi, .int .u64 a.lo] 48) (.cells #[.bool b.v6, .int .u64 b.hi, .int .u64 b.lo] 48) [.bool c.v6, .int .u64 c.hi, .int .u64 c.lo] 48 0 _ rfl
    have k1 := cell3 w (.cells #[.bool a.v6, .int .u64 a.hi, .int .u64 a.lo] 48) (.cells #[.bool b.v6, .int .u64 b.hi, .int .u64 b.lo] 48) [.bool c.v6, .int .u64 c.hi, .int .u64 c.lo] 48 1 _ rfl
    have k2 := cell3 w (.cells #[.bool a.v6, .int .u64 a.hi, .int .u64 a.lo] 48) (.cells #[.bool b.v6, .int .u64 b.hi, .int .u64 b.lo] 48) [.bool c.v6, .int .u64 c.hi, .int .u64 c.lo] 48 2 _ rfl
    go_region_held3 (fun w' => w'.cell? ⟨w.heap.size, 0, none⟩ = some (.bool a.v6) ∧ w'.cell? ⟨w.heap.size, 1, none⟩ = some (.int .u64 a.hi) ∧ w'.cell? ⟨w.heap.size, 2, none⟩ = some (.int .u64 a.lo) ∧ w'.cell? ⟨w.heap.size + 1, 0, none⟩ = some (.bool b.v6) ∧ w'.cell? ⟨w.heap.size + 1, 1, none⟩ = some (.int .u64 b.hi) ∧ w'.cell? ⟨w.heap.size + 1, 2, none⟩ = some (.int .u64 b.lo) ∧ w'.cell? ⟨w.heap.size + 1 + 1, 0, none⟩ = some (.bool c.v6) ∧ w'.cell? ⟨w.heap.size + 1 + 1, 1, none⟩ = some (.int .u64 c.hi) ∧ w'.cell? ⟨w.heap.size + 1 + 1, 2, none⟩ = some (.int .u64 c.lo)) (first | go_keep | (simp (disch := omega) [*])) (first | (go_at_call 48; (with_reducible refine (HAB.out _).mono ?_); rintro e w1 ⟨rfl, b1⟩; obtain ⟨c1, f1⟩ := bcell b1; have z1 := b1.size; (try simp at z1); have d1 := fun o => c1 w.heap.size o (by first | omega | (simp; done) | (simp; omega)); have g1 := fun o => c1 (w.heap.size + 1) o (by first | omega | (simp; done) | (simp; omega)); have i1 := fun o => c1 (w.heap.size + 1 + 1) o (by first | omega | (simp; done) | (simp; omega)); clear c1 f1) | (go_at_call 48; (with_reducible refine (HBC.out _).mono ?_); rintro e w2 ⟨rfl, b2⟩; obtain ⟨c2, f2⟩ := bcell b2; have z2 := b2.size; (try simp at z2); have d2 := fun o => c2 w.heap.size o (by first | omega | (simp; done) | (simp; omega)); have g2 := fun o => c2 (w.heap.size + 1) o (by first | omega | (simp; done) | (simp; omega)); have i2 := fun o => c2 (w.heap.size + 1 + 1) o (by first | omega | (simp; done) | (simp; omega)); clear c2 f2) | (go_at_call 48; (with_reducible refine (HAC.out _).mono ?_); rintro e w3 ⟨rfl, b3⟩; obtain ⟨c3, f3⟩ := bcell b3; have z3 := b3.size; (try simp at z3); have d3 := fun o => c3 w.heap.size o (by first | omega | (simp; done) | (simp; omega)); have g3 := fun o => c3 (w.heap.size + 1) o (by first | omega | (simp; done) | (simp; omega)); have i3 := fun o => c3 (w.heap.size + 1 + 1) o (by first | omega | (simp; done) | (simp; omega)); clear c3 f3))
    have B3 : Below w.heap.size w w3 := by
      repeat (first | assumption | exact Below.refl _ _ | refine Below.alloc ?_ (by first | omega | (simp; done) | (simp; omega)) _ | refine Below.drew ?_ | (refine Below.trans ?_ (Below.mono (by assumption) (by first | omega | (simp; done) | (simp; omega)))))
    rename_i hh
    obtain ⟨a0, a1, a2, b0, b1', b2', -⟩ := hh
    clear d1 g1 i1 d2 g2 i2 d3 g3 i3 k0 k1 k2
    go_wp2_with (first | (go_at_call 49; (with_reducible refine (HRA.out _).mono ?_); rintro e w4 ⟨rfl, b4⟩; obtain ⟨c4, f4⟩ := bcell b4; have z4 := b4.size; have d4 := fun o => c4 w.heap.size o (by omega); have g4 := fun o => c4 (w.heap.size + 1) o (by omega); clear c4 f4) | (go_at_call 48; (with_reducible refine (HBA.out _).mono ?_); rintro e w5 ⟨rfl, b5⟩; obtain ⟨c5, f5⟩ := bcell b5; have z5 := b5.size; have d5 := fun o => c5 w.heap.size o (by omega); have g5 := fun o => c5 (w.heap.size + 1) o (by omega); clear c5 f5) | (go_at_call 35; refine (awake06_any _ (hc.below (Below.trans (Below.trans B3 (b4.mono (by omega))) (b5.mono (by omega))))).mono ?_; rintro e w6 ⟨rfl, b6⟩))
    go_ret
    exact ⟨rfl, Below.trans (Below.trans (Below.trans B3 (b4.mono (by omega))) (b5.mono (by omega))) (b6.mono (by omega))⟩
end Go.Proofs.Ytbpjhikbgnbkaaa
