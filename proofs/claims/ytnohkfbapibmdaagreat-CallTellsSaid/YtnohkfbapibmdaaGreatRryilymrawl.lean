/- Texts put together: CallF. No condition. -/
import Derived.Test.YtnohkfbapibmdaaGreatRylfqlqhiso
namespace Go.Proofs.YtnohkfbapibmdaaGreat
open Go.RowKit
set_option linter.unusedSimpArgs false
set_option linter.unusedVariables false

set_option maxRecDepth 100000 in
set_option maxHeartbeats 8000000 in
theorem read_1 (c : Cl) (s : List UInt8) (O : Nat) (w : World) (hs : s.length ≤ 4000000000) (hc : Cpu w) (hB : BlockIs w O (clV c) 30) : Calls Tryz.prog 16 #[.pointer (some ⟨O, 0, none⟩), .int .i64 1, .string (bs s)] w (ReadPost w O (clRead c 1 s)) := by
  have hE := fun w hc => ntParse_any (bs s) w (by rw [bs_size]; omega) hc
  rw [bs_data] at hE
  unfold GivesNt at hE
  have HE := Lib.hid hE; clear hE hs
  have HC := Lib.hid hc; clear hc
  have HBB := Lib.hid hB
  unfold clV at hB
  have o0 := hB.cell (i := 0) rfl
  have o1 := hB.cell (i := 1) rfl
  have o2 := hB.cell (i := 2) rfl
  have o3 := hB.cell (i := 3) rfl
  have o4 := hB.cell (i := 4) rfl
  have o5 := hB.cell (i := 5) rfl
  have o6 := hB.cell (i := 6) rfl
  have o7 := hB.cell (i := 7) rfl
  have o8 := hB.cell (i := 8) rfl
  have o9 := hB.cell (i := 9) rfl
  have o10 := hB.cell (i := 10) rfl
  have o11 := hB.cell (i := 11) rfl
  have of := hB.frozen
  have ol := hB.lt
  clear hB
  unfold ReadPost clRead
  simp only
  generalize ntParse s = r at *
  obtain ⟨e, ok⟩ := r
  simp only at HE
  cases ok with
  | false =>
    rw [if_neg (by simp)]
    by_cases hz : s = []
    · have q1 : ((bs s).toList == []) = true := by rw [bs_toL, hz]; rfl
      have q2 : (bs s).toList = [] := by rw [bs_toL]; exact hz
      rw [decide_eq_false (fun h => h hz)]
      clear hz
      generalize bs s = S at *
      go_enter Tryz.func16, Tryz.ntmps16
      go_wp2_with (go_at_call 40; (with_reducible refine (HE.out _ HC.out).mono ?_); rintro e w1 ⟨rfl, b1⟩; obtain ⟨c1, f1⟩ := bcell b1; have z1 := b1.size; (try simp at z1); have l1a : O < w1.heap.size := (by omega); have n1a := Nat.ne_of_lt l1a; have d1a := fun o => c1 (O) o (by first | omega | (simp; done) | (simp; omega)); have q1a := fun o => f1 (O) o (by first | omega | (simp; done) | (simp; omega)); clear c1 f1)
      go_ret
      exact ⟨rfl, (((((HBB.out.below b1).set 5 _).set 6 _).set 7 _).set 8 _).alloc' _, (by (repeat (first | with_reducible refine grown_set ?_ | with_reducible refine grown_alloc ?_ _)); exact grown_of_below (by (repeat (first | with_reducible assumption | with_reducible exact Below.refl _ _ | with_reducible refine Below.setCell ?_ (by first | omega | (simp; done) | (simp; omega)) _ | with_reducible refine Below.alloc ?_ (by first | omega | (simp; done) | (simp; omega)) _ | with_reducible refine Below.drew ?_ | (with_reducible refine Below.trans ?_ (Below.mono (by with_reducible assumption) (by first | omega | (simp; done) | (simp; omega)))) | (refine Below.trans ?_ (Below.mono (by assumption) (by first | omega | (simp; done) | (simp; omega))))))))⟩
    · have q1 : ((bs s).toList == []) = false := by rw [bs_toL]; simpa using hz
      have q2 : ¬ (bs s).toList = [] := by rw [bs_toL]; exact hz
      rw [decide_eq_true hz]
      clear hz
      generalize bs s = S at *
      go_enter Tryz.func16, Tryz.ntmps16
      go_wp2_with (go_at_call 40; (with_reducible refine (HE.out _ HC.out).mono ?_); rintro e w1 ⟨rfl, b1⟩; obtain ⟨c1, f1⟩ := bcell b1; have z1 := b1.size; (try simp at z1); have l1a : O < w1.heap.size := (by omega); have n1a := Nat.ne_of_lt l1a; have d1a := fun o => c1 (O) o (by first | omega | (simp; done) | (simp; omega)); have q1a := fun o => f1 (O) o (by first | omega | (simp; done) | (simp; omega)); clear c1 f1)
      go_ret
      exact ⟨rfl, (((((HBB.out.below b1).set 5 _).set 6 _).set 7 _).set 8 _).alloc' _, (by (repeat (first | with_reducible refine grown_set ?_ | with_reducible refine grown_alloc ?_ _)); exact grown_of_below (by (repeat (first | with_reducible assumption | with_reducible exact Below.refl _ _ | with_reducible refine Below.setCell ?_ (by first | omega | (simp; done) | (simp; omega)) _ | with_reducible refine Below.alloc ?_ (by first | omega | (simp; done) | (simp; omega)) _ | with_reducible refine Below.drew ?_ | (with_reducible refine Below.trans ?_ (Below.mono (by with_reducible assumption) (by first | omega | (simp; done) | (simp; omega)))) | (refine Below.trans ?_ (Below.mono (by assumption) (by first | omega | (simp; done) | (simp; omega))))))))⟩
  | true =>
    rw [if_pos rfl]
    by_cases hz : s = []
    · have q1 : ((bs s).toList == []) = true := by rw [bs_toL, hz]; rfl
      have q2 : (bs s).toList = [] := by rw [bs_toL]; exact hz
      rw [decide_eq_false (fun h => h hz)]
      clear hz
      generalize bs s = S at *
      go_enter Tryz.func16, Tryz.ntmps16
      go_wp2_with (go_at_call 40; (with_reducible refine (HE.out _ HC.out).mono ?_); rintro e w1 ⟨rfl, b1⟩; obtain ⟨c1, f1⟩ := bcell b1; have z1 := b1.size; (try simp at z1); have l1a : O < w1.heap.size := (by omega); have n1a := Nat.ne_of_lt l1a; have d1a := fun o => c1 (O) o (by first | omega | (simp; done) | (simp; omega)); have q1a := fun o => f1 (O) o (by first | omega | (simp; done) | (simp; omega)); clear c1 f1)
      go_ret
      exact ⟨rfl, (((((HBB.out.below b1).set 5 _).set 6 _).set 7 _).set 8 _).alloc' _, (by (repeat (first | with_reducible refine grown_set ?_ | with_reducible refine grown_alloc ?_ _)); exact grown_of_below (by (repeat (first | with_reducible assumption | with_reducible exact Below.refl _ _ | with_reducible refine Below.setCell ?_ (by first | omega | (simp; done) | (simp; omega)) _ | with_reducible refine Below.alloc ?_ (by first | omega | (simp; done) | (simp; omega)) _ | with_reducible refine Below.drew ?_ | (with_reducible refine Below.trans ?_ (Below.mono (by with_reducible assumption) (by first | omega | (simp; done) | (simp; omega)))) | (refine Below.trans ?_ (Below.mono (by assumption) (by first | omega | (simp; done) | (simp; omega))))))))⟩
    · have q1 : ((bs s).toList == []) = false := by rw [bs_toL]; simpa using hz
      have q2 : ¬ (bs s).toList = [] := by rw [bs_toL]; exact hz
      rw [decide_eq_true hz]
      clear hz
      generalize bs s = S at *
      go_enter Tryz.func16, Tryz.ntmps16
      go_wp2_with (go_at_call 40; (with_reducible refine (HE.out _ HC.out).mono ?_); rintro e w1 ⟨rfl, b1⟩; obtain ⟨c1, f1⟩ := bcell b1; have z1 := b1.size; (try simp at z1); have l1a : O < w1.heap.size := (by omega); have n1a := Nat.ne_of_lt l1a; have d1a := fun o => c1 (O) o (by first | omega | (simp; done) | (simp; omega)); have q1a := fun o => f1 (O) o (by first | omega | (simp; done) | (simp; omega)); clear c1 f1)
      go_ret
      exact ⟨rfl, (((((HBB.out.below b1).set 5 _).set 6 _).set 7 _).set 8 _).alloc' _, (by (repeat (first | with_reducible refine grown_set ?_ | with_reducible refine grown_alloc ?_ _)); exact grown_of_below (by (repeat (first | with_reducible assumption | with_reducible exact Below.refl _ _ | with_reducible refine Below.setCell ?_ (by first | omega | (simp; done) | (simp; omega)) _ | with_reducible refine Below.alloc ?_ (by first | omega | (simp; done) | (simp; omega)) _ | with_reducible refine Below.drew ?_ | (with_reducible refine Below.trans ?_ (Below.mono (by with_reducible assumption) (by first | omega | (simp; done) | (simp; omega)))) | (refine Below.trans ?_ (Below.mono (by assumption) (by first | omega | (simp; done) | (simp; omega))))))))⟩
end Go.Proofs.YtnohkfbapibmdaaGreat
