/- The contracts of ticks, of points that decay, of scores. -/
import Derived.Test.YtnohkfbapibmdaaRows
import Derived.Test.YtnohkfbapibmdaaQba21a9beykib
import Derived.Test.YtnohkfbapibmdaaQTail
import Derived.Test.YtnohkfbapibmdaaQ3d1c45fhhvyz
import Derived.RegionTactic
import Derived.BigRegion
import Derived.Deep.RegionWith
import Derived.IntWalk
import Derived.Lib.ItoaWalk
import Derived.Handy
import Derived.Deep.RegionHeld3
import Derived.BigGuardPart
namespace Go.Proofs.Ytnohkfbapibmdaa
open Go.RowKit
set_option linter.unusedSimpArgs false
set_option linter.unusedVariables false

set_option maxHeartbeats 1000000 in
theorem fit_any (n : Int) (w : World) : Calls Try.prog 82 #[.int .i64 n] w fun e w' => e = .returned (.int .i64 (fitI n)) ∧ w = w' := by
  unfold fitI
  rcases Int.lt_or_le n 0 with h | h
  · rw [if_pos h]
    go_enter Try.func82, Try.ntmps82
    go_wp2
    go_ret
    exact ⟨rfl, rfl⟩
  · rw [if_neg (by omega)]
    rcases Int.lt_or_le 1099511627776 n with h2 | h2
    · rw [if_pos h2]
      go_enter Try.func82, Try.ntmps82
      go_wp2
      go_ret
      exact ⟨rfl, rfl⟩
    · rw [if_neg (by omega)]
      go_enter Try.func82, Try.ntmps82
      go_wp2
      go_ret
      exact ⟨rfl, rfl⟩
set_option maxHeartbeats 1000000 in
theorem refFit_any (n : Int) (w : World) : Calls Try.prog 83 #[.int .i64 n] w fun e w' => e = .returned (.int .i64 (fitI n)) ∧ w = w' := by
  unfold fitI
  rcases Int.lt_or_le n 0 with h | h
  · rw [if_pos h]
    go_enter Try.func83, Try.ntmps83
    go_wp2
    go_ret
    exact ⟨rfl, rfl⟩
  · rw [if_neg (by omega)]
    rcases Int.lt_or_le 1099511627776 n with h2 | h2
    · rw [if_pos h2]
      go_enter Try.func83, Try.ntmps83
      go_wp2
      go_ret
      exact ⟨rfl, rfl⟩
    · rw [if_neg (by omega)]
      go_enter Try.func83, Try.ntmps83
      go_wp2
      go_ret
      exact ⟨rfl, rfl⟩
set_option maxHeartbeats 1000000 in
theorem sub_any (a b : Int) (w : World) : Calls Try.prog 175 #[.int .i64 a, .int .i64 b] w fun e w' => e = .returned (.int .i64 (fitI (fitI a - fitI b))) ∧ w = w' := by
  have h1 := fitI_in a; have h2 := fitI_in b
  have H1 := Lib.hid (fun w => fit_any a w); have H2 := Lib.hid (fun w => fit_any b w)
  generalize fitI a = x at *; generalize fitI b = y at *
  have H3 := Lib.hid (fun w => fit_any (x - y) w)
  go_enter Try.func175, Try.ntmps175
  go_wp2_with (first | (go_at_call 82; (with_reducible refine (H1.out _).mono ?_); rintro e w1 ⟨rfl, rfl⟩) | (go_at_call 82; (with_reducible refine (H2.out _).mono ?_); rintro e w1 ⟨rfl, rfl⟩) | (go_at_call 82; (with_reducible refine (H3.out _).mono ?_); rintro e w1 ⟨rfl, rfl⟩))
  go_ret
  exact ⟨rfl, rfl⟩
set_option maxHeartbeats 1000000 in
theorem add_any (a b : Int) (w : World) : Calls Try.prog 137 #[.int .i64 a, .int .i64 b] w fun e w' => e = .returned (.int .i64 (fitI (fitI a + fitI b))) ∧ w = w' := by
  have h1 := fitI_in a; have h2 := fitI_in b
  have H1 := Lib.hid (fun w => fit_any a w); have H2 := Lib.hid (fun w => fit_any b w)
  generalize fitI a = x at *; generalize fitI b = y at *
  have H3 := Lib.hid (fun w => fit_any (x + y) w)
  go_enter Try.func137, Try.ntmps137
  go_wp2_with (first | (go_at_call 82; (with_reducible refine (H1.out _).mono ?_); rintro e w1 ⟨rfl, rfl⟩) | (go_at_call 82; (with_reducible refine (H2.out _).mono ?_); rintro e w1 ⟨rfl, rfl⟩) | (go_at_call 82; (with_reducible refine (H3.out _).mono ?_); rintro e w1 ⟨rfl, rfl⟩))
  go_ret
  exact ⟨rfl, rfl⟩
/-- a product with 65536 -/
def mulI (a : Int) : Int := min (fitI a) 16777216 * 65536
theorem mulI_in (a : Int) : 0 ≤ mulI a ∧ mulI a ≤ 1099511627776 := by unfold mulI; have := fitI_in a; omega
set_option maxHeartbeats 1000000 in
theorem mul_any (a : Int) (w : World) : Calls Try.prog 138 #[.int .i64 a, .int .i64 65536] w fun e w' => e = .returned (.int .i64 (mulI a)) ∧ w = w' := by
  have h1 := fitI_in a
  have H1 := Lib.hid (fun w => fit_any a w)
  have H2 := Lib.hid (fun w => fit_any 65536 w)
  have e2 : fitI 65536 = 65536 := rfl
  rw [e2] at H2
  unfold mulI
  generalize fitI a = x at *
  rcases Int.lt_or_le 0 x with h0 | h0
  · have hq : 0 ≤ 1099511627776 / x := Int.ediv_nonneg (by omega) (by omega)
    rcases Int.lt_or_le 16777216 x with h3 | h3
    · have hlt : 1099511627776 / x < 65536 := Int.ediv_lt_of_lt_mul (by omega) (by omega)
      have hm : min x 16777216 * 65536 = 1099511627776 := by omega
      have hne : x ≠ 0 := by omega
      rw [hm]; clear hm
      go_enter Try.func138, Try.ntmps138
      go_wp2_with (first | (go_at_call 82; (with_reducible refine (H1.out _).mono ?_); rintro e w1 ⟨rfl, rfl⟩) | (go_at_call 82; (with_reducible refine (H2.out _).mono ?_); rintro e w1 ⟨rfl, rfl⟩))
      go_ret
      exact ⟨rfl, rfl⟩
    · have hlt : 65536 ≤ 1099511627776 / x := (Int.le_ediv_iff_mul_le h0).2 (by omega)
      have hm : min x 16777216 = x := by omega
      have hne : x ≠ 0 := by omega
      rw [hm]; clear hm
      go_enter Try.func138, Try.ntmps138
      go_wp2_with (first | (go_at_call 82; (with_reducible refine (H1.out _).mono ?_); rintro e w1 ⟨rfl, rfl⟩) | (go_at_call 82; (with_reducible refine (H2.out _).mono ?_); rintro e w1 ⟨rfl, rfl⟩))
      go_ret
      exact ⟨rfl, rfl⟩
  · obtain rfl : x = 0 := by omega
    go_enter Try.func138, Try.ntmps138
    go_wp2_with (first | (go_at_call 82; (with_reducible refine (H1.out _).mono ?_); rintro e w1 ⟨rfl, rfl⟩) | (go_at_call 82; (with_reducible refine (H2.out _).mono ?_); rintro e w1 ⟨rfl, rfl⟩))
    go_ret
    exact ⟨rfl, rfl⟩
set_option maxHeartbeats 1000000 in
theorem whole_any (p a : Int) (hp : p ≤ 9223372036854775807) (w : World) : Calls Try.prog 88 #[.agg #[.int .i64 p, .int .i64 a]] w fun e w' => e = .returned (.int .i64 (wholeI p)) ∧ Below w.heap.size w w' := by
  unfold wholeI
  rcases Int.lt_or_le p 0 with h | h
  · have hm : max p 0 = 0 := by omega
    rw [if_pos h]
    go_enter Try.func88, Try.ntmps88
    go_wp2
    go_ret
    refine ⟨rfl, ?_⟩
    (repeat (first | assumption | exact Below.refl _ _ | refine Below.setCell ?_ (by first | omega | (simp; done) | (simp; omega)) _ | refine Below.alloc ?_ (by first | omega | (simp; done) | (simp; omega)) _ | refine Below.drew ?_ | (refine Below.trans ?_ (Below.mono (by assumption) (by first | omega | (simp; done) | (simp; omega))))))
  · have hm : max p 0 = p := by omega
    rw [if_neg (by omega)]
    go_enter Try.func88, Try.ntmps88
    go_wp2
    go_ret
    refine ⟨rfl, ?_⟩
    (repeat (first | assumption | exact Below.refl _ _ | refine Below.setCell ?_ (by first | omega | (simp; done) | (simp; omega)) _ | refine Below.alloc ?_ (by first | omega | (simp; done) | (simp; omega)) _ | refine Below.drew ?_ | (refine Below.trans ?_ (Below.mono (by assumption) (by first | omega | (simp; done) | (simp; omega))))))
set_option maxHeartbeats 1000000 in
theorem refWhole_any (p a : Int) (hp : p ≤ 9223372036854775807) (w : World) : Calls Try.prog 89 #[.agg #[.int .i64 p, .int .i64 a]] w fun e w' => e = .returned (.int .i64 (wholeI p)) ∧ Below w.heap.size w w' := by
  unfold wholeI
  rcases Int.lt_or_le p 0 with h | h
  · rw [if_pos h]
    go_enter Try.func89, Try.ntmps89
    go_wp2
    go_ret
    refine ⟨rfl, ?_⟩
    (repeat (first | assumption | exact Below.refl _ _ | refine Below.setCell ?_ (by first | omega | (simp; done) | (simp; omega)) _ | refine Below.alloc ?_ (by first | omega | (simp; done) | (simp; omega)) _ | refine Below.drew ?_ | (refine Below.trans ?_ (Below.mono (by assumption) (by first | omega | (simp; done) | (simp; omega))))))
  · rw [if_neg (by omega)]
    go_enter Try.func89, Try.ntmps89
    go_wp2
    go_ret
    refine ⟨rfl, ?_⟩
    (repeat (first | assumption | exact Below.refl _ _ | refine Below.setCell ?_ (by first | omega | (simp; done) | (simp; omega)) _ | refine Below.alloc ?_ (by first | omega | (simp; done) | (simp; omega)) _ | refine Below.drew ?_ | (refine Below.trans ?_ (Below.mono (by assumption) (by first | omega | (simp; done) | (simp; omega))))))
set_option maxHeartbeats 2000000 in
theorem halffit_any (p a : Int) (w : World) : Calls Try.prog 174 #[.agg #[.int .i64 p, .int .i64 a]] w fun e w' => e = .returned (.agg #[.int .i64 (fitI p), .int .i64 (fitI a)]) ∧ Below w.heap.size w w' := by
  have H1 := Lib.hid (fun w => fit_any a w)
  generalize fitI a = x at *
  unfold fitI
  rcases Int.lt_or_le p 0 with h | h
  · rw [if_pos h]
    go_enter Try.func174, Try.ntmps174
    go_wp2_with fail
    go_name_world WWx1 hWWx1
    have ex10 : ∀ Y, (ext WWx1 Y).cell? ⟨w.heap.size, 0, none⟩ = some (.int .i64 p) := by subst hWWx1; intro Y; exact (ext_cell _ Y (by first | omega | (simp; done) | (simp; omega))).trans (by first | (simp (disch := first | omega | (simp; omega)) [World.cell?_alloc_past, *]; done) | (simp (disch := first | omega | (simp; omega)) [World.cell?_setCell_far, World.cell?_alloc_past, *]; done) | (simp (disch := first | omega | (simp; omega)) [World.cell?_alloc_past, *]; rfl) | (simp (disch := first | omega | (simp; omega)) [World.cell?_setCell_far, World.cell?_alloc_past, *]; rfl) | (simp [go_sem, *]; done) | (simp (disch := first | omega | (simp; omega) | (simp [go_sem, *]; done)) [go_sem, World.cell?_setCell_far, World.cell?_alloc_past, *]; done))
    have ex11 : ∀ Y, (ext WWx1 Y).cell? ⟨w.heap.size, 1, none⟩ = some (.int .i64 a) := by subst hWWx1; intro Y; exact (ext_cell _ Y (by first | omega | (simp; done) | (simp; omega))).trans (by first | (simp (disch := first | omega | (simp; omega)) [World.cell?_alloc_past, *]; done) | (simp (disch := first | omega | (simp; omega)) [World.cell?_setCell_far, World.cell?_alloc_past, *]; done) | (simp (disch := first | omega | (simp; omega)) [World.cell?_alloc_past, *]; rfl) | (simp (disch := first | omega | (simp; omega)) [World.cell?_setCell_far, World.cell?_alloc_past, *]; rfl) | (simp [go_sem, *]; done) | (simp (disch := first | omega | (simp; omega) | (simp [go_sem, *]; done)) [go_sem, World.cell?_setCell_far, World.cell?_alloc_past, *]; done))
    have ex12 : ∀ Y, (ext WWx1 Y).cell? ⟨w.heap.size + 1, 0, none⟩ = some (.int .i64 0) := by subst hWWx1; intro Y; exact (ext_cell _ Y (by first | omega | (simp; done) | (simp; omega))).trans (by first | (simp (disch := first | omega | (simp; omega)) [World.cell?_alloc_past, *]; done) | (simp (disch := first | omega | (simp; omega)) [World.cell?_setCell_far, World.cell?_alloc_past, *]; done) | (simp (disch := first | omega | (simp; omega)) [World.cell?_alloc_past, *]; rfl) | (simp (disch := first | omega | (simp; omega)) [World.cell?_setCell_far, World.cell?_alloc_past, *]; rfl) | (simp [go_sem, *]; done) | (simp (disch := first | omega | (simp; omega) | (simp [go_sem, *]; done)) [go_sem, World.cell?_setCell_far, World.cell?_alloc_past, *]; done))
    have ex13 : ∀ Y, (ext WWx1 Y).cell? ⟨w.heap.size + 1, 1, none⟩ = some (.int .i64 0) := by subst hWWx1; intro Y; exact (ext_cell _ Y (by first | omega | (simp; done) | (simp; omega))).trans (by first | (simp (disch := first | omega | (simp; omega)) [World.cell?_alloc_past, *]; done) | (simp (disch := first | omega | (simp; omega)) [World.cell?_setCell_far, World.cell?_alloc_past, *]; done) | (simp (disch := first | omega | (simp; omega)) [World.cell?_alloc_past, *]; rfl) | (simp (disch := first | omega | (simp; omega)) [World.cell?_setCell_far, World.cell?_alloc_past, *]; rfl) | (simp [go_sem, *]; done) | (simp (disch := first | omega | (simp; omega) | (simp [go_sem, *]; done)) [go_sem, World.cell?_setCell_far, World.cell?_alloc_past, *]; done))
    have fzx10 : ∀ Y o, (ext WWx1 Y).frozen? ⟨w.heap.size + 1, o, none⟩ = false := by subst hWWx1; intro Y o; exact (ext_frozen _ Y (by first | omega | (simp; done) | (simp; omega))).trans (by first | (simp (disch := first | omega | (simp; omega)) [World.frozen?_alloc_past, *]; done) | (simp (disch := first | omega | (simp; omega)) [World.frozen?_alloc_past, *]; rfl))
    have bWx1 : Below w.heap.size w WWx1 := by subst hWWx1; (repeat (first | assumption | exact Below.refl _ _ | refine Below.setCell ?_ (by first | omega | (simp; done) | (simp; omega)) _ | refine Below.alloc ?_ (by first | omega | (simp; done) | (simp; omega)) _ | refine Below.drew ?_ | (refine Below.trans ?_ (Below.mono (by assumption) (by first | omega | (simp; done) | (simp; omega))))))
    have lWx10 : w.heap.size < WWx1.heap.size := by subst hWWx1; first | omega | (simp; done) | (simp; omega)
    have lWx11 : w.heap.size + 1 < WWx1.heap.size := by subst hWWx1; first | omega | (simp; done) | (simp; omega)
    clear hWWx1
    refine wp_region_ext_tail 8 (by kernel_rfl) (by kernel_rfl) ?_
    simp only [List.take_succ_cons, List.take_zero, List.drop_succ_cons, List.drop_zero]
    repeat (go_big_quiet_step ((first | (go_at_call 82; with_reducible exact qs (H1.out _)))))
    refine wpQuiet_nil ?_
    intro _ hw'
    obtain ⟨x1, hw''⟩ := hw'
    subst hw''
    have px10 := ex10 x1
    have px11 := ex11 x1
    have px12 := ex12 x1
    have px13 := ex13 x1
    have gx10 := fzx10 x1
    clear fzx10
    clear ex10 ex11 ex12 ex13
    have bwx1 := bWx1.trans ((ext_below WWx1 x1).mono bWx1.size)
    have zwx1 := bwx1.size
    have zex1 := (ext_below WWx1 x1).size
    go_wp2_with fail
    refine bodyPost_ret (v := .agg #[.int .i64 0, .int .i64 x]) (by simp [results, Try.results174, go_sem, *]) rfl ⟨rfl, ?_⟩
    (repeat (first | assumption | exact Below.refl _ _ | refine Below.setCell ?_ (by first | omega | (simp; done) | (simp; omega)) _ | refine Below.alloc ?_ (by first | omega | (simp; done) | (simp; omega)) _ | refine Below.drew ?_ | (refine Below.trans ?_ (Below.mono (by assumption) (by first | omega | (simp; done) | (simp; omega))))))
  · rw [if_neg (by omega)]
    rcases Int.lt_or_le 1099511627776 p with h2 | h2
    · rw [if_pos h2]
      go_enter Try.func174, Try.ntmps174
      go_wp2_with fail
      go_name_world WWx1 hWWx1
      have ex10 : ∀ Y, (ext WWx1 Y).cell? ⟨w.heap.size, 0, none⟩ = some (.int .i64 p) := by subst hWWx1; intro Y; exact (ext_cell _ Y (by first | omega | (simp; done) | (simp; omega))).trans (by first | (simp (disch := first | omega | (simp; omega)) [World.cell?_alloc_past, *]; done) | (simp (disch := first | omega | (simp; omega)) [World.cell?_setCell_far, World.cell?_alloc_past, *]; done) | (simp (disch := first | omega | (simp; omega)) [World.cell?_alloc_past, *]; rfl) | (simp (disch := first | omega | (simp; omega)) [World.cell?_setCell_far, World.cell?_alloc_past, *]; rfl) | (simp [go_sem, *]; done) | (simp (disch := first | omega | (simp; omega) | (simp [go_sem, *]; done)) [go_sem, World.cell?_setCell_far, World.cell?_alloc_past, *]; done))
      have ex11 : ∀ Y, (ext WWx1 Y).cell? ⟨w.heap.size, 1, none⟩ = some (.int .i64 a) := by subst hWWx1; intro Y; exact (ext_cell _ Y (by first | omega | (simp; done) | (simp; omega))).trans (by first | (simp (disch := first | omega | (simp; omega)) [World.cell?_alloc_past, *]; done) | (simp (disch := first | omega | (simp; omega)) [World.cell?_setCell_far, World.cell?_alloc_past, *]; done) | (simp (disch := first | omega | (simp; omega)) [World.cell?_alloc_past, *]; rfl) | (simp (disch := first | omega | (simp; omega)) [World.cell?_setCell_far, World.cell?_alloc_past, *]; rfl) | (simp [go_sem, *]; done) | (simp (disch := first | omega | (simp; omega) | (simp [go_sem, *]; done)) [go_sem, World.cell?_setCell_far, World.cell?_alloc_past, *]; done))
      have ex12 : ∀ Y, (ext WWx1 Y).cell? ⟨w.heap.size + 1, 0, none⟩ = some (.int .i64 0) := by subst hWWx1; intro Y; exact (ext_cell _ Y (by first | omega | (simp; done) | (simp; omega))).trans (by first | (simp (disch := first | omega | (simp; omega)) [World.cell?_alloc_past, *]; done) | (simp (disch := first | omega | (simp; omega)) [World.cell?_setCell_far, World.cell?_alloc_past, *]; done) | (simp (disch := first | omega | (simp; omega)) [World.cell?_alloc_past, *]; rfl) | (simp (disch := first | omega | (simp; omega)) [World.cell?_setCell_far, World.cell?_alloc_past, *]; rfl) | (simp [go_sem, *]; done) | (simp (disch := first | omega | (simp; omega) | (simp [go_sem, *]; done)) [go_sem, World.cell?_setCell_far, World.cell?_alloc_past, *]; done))
      have ex13 : ∀ Y, (ext WWx1 Y).cell? ⟨w.heap.size + 1, 1, none⟩ = some (.int .i64 0) := by subst hWWx1; intro Y; exact (ext_cell _ Y (by first | omega | (simp; done) | (simp; omega))).trans (by first | (simp (disch := first | omega | (simp; omega)) [World.cell?_alloc_past, *]; done) | (simp (disch := first | omega | (simp; omega)) [World.cell?_setCell_far, World.cell?_alloc_past, *]; done) | (simp (disch := first | omega | (simp; omega)) [World.cell?_alloc_past, *]; rfl) | (simp (disch := first | omega | (simp; omega)) [World.cell?_setCell_far, World.cell?_alloc_past, *]; rfl) | (simp [go_sem, *]; done) | (simp (disch := first | omega | (simp; omega) | (simp [go_sem, *]; done)) [go_sem, World.cell?_setCell_far, World.cell?_alloc_past, *]; done))
      have fzx10 : ∀ Y o, (ext WWx1 Y).frozen? ⟨w.heap.size + 1, o, none⟩ = false := by subst hWWx1; intro Y o; exact (ext_frozen _ Y (by first | omega | (simp; done) | (simp; omega))).trans (by first | (simp (disch := first | omega | (simp; omega)) [World.frozen?_alloc_past, *]; done) | (simp (disch := first | omega | (simp; omega)) [World.frozen?_alloc_past, *]; rfl))
      have bWx1 : Below w.heap.size w WWx1 := by subst hWWx1; (repeat (first | assumption | exact Below.refl _ _ | refine Below.setCell ?_ (by first | omega | (simp; done) | (simp; omega)) _ | refine Below.alloc ?_ (by first | omega | (simp; done) | (simp; omega)) _ | refine Below.drew ?_ | (refine Below.trans ?_ (Below.mono (by assumption) (by first | omega | (simp; done) | (simp; omega))))))
      have lWx10 : w.heap.size < WWx1.heap.size := by subst hWWx1; first | omega | (simp; done) | (simp; omega)
      have lWx11 : w.heap.size + 1 < WWx1.heap.size := by subst hWWx1; first | omega | (simp; done) | (simp; omega)
      clear hWWx1
      refine wp_region_ext_tail 8 (by kernel_rfl) (by kernel_rfl) ?_
      simp only [List.take_succ_cons, List.take_zero, List.drop_succ_cons, List.drop_zero]
      repeat (go_big_quiet_step ((first | (go_at_call 82; with_reducible exact qs (H1.out _)))))
      refine wpQuiet_nil ?_
      intro _ hw'
      obtain ⟨x1, hw''⟩ := hw'
      subst hw''
      have px10 := ex10 x1
      have px11 := ex11 x1
      have px12 := ex12 x1
      have px13 := ex13 x1
      have gx10 := fzx10 x1
      clear fzx10
      clear ex10 ex11 ex12 ex13
      have bwx1 := bWx1.trans ((ext_below WWx1 x1).mono bWx1.size)
      have zwx1 := bwx1.size
      have zex1 := (ext_below WWx1 x1).size
      go_wp2_with fail
      refine bodyPost_ret (v := .agg #[.int .i64 1099511627776, .int .i64 x]) (by simp [results, Try.results174, go_sem, *]) rfl ⟨rfl, ?_⟩
      (repeat (first | assumption | exact Below.refl _ _ | refine Below.setCell ?_ (by first | omega | (simp; done) | (simp; omega)) _ | refine Below.alloc ?_ (by first | omega | (simp; done) | (simp; omega)) _ | refine Below.drew ?_ | (refine Below.trans ?_ (Below.mono (by assumption) (by first | omega | (simp; done) | (simp; omega))))))
    · rw [if_neg (by omega)]
      go_enter Try.func174, Try.ntmps174
      go_wp2_with fail
      go_name_world WWx1 hWWx1
      have ex10 : ∀ Y, (ext WWx1 Y).cell? ⟨w.heap.size, 0, none⟩ = some (.int .i64 p) := by subst hWWx1; intro Y; exact (ext_cell _ Y (by first | omega | (simp; done) | (simp; omega))).trans (by first | (simp (disch := first | omega | (simp; omega)) [World.cell?_alloc_past, *]; done) | (simp (disch := first | omega | (simp; omega)) [World.cell?_setCell_far, World.cell?_alloc_past, *]; done) | (simp (disch := first | omega | (simp; omega)) [World.cell?_alloc_past, *]; rfl) | (simp (disch := first | omega | (simp; omega)) [World.cell?_setCell_far, World.cell?_alloc_past, *]; rfl) | (simp [go_sem, *]; done) | (simp (disch := first | omega | (simp; omega) | (simp [go_sem, *]; done)) [go_sem, World.cell?_setCell_far, World.cell?_alloc_past, *]; done))
      have ex11 : ∀ Y, (ext WWx1 Y).cell? ⟨w.heap.size, 1, none⟩ = some (.int .i64 a) := by subst hWWx1; intro Y; exact (ext_cell _ Y (by first | omega | (simp; done) | (simp; omega))).trans (by first | (simp (disch := first | omega | (simp; omega)) [World.cell?_alloc_past, *]; done) | (simp (disch := first | omega | (simp; omega)) [World.cell?_setCell_far, World.cell?_alloc_past, *]; done) | (simp (disch := first | omega | (simp; omega)) [World.cell?_alloc_past, *]; rfl) | (simp (disch := first | omega | (simp; omega)) [World.cell?_setCell_far, World.cell?_alloc_past, *]; rfl) | (simp [go_sem, *]; done) | (simp (disch := first | omega | (simp; omega) | (simp [go_sem, *]; done)) [go_sem, World.cell?_setCell_far, World.cell?_alloc_past, *]; done))
      have ex12 : ∀ Y, (ext WWx1 Y).cell? ⟨w.heap.size + 1, 0, none⟩ = some (.int .i64 0) := by subst hWWx1; intro Y; exact (ext_cell _ Y (by first | omega | (simp; done) | (simp; omega))).trans (by first | (simp (disch := first | omega | (simp; omega)) [World.cell?_alloc_past, *]; done) | (simp (disch := first | omega | (simp; omega)) [World.cell?_setCell_far, World.cell?_alloc_past, *]; done) | (simp (disch := first | omega | (simp; omega)) [World.cell?_alloc_past, *]; rfl) | (simp (disch := first | omega | (simp; omega)) [World.cell?_setCell_far, World.cell?_alloc_past, *]; rfl) | (simp [go_sem, *]; done) | (simp (disch := first | omega | (simp; omega) | (simp [go_sem, *]; done)) [go_sem, World.cell?_setCell_far, World.cell?_alloc_past, *]; done))
      have ex13 : ∀ Y, (ext WWx1 Y).cell? ⟨w.heap.size + 1, 1, none⟩ = some (.int .i64 0) := by subst hWWx1; intro Y; exact (ext_cell _ Y (by first | omega | (simp; done) | (simp; omega))).trans (by first | (simp (disch := first | omega | (simp; omega)) [World.cell?_alloc_past, *]; done) | (simp (disch := first | omega | (simp; omega)) [World.cell?_setCell_far, World.cell?_alloc_past, *]; done) | (simp (disch := first | omega | (simp; omega)) [World.cell?_alloc_past, *]; rfl) | (simp (disch := first | omega | (simp; omega)) [World.cell?_setCell_far, World.cell?_alloc_past, *]; rfl) | (simp [go_sem, *]; done) | (simp (disch := first | omega | (simp; omega) | (simp [go_sem, *]; done)) [go_sem, World.cell?_setCell_far, World.cell?_alloc_past, *]; done))
      have fzx10 : ∀ Y o, (ext WWx1 Y).frozen? ⟨w.heap.size + 1, o, none⟩ = false := by subst hWWx1; intro Y o; exact (ext_frozen _ Y (by first | omega | (simp; done) | (simp; omega))).trans (by first | (simp (disch := first | omega | (simp; omega)) [World.frozen?_alloc_past, *]; done) | (simp (disch := first | omega | (simp; omega)) [World.frozen?_alloc_past, *]; rfl))
      have bWx1 : Below w.heap.size w WWx1 := by subst hWWx1; (repeat (first | assumption | exact Below.refl _ _ | refine Below.setCell ?_ (by first | omega | (simp; done) | (simp; omega)) _ | refine Below.alloc ?_ (by first | omega | (simp; done) | (simp; omega)) _ | refine Below.drew ?_ | (refine Below.trans ?_ (Below.mono (by assumption) (by first | omega | (simp; done) | (simp; omega))))))
      have lWx10 : w.heap.size < WWx1.heap.size := by subst hWWx1; first | omega | (simp; done) | (simp; omega)
      have lWx11 : w.heap.size + 1 < WWx1.heap.size := by subst hWWx1; first | omega | (simp; done) | (simp; omega)
      clear hWWx1
      refine wp_region_ext_tail 8 (by kernel_rfl) (by kernel_rfl) ?_
      simp only [List.take_succ_cons, List.take_zero, List.drop_succ_cons, List.drop_zero]
      repeat (go_big_quiet_step ((first | (go_at_call 82; with_reducible exact qs (H1.out _)))))
      refine wpQuiet_nil ?_
      intro _ hw'
      obtain ⟨x1, hw''⟩ := hw'
      subst hw''
      have px10 := ex10 x1
      have px11 := ex11 x1
      have px12 := ex12 x1
      have px13 := ex13 x1
      have gx10 := fzx10 x1
      clear fzx10
      clear ex10 ex11 ex12 ex13
      have bwx1 := bWx1.trans ((ext_below WWx1 x1).mono bWx1.size)
      have zwx1 := bwx1.size
      have zex1 := (ext_below WWx1 x1).size
      go_wp2_with fail
      refine bodyPost_ret (v := .agg #[.int .i64 p, .int .i64 x]) (by simp [results, Try.results174, go_sem, *]) rfl ⟨rfl, ?_⟩
      (repeat (first | assumption | exact Below.refl _ _ | refine Below.setCell ?_ (by first | omega | (simp; done) | (simp; omega)) _ | refine Below.alloc ?_ (by first | omega | (simp; done) | (simp; omega)) _ | refine Below.drew ?_ | (refine Below.trans ?_ (Below.mono (by assumption) (by first | omega | (simp; done) | (simp; omega))))))
end Go.Proofs.Ytnohkfbapibmdaa
