/- Texts put together: Score, ScoreR, ScoreA. No condition. -/
import Derived.Test.YtnohkfbapibmdaaSat
import Derived.LoopTactic
/- The contracts of points that decay, and of scores. -/
namespace Go.Proofs.Ytnohkfbapibmdaa
open Go.RowKit
set_option linter.unusedSimpArgs false
set_option linter.unusedVariables false

theorem fitI_fitI (n : Int) : fitI (fitI n) = fitI n := fitI_same (fitI_in n).1 (fitI_in n).2
theorem decAt_eq (a h n : Int) : decAt a h n = fitI a + gone a h n * spanI h := rfl
set_option maxRecDepth 100000 in
set_option maxHeartbeats 4000000 in
theorem decay_any (p a half now : Int) (w : World) : Calls Try.prog 136 #[.agg #[.int .i64 p, .int .i64 a], .int .i64 half, .int .i64 now] w fun e w' => e = .returned (.agg #[.int .i64 (decPts p a half now), .int .i64 (decAt a half now)]) ∧ Below w.heap.size w w' := by
  have HF := Lib.hid (fun w => halffit_any p a w)
  have hS := fun w => sub_any now (fitI a) w
  rw [fitI_fitI] at hS
  have hx := fitI_in p; have hy := fitI_in a
  have hd := fitI_in (fitI now - fitI a)
  have hm := gone_mul a half now
  have hgi := gone_in a half now
  unfold decPts
  rw [decAt_eq]
  obtain ⟨g, hg⟩ : ∃ g, gone a half now = g := ⟨_, rfl⟩
  have hgd : fitI (fitI now - fitI a) / spanI half = g := hg
  rw [hg] at hm hgi ⊢
  generalize fitI (fitI now - fitI a) = d at *
  generalize fitI p = x at *
  generalize fitI a = y at *
  have HS := Lib.hid hS
  clear hS hg
  have hat := decAt_in a half now
  unfold spanI at hgd hm ⊢
  clear hat
  rcases Int.lt_or_le half 1 with h1 | h1
  · rw [if_pos h1] at hgd hm ⊢
    rw [Int.ediv_one] at hgd
    subst hgd
    simp only [Int.mul_one] at hm ⊢
    rcases (Int.lt_or_le 41 d).symm with h41 | h41
    · rw [show min d 41 = d from by omega]
      go_enter Try.func136, Try.ntmps136
      go_wp2_with (first | (go_at_call 174; (with_reducible refine (HF.out _).mono ?_); rintro e w1 ⟨rfl, b1⟩; obtain ⟨c1, f1⟩ := bcell b1; have z1 := b1.size; (try simp at z1); have d1a := fun o => c1 (w.heap.size) o (by first | omega | (simp; done) | (simp; omega)); have q1a := fun o => f1 (w.heap.size) o (by first | omega | (simp; done) | (simp; omega)); have d1b := fun o => c1 (w.heap.size + 1) o (by first | omega | (simp; done) | (simp; omega)); have q1b := fun o => f1 (w.heap.size + 1) o (by first | omega | (simp; done) | (simp; omega)); clear c1 f1) | (go_at_call 175; (with_reducible refine (HS.out _).mono ?_); rintro e w2 ⟨rfl, rfl⟩))
      go_name_world WWx4 hWWx4
      have ex40 : ∀ Y, (ext WWx4 Y).cell? ⟨w.heap.size, 0, none⟩ = some (.int .i64 x) := by subst hWWx4; intro Y; exact (ext_cell _ Y (by first | omega | (simp; done) | (simp; omega))).trans (by first | (simp (disch := first | omega | (simp; omega)) [World.cell?_alloc_past, *]; done) | (simp (disch := first | omega | (simp; omega)) [World.cell?_setCell_far, World.cell?_alloc_past, *]; done) | (simp (disch := first | omega | (simp; omega)) [World.cell?_alloc_past, *]; rfl) | (simp (disch := first | omega | (simp; omega)) [World.cell?_setCell_far, World.cell?_alloc_past, *]; rfl) | (simp [go_sem, *]; done) | (simp (disch := first | omega | (simp; omega) | (simp [go_sem, *]; done)) [go_sem, World.cell?_setCell_far, World.cell?_alloc_past, *]; done))
      have ex41 : ∀ Y, (ext WWx4 Y).cell? ⟨w.heap.size, 1, none⟩ = some (.int .i64 y) := by subst hWWx4; intro Y; exact (ext_cell _ Y (by first | omega | (simp; done) | (simp; omega))).trans (by first | (simp (disch := first | omega | (simp; omega)) [World.cell?_alloc_past, *]; done) | (simp (disch := first | omega | (simp; omega)) [World.cell?_setCell_far, World.cell?_alloc_past, *]; done) | (simp (disch := first | omega | (simp; omega)) [World.cell?_alloc_past, *]; rfl) | (simp (disch := first | omega | (simp; omega)) [World.cell?_setCell_far, World.cell?_alloc_past, *]; rfl) | (simp [go_sem, *]; done) | (simp (disch := first | omega | (simp; omega) | (simp [go_sem, *]; done)) [go_sem, World.cell?_setCell_far, World.cell?_alloc_past, *]; done))
      have ex42 : ∀ Y, (ext WWx4 Y).cell? ⟨w.heap.size + 1, 0, none⟩ = some (.int .i64 0) := by subst hWWx4; intro Y; exact (ext_cell _ Y (by first | omega | (simp; done) | (simp; omega))).trans (by first | (simp (disch := first | omega | (simp; omega)) [World.cell?_alloc_past, *]; done) | (simp (disch := first | omega | (simp; omega)) [World.cell?_setCell_far, World.cell?_alloc_past, *]; done) | (simp (disch := first | omega | (simp; omega)) [World.cell?_alloc_past, *]; rfl) | (simp (disch := first | omega | (simp; omega)) [World.cell?_setCell_far, World.cell?_alloc_past, *]; rfl) | (simp [go_sem, *]; done) | (simp (disch := first | omega | (simp; omega) | (simp [go_sem, *]; done)) [go_sem, World.cell?_setCell_far, World.cell?_alloc_past, *]; done))
      have ex43 : ∀ Y, (ext WWx4 Y).cell? ⟨w.heap.size + 1, 1, none⟩ = some (.int .i64 0) := by subst hWWx4; intro Y; exact (ext_cell _ Y (by first | omega | (simp; done) | (simp; omega))).trans (by first | (simp (disch := first | omega | (simp; omega)) [World.cell?_alloc_past, *]; done) | (simp (disch := first | omega | (simp; omega)) [World.cell?_setCell_far, World.cell?_alloc_past, *]; done) | (simp (disch := first | omega | (simp; omega)) [World.cell?_alloc_past, *]; rfl) | (simp (disch := first | omega | (simp; omega)) [World.cell?_setCell_far, World.cell?_alloc_past, *]; rfl) | (simp [go_sem, *]; done) | (simp (disch := first | omega | (simp; omega) | (simp [go_sem, *]; done)) [go_sem, World.cell?_setCell_far, World.cell?_alloc_past, *]; done))
      have fzx40 : ∀ Y o, (ext WWx4 Y).frozen? ⟨w.heap.size + 1, o, none⟩ = false := by subst hWWx4; intro Y o; exact (ext_frozen _ Y (by first | omega | (simp; done) | (simp; omega))).trans (by first | (simp (disch := first | omega | (simp; omega)) [World.frozen?_alloc_past, *]; done) | (simp (disch := first | omega | (simp; omega)) [World.frozen?_alloc_past, *]; rfl))
      have bWx4 : Below w.heap.size w WWx4 := by subst hWWx4; (repeat (first | assumption | exact Below.refl _ _ | refine Below.setCell ?_ (by first | omega | (simp; done) | (simp; omega)) _ | refine Below.alloc ?_ (by first | omega | (simp; done) | (simp; omega)) _ | refine Below.drew ?_ | (refine Below.trans ?_ (Below.mono (by assumption) (by first | omega | (simp; done) | (simp; omega))))))
      have lWx40 : w.heap.size < WWx4.heap.size := by subst hWWx4; first | omega | (simp; done) | (simp; omega)
      have lWx41 : w.heap.size + 1 < WWx4.heap.size := by subst hWWx4; first | omega | (simp; done) | (simp; omega)
      clear hWWx4
      refine wp_region_ext_tail 12 (by kernel_rfl) (by kernel_rfl) ?_
      simp only [List.take_succ_cons, List.take_zero, List.drop_succ_cons, List.drop_zero]
      repeat (go_big_quiet_step ((first | fail)))
      refine wpQuiet_nil ?_
      intro _ hw'
      obtain ⟨x4, hw''⟩ := hw'
      subst hw''
      have px40 := ex40 x4
      have px41 := ex41 x4
      have px42 := ex42 x4
      have px43 := ex43 x4
      have gx40 := fzx40 x4
      clear fzx40
      clear ex40 ex41 ex42 ex43
      have bwx4 := bWx4.trans ((ext_below WWx4 x4).mono bWx4.size)
      have zwx4 := bwx4.size
      have zex4 := (ext_below WWx4 x4).size
      go_wp2_with fail
      refine bodyPost_ret (v := .agg #[.int .i64 (x / 2 ^ d.toNat), .int .i64 (y + d)]) (by simp [results, Try.results136, go_sem, *]) rfl ⟨rfl, ?_⟩
      (repeat (first | assumption | exact Below.refl _ _ | refine Below.setCell ?_ (by first | omega | (simp; done) | (simp; omega)) _ | refine Below.alloc ?_ (by first | omega | (simp; done) | (simp; omega)) _ | refine Below.drew ?_ | (refine Below.trans ?_ (Below.mono (by assumption) (by first | omega | (simp; done) | (simp; omega))))))
    · rw [show (min d 41).toNat = 41 from by omega]
      go_enter Try.func136, Try.ntmps136
      go_wp2_with (first | (go_at_call 174; (with_reducible refine (HF.out _).mono ?_); rintro e w1 ⟨rfl, b1⟩; obtain ⟨c1, f1⟩ := bcell b1; have z1 := b1.size; (try simp at z1); have d1a := fun o => c1 (w.heap.size) o (by first | omega | (simp; done) | (simp; omega)); have q1a := fun o => f1 (w.heap.size) o (by first | omega | (simp; done) | (simp; omega)); have d1b := fun o => c1 (w.heap.size + 1) o (by first | omega | (simp; done) | (simp; omega)); have q1b := fun o => f1 (w.heap.size + 1) o (by first | omega | (simp; done) | (simp; omega)); clear c1 f1) | (go_at_call 175; (with_reducible refine (HS.out _).mono ?_); rintro e w2 ⟨rfl, rfl⟩))
      go_name_world WWx4 hWWx4
      have ex40 : ∀ Y, (ext WWx4 Y).cell? ⟨w.heap.size, 0, none⟩ = some (.int .i64 x) := by subst hWWx4; intro Y; exact (ext_cell _ Y (by first | omega | (simp; done) | (simp; omega))).trans (by first | (simp (disch := first | omega | (simp; omega)) [World.cell?_alloc_past, *]; done) | (simp (disch := first | omega | (simp; omega)) [World.cell?_setCell_far, World.cell?_alloc_past, *]; done) | (simp (disch := first | omega | (simp; omega)) [World.cell?_alloc_past, *]; rfl) | (simp (disch := first | omega | (simp; omega)) [World.cell?_setCell_far, World.cell?_alloc_past, *]; rfl) | (simp [go_sem, *]; done) | (simp (disch := first | omega | (simp; omega) | (simp [go_sem, *]; done)) [go_sem, World.cell?_setCell_far, World.cell?_alloc_past, *]; done))
      have ex41 : ∀ Y, (ext WWx4 Y).cell? ⟨w.heap.size, 1, none⟩ = some (.int .i64 y) := by subst hWWx4; intro Y; exact (ext_cell _ Y (by first | omega | (simp; done) | (simp; omega))).trans (by first | (simp (disch := first | omega | (simp; omega)) [World.cell?_alloc_past, *]; done) | (simp (disch := first | omega | (simp; omega)) [World.cell?_setCell_far, World.cell?_alloc_past, *]; done) | (simp (disch := first | omega | (simp; omega)) [World.cell?_alloc_past, *]; rfl) | (simp (disch := first | omega | (simp; omega)) [World.cell?_setCell_far, World.cell?_alloc_past, *]; rfl) | (simp [go_sem, *]; done) | (simp (disch := first | omega | (simp; omega) | (simp [go_sem, *]; done)) [go_sem, World.cell?_setCell_far, World.cell?_alloc_past, *]; done))
      have ex42 : ∀ Y, (ext WWx4 Y).cell? ⟨w.heap.size + 1, 0, none⟩ = some (.int .i64 0) := by subst hWWx4; intro Y; exact (ext_cell _ Y (by first | omega | (simp; done) | (simp; omega))).trans (by first | (simp (disch := first | omega | (simp; omega)) [World.cell?_alloc_past, *]; done) | (simp (disch := first | omega | (simp; omega)) [World.cell?_setCell_far, World.cell?_alloc_past, *]; done) | (simp (disch := first | omega | (simp; omega)) [World.cell?_alloc_past, *]; rfl) | (simp (disch := first | omega | (simp; omega)) [World.cell?_setCell_far, World.cell?_alloc_past, *]; rfl) | (simp [go_sem, *]; done) | (simp (disch := first | omega | (simp; omega) | (simp [go_sem, *]; done)) [go_sem, World.cell?_setCell_far, World.cell?_alloc_past, *]; done))
      have ex43 : ∀ Y, (ext WWx4 Y).cell? ⟨w.heap.size + 1, 1, none⟩ = some (.int .i64 0) := by subst hWWx4; intro Y; exact (ext_cell _ Y (by first | omega | (simp; done) | (simp; omega))).trans (by first | (simp (disch := first | omega | (simp; omega)) [World.cell?_alloc_past, *]; done) | (simp (disch := first | omega | (simp; omega)) [World.cell?_setCell_far, World.cell?_alloc_past, *]; done) | (simp (disch := first | omega | (simp; omega)) [World.cell?_alloc_past, *]; rfl) | (simp (disch := first | omega | (simp; omega)) [World.cell?_setCell_far, World.cell?_alloc_past, *]; rfl) | (simp [go_sem, *]; done) | (simp (disch := first | omega | (simp; omega) | (simp [go_sem, *]; done)) [go_sem, World.cell?_setCell_far, World.cell?_alloc_past, *]; done))
      have fzx40 : ∀ Y o, (ext WWx4 Y).frozen? ⟨w.heap.size + 1, o, none⟩ = false := by subst hWWx4; intro Y o; exact (ext_frozen _ Y (by first | omega | (simp; done) | (simp; omega))).trans (by first | (simp (disch := first | omega | (simp; omega)) [World.frozen?_alloc_past, *]; done) | (simp (disch := first | omega | (simp; omega)) [World.frozen?_alloc_past, *]; rfl))
      have bWx4 : Below w.heap.size w WWx4 := by subst hWWx4; (repeat (first | assumption | exact Below.refl _ _ | refine Below.setCell ?_ (by first | omega | (simp; done) | (simp; omega)) _ | refine Below.alloc ?_ (by first | omega | (simp; done) | (simp; omega)) _ | refine Below.drew ?_ | (refine Below.trans ?_ (Below.mono (by assumption) (by first | omega | (simp; done) | (simp; omega))))))
      have lWx40 : w.heap.size < WWx4.heap.size := by subst hWWx4; first | omega | (simp; done) | (simp; omega)
      have lWx41 : w.heap.size + 1 < WWx4.heap.size := by subst hWWx4; first | omega | (simp; done) | (simp; omega)
      clear hWWx4
      refine wp_region_ext_tail 12 (by kernel_rfl) (by kernel_rfl) ?_
      simp only [List.take_succ_cons, List.take_zero, List.drop_succ_cons, List.drop_zero]
      repeat (go_big_quiet_step ((first | fail)))
      refine wpQuiet_nil ?_
      intro _ hw'
      obtain ⟨x4, hw''⟩ := hw'
      subst hw''
      have px40 := ex40 x4
      have px41 := ex41 x4
      have px42 := ex42 x4
      have px43 := ex43 x4
      have gx40 := fzx40 x4
      clear fzx40
      clear ex40 ex41 ex42 ex43
      have bwx4 := bWx4.trans ((ext_below WWx4 x4).mono bWx4.size)
      have zwx4 := bwx4.size
      have zex4 := (ext_below WWx4 x4).size
      go_wp2_with fail
      refine bodyPost_ret (v := .agg #[.int .i64 (x / 2 ^ 41), .int .i64 (y + d)]) (by simp [results, Try.results136, go_sem, *]) rfl ⟨rfl, ?_⟩
      (repeat (first | assumption | exact Below.refl _ _ | refine Below.setCell ?_ (by first | omega | (simp; done) | (simp; omega)) _ | refine Below.alloc ?_ (by first | omega | (simp; done) | (simp; omega)) _ | refine Below.drew ?_ | (refine Below.trans ?_ (Below.mono (by assumption) (by first | omega | (simp; done) | (simp; omega))))))
  · rw [if_neg (by omega)] at hgd hm ⊢
    rcases Int.lt_or_le 1073741824 half with h2 | h2
    · rw [if_pos h2] at hgd hm ⊢
      subst hgd
      rcases (Int.lt_or_le 41 (d / 1073741824)).symm with h41 | h41
      · rw [show min (d / 1073741824) 41 = d / 1073741824 from by omega]
        go_enter Try.func136, Try.ntmps136
        go_wp2_with (first | (go_at_call 174; (with_reducible refine (HF.out _).mono ?_); rintro e w1 ⟨rfl, b1⟩; obtain ⟨c1, f1⟩ := bcell b1; have z1 := b1.size; (try simp at z1); have d1a := fun o => c1 (w.heap.size) o (by first | omega | (simp; done) | (simp; omega)); have q1a := fun o => f1 (w.heap.size) o (by first | omega | (simp; done) | (simp; omega)); have d1b := fun o => c1 (w.heap.size + 1) o (by first | omega | (simp; done) | (simp; omega)); have q1b := fun o => f1 (w.heap.size + 1) o (by first | omega | (simp; done) | (simp; omega)); clear c1 f1) | (go_at_call 175; (with_reducible refine (HS.out _).mono ?_); rintro e w2 ⟨rfl, rfl⟩))
        go_name_world WWx4 hWWx4
        have ex40 : ∀ Y, (ext WWx4 Y).cell? ⟨w.heap.size, 0, none⟩ = some (.int .i64 x) := by subst hWWx4; intro Y; exact (ext_cell _ Y (by first | omega | (simp; done) | (simp; omega))).trans (by first | (simp (disch := first | omega | (simp; omega)) [World.cell?_alloc_past, *]; done) | (simp (disch := first | omega | (simp; omega)) [World.cell?_setCell_far, World.cell?_alloc_past, *]; done) | (simp (disch := first | omega | (simp; omega)) [World.cell?_alloc_past, *]; rfl) | (simp (disch := first | omega | (simp; omega)) [World.cell?_setCell_far, World.cell?_alloc_past, *]; rfl) | (simp [go_sem, *]; done) | (simp (disch := first | omega | (simp; omega) | (simp [go_sem, *]; done)) [go_sem, World.cell?_setCell_far, World.cell?_alloc_past, *]; done))
        have ex41 : ∀ Y, (ext WWx4 Y).cell? ⟨w.heap.size, 1, none⟩ = some (.int .i64 y) := by subst hWWx4; intro Y; exact (ext_cell _ Y (by first | omega | (simp; done) | (simp; omega))).trans (by first | (simp (disch := first | omega | (simp; omega)) [World.cell?_alloc_past, *]; done) | (simp (disch := first | omega | (simp; omega)) [World.cell?_setCell_far, World.cell?_alloc_past, *]; done) | (simp (disch := first | omega | (simp; omega)) [World.cell?_alloc_past, *]; rfl) | (simp (disch := first | omega | (simp; omega)) [World.cell?_setCell_far, World.cell?_alloc_past, *]; rfl) | (simp [go_sem, *]; done) | (simp (disch := first | omega | (simp; omega) | (simp [go_sem, *]; done)) [go_sem, World.cell?_setCell_far, World.cell?_alloc_past, *]; done))
        have ex42 : ∀ Y, (ext WWx4 Y).cell? ⟨w.heap.size + 1, 0, none⟩ = some (.int .i64 0) := by subst hWWx4; intro Y; exact (ext_cell _ Y (by first | omega | (simp; done) | (simp; omega))).trans (by first | (simp (disch := first | omega | (simp; omega)) [World.cell?_alloc_past, *]; done) | (simp (disch := first | omega | (simp; omega)) [World.cell?_setCell_far, World.cell?_alloc_past, *]; done) | (simp (disch := first | omega | (simp; omega)) [World.cell?_alloc_past, *]; rfl) | (simp (disch := first | omega | (simp; omega)) [World.cell?_setCell_far, World.cell?_alloc_past, *]; rfl) | (simp [go_sem, *]; done) | (simp (disch := first | omega | (simp; omega) | (simp [go_sem, *]; done)) [go_sem, World.cell?_setCell_far, World.cell?_alloc_past, *]; done))
        have ex43 : ∀ Y, (ext WWx4 Y).cell? ⟨w.heap.size + 1, 1, none⟩ = some (.int .i64 0) := by subst hWWx4; intro Y; exact (ext_cell _ Y (by first | omega | (simp; done) | (simp; omega))).trans (by first | (simp (disch := first | omega | (simp; omega)) [World.cell?_alloc_past, *]; done) | (simp (disch := first | omega | (simp; omega)) [World.cell?_setCell_far, World.cell?_alloc_past, *]; done) | (simp (disch := first | omega | (simp; omega)) [World.cell?_alloc_past, *]; rfl) | (simp (disch := first | omega | (simp; omega)) [World.cell?_setCell_far, World.cell?_alloc_past, *]; rfl) | (simp [go_sem, *]; done) | (simp (disch := first | omega | (simp; omega) | (simp [go_sem, *]; done)) [go_sem, World.cell?_setCell_far, World.cell?_alloc_past, *]; done))
        have fzx40 : ∀ Y o, (ext WWx4 Y).frozen? ⟨w.heap.size + 1, o, none⟩ = false := by subst hWWx4; intro Y o; exact (ext_frozen _ Y (by first | omega | (simp; done) | (simp; omega))).trans (by first | (simp (disch := first | omega | (simp; omega)) [World.frozen?_alloc_past, *]; done) | (simp (disch := first | omega | (simp; omega)) [World.frozen?_alloc_past, *]; rfl))
        have bWx4 : Below w.heap.size w WWx4 := by subst hWWx4; (repeat (first | assumption | exact Below.refl _ _ | refine Below.setCell ?_ (by first | omega | (simp; done) | (simp; omega)) _ | refine Below.alloc ?_ (by first | omega | (simp; done) | (simp; omega)) _ | refine Below.drew ?_ | (refine Below.trans ?_ (Below.mono (by assumption) (by first | omega | (simp; done) | (simp; omega))))))
        have lWx40 : w.heap.size < WWx4.heap.size := by subst hWWx4; first | omega | (simp; done) | (simp; omega)
        have lWx41 : w.heap.size + 1 < WWx4.heap.size := by subst hWWx4; first | omega | (simp; done) | (simp; omega)
        clear hWWx4
        refine wp_region_ext_tail 12 (by kernel_rfl) (by kernel_rfl) ?_
        simp only [List.take_succ_cons, List.take_zero, List.drop_succ_cons, List.drop_zero]
        repeat (go_big_quiet_step ((first | fail)))
        refine wpQuiet_nil ?_
        intro _ hw'
        obtain ⟨x4, hw''⟩ := hw'
        subst hw''
        have px40 := ex40 x4
        have px41 := ex41 x4
        have px42 := ex42 x4
        have px43 := ex43 x4
        have gx40 := fzx40 x4
        clear fzx40
        clear ex40 ex41 ex42 ex43
        have bwx4 := bWx4.trans ((ext_below WWx4 x4).mono bWx4.size)
        have zwx4 := bwx4.size
        have zex4 := (ext_below WWx4 x4).size
        go_wp2_with fail
        refine bodyPost_ret (v := .agg #[.int .i64 (x / 2 ^ (d / 1073741824).toNat), .int .i64 (y + d / 1073741824 * 1073741824)]) (by simp [results, Try.results136, go_sem, *]) rfl ⟨rfl, ?_⟩
        (repeat (first | assumption | exact Below.refl _ _ | refine Below.setCell ?_ (by first | omega | (simp; done) | (simp; omega)) _ | refine Below.alloc ?_ (by first | omega | (simp; done) | (simp; omega)) _ | refine Below.drew ?_ | (refine Below.trans ?_ (Below.mono (by assumption) (by first | omega | (simp; done) | (simp; omega))))))
      · rw [show (min (d / 1073741824) 41).toNat = 41 from by omega]
        go_enter Try.func136, Try.ntmps136
        go_wp2_with (first | (go_at_call 174; (with_reducible refine (HF.out _).mono ?_); rintro e w1 ⟨rfl, b1⟩; obtain ⟨c1, f1⟩ := bcell b1; have z1 := b1.size; (try simp at z1); have d1a := fun o => c1 (w.heap.size) o (by first | omega | (simp; done) | (simp; omega)); have q1a := fun o => f1 (w.heap.size) o (by first | omega | (simp; done) | (simp; omega)); have d1b := fun o => c1 (w.heap.size + 1) o (by first | omega | (simp; done) | (simp; omega)); have q1b := fun o => f1 (w.heap.size + 1) o (by first | omega | (simp; done) | (simp; omega)); clear c1 f1) | (go_at_call 175; (with_reducible refine (HS.out _).mono ?_); rintro e w2 ⟨rfl, rfl⟩))
        go_name_world WWx4 hWWx4
        have ex40 : ∀ Y, (ext WWx4 Y).cell? ⟨w.heap.size, 0, none⟩ = some (.int .i64 x) := by subst hWWx4; intro Y; exact (ext_cell _ Y (by first | omega | (simp; done) | (simp; omega))).trans (by first | (simp (disch := first | omega | (simp; omega)) [World.cell?_alloc_past, *]; done) | (simp (disch := first | omega | (simp; omega)) [World.cell?_setCell_far, World.cell?_alloc_past, *]; done) | (simp (disch := first | omega | (simp; omega)) [World.cell?_alloc_past, *]; rfl) | (simp (disch := first | omega | (simp; omega)) [World.cell?_setCell_far, World.cell?_alloc_past, *]; rfl) | (simp [go_sem, *]; done) | (simp (disch := first | omega | (simp; omega) | (simp [go_sem, *]; done)) [go_sem, World.cell?_setCell_far, World.cell?_alloc_past, *]; done))
        have ex41 : ∀ Y, (ext WWx4 Y).cell? ⟨w.heap.size, 1, none⟩ = some (.int .i64 y) := by subst hWWx4; intro Y; exact (ext_cell _ Y (by first | omega | (simp; done) | (simp; omega))).trans (by first | (simp (disch := first | omega | (simp; omega)) [World.cell?_alloc_past, *]; done) | (simp (disch := first | omega | (simp; omega)) [World.cell?_setCell_far, World.cell?_alloc_past, *]; done) | (simp (disch := first | omega | (simp; omega)) [World.cell?_alloc_past, *]; rfl) | (simp (disch := first | omega | (simp; omega)) [World.cell?_setCell_far, World.cell?_alloc_past, *]; rfl) | (simp [go_sem, *]; done) | (simp (disch := first | omega | (simp; omega) | (simp [go_sem, *]; done)) [go_sem, World.cell?_setCell_far, World.cell?_alloc_past, *]; done))
        have ex42 : ∀ Y, (ext WWx4 Y).cell? ⟨w.heap.size + 1, 0, none⟩ = some (.int .i64 0) := by subst hWWx4; intro Y; exact (ext_cell _ Y (by first | omega | (simp; done) | (simp; omega))).trans (by first | (simp (disch := first | omega | (simp; omega)) [World.cell?_alloc_past, *]; done) | (simp (disch := first | omega | (simp; omega)) [World.cell?_setCell_far, World.cell?_alloc_past, *]; done) | (simp (disch := first | omega | (simp; omega)) [World.cell?_alloc_past, *]; rfl) | (simp (disch := first | omega | (simp; omega)) [World.cell?_setCell_far, World.cell?_alloc_past, *]; rfl) | (simp [go_sem, *]; done) | (simp (disch := first | omega | (simp; omega) | (simp [go_sem, *]; done)) [go_sem, World.cell?_setCell_far, World.cell?_alloc_past, *]; done))
        have ex43 : ∀ Y, (ext WWx4 Y).cell? ⟨w.heap.size + 1, 1, none⟩ = some (.int .i64 0) := by subst hWWx4; intro Y; exact (ext_cell _ Y (by first | omega | (simp; done) | (simp; omega))).trans (by first | (simp (disch := first | omega | (simp; omega)) [World.cell?_alloc_past, *]; done) | (simp (disch := first | omega | (simp; omega)) [World.cell?_setCell_far, World.cell?_alloc_past, *]; done) | (simp (disch := first | omega | (simp; omega)) [World.cell?_alloc_past, *]; rfl) | (simp (disch := first | omega | (simp; omega)) [World.cell?_setCell_far, World.cell?_alloc_past, *]; rfl) | (simp [go_sem, *]; done) | (simp (disch := first | omega | (simp; omega) | (simp [go_sem, *]; done)) [go_sem, World.cell?_setCell_far, World.cell?_alloc_past, *]; done))
        have fzx40 : ∀ Y o, (ext WWx4 Y).frozen? ⟨w.heap.size + 1, o, none⟩ = false := by subst hWWx4; intro Y o; exact (ext_frozen _ Y (by first | omega | (simp; done) | (simp; omega))).trans (by first | (simp (disch := first | omega | (simp; omega)) [World.frozen?_alloc_past, *]; done) | (simp (disch := first | omega | (simp; omega)) [World.frozen?_alloc_past, *]; rfl))
        have bWx4 : Below w.heap.size w WWx4 := by subst hWWx4; (repeat (first | assumption | exact Below.refl _ _ | refine Below.setCell ?_ (by first | omega | (simp; done) | (simp; omega)) _ | refine Below.alloc ?_ (by first | omega | (simp; done) | (simp; omega)) _ | refine Below.drew ?_ | (refine Below.trans ?_ (Below.mono (by assumption) (by first | omega | (simp; done) | (simp; omega))))))
        have lWx40 : w.heap.size < WWx4.heap.size := by subst hWWx4; first | omega | (simp; done) | (simp; omega)
        have lWx41 : w.heap.size + 1 < WWx4.heap.size := by subst hWWx4; first | omega | (simp; done) | (simp; omega)
        clear hWWx4
        refine wp_region_ext_tail 12 (by kernel_rfl) (by kernel_rfl) ?_
        simp only [List.take_succ_cons, List.take_zero, List.drop_succ_cons, List.drop_zero]
        repeat (go_big_quiet_step ((first | fail)))
        refine wpQuiet_nil ?_
        intro _ hw'
        obtain ⟨x4, hw''⟩ := hw'
        subst hw''
        have px40 := ex40 x4
        have px41 := ex41 x4
        have px42 := ex42 x4
        have px43 := ex43 x4
        have gx40 := fzx40 x4
        clear fzx40
        clear ex40 ex41 ex42 ex43
        have bwx4 := bWx4.trans ((ext_below WWx4 x4).mono bWx4.size)
        have zwx4 := bwx4.size
        have zex4 := (ext_below WWx4 x4).size
        go_wp2_with fail
        refine bodyPost_ret (v := .agg #[.int .i64 (x / 2 ^ 41), .int .i64 (y + d / 1073741824 * 1073741824)]) (by simp [results, Try.results136, go_sem, *]) rfl ⟨rfl, ?_⟩
        (repeat (first | assumption | exact Below.refl _ _ | refine Below.setCell ?_ (by first | omega | (simp; done) | (simp; omega)) _ | refine Below.alloc ?_ (by first | omega | (simp; done) | (simp; omega)) _ | refine Below.drew ?_ | (refine Below.trans ?_ (Below.mono (by assumption) (by first | omega | (simp; done) | (simp; omega))))))
    · rw [if_neg (by omega)] at hgd hm ⊢
      subst hgd
      have hs0 : (half : Int) ≠ 0 := by omega
      rcases (Int.lt_or_le 41 (d / half)).symm with h41 | h41
      · rw [show min (d / half) 41 = d / half from by omega]
        go_enter Try.func136, Try.ntmps136
        go_wp2_with (first | (go_at_call 174; (with_reducible refine (HF.out _).mono ?_); rintro e w1 ⟨rfl, b1⟩; obtain ⟨c1, f1⟩ := bcell b1; have z1 := b1.size; (try simp at z1); have d1a := fun o => c1 (w.heap.size) o (by first | omega | (simp; done) | (simp; omega)); have q1a := fun o => f1 (w.heap.size) o (by first | omega | (simp; done) | (simp; omega)); have d1b := fun o => c1 (w.heap.size + 1) o (by first | omega | (simp; done) | (simp; omega)); have q1b := fun o => f1 (w.heap.size + 1) o (by first | omega | (simp; done) | (simp; omega)); clear c1 f1) | (go_at_call 175; (with_reducible refine (HS.out _).mono ?_); rintro e w2 ⟨rfl, rfl⟩))
        go_name_world WWx4 hWWx4
        have ex40 : ∀ Y, (ext WWx4 Y).cell? ⟨w.heap.size, 0, none⟩ = some (.int .i64 x) := by subst hWWx4; intro Y; exact (ext_cell _ Y (by first | omega | (simp; done) | (simp; omega))).trans (by first | (simp (disch := first | omega | (simp; omega)) [World.cell?_alloc_past, *]; done) | (simp (disch := first | omega | (simp; omega)) [World.cell?_setCell_far, World.cell?_alloc_past, *]; done) | (simp (disch := first | omega | (simp; omega)) [World.cell?_alloc_past, *]; rfl) | (simp (disch := first | omega | (simp; omega)) [World.cell?_setCell_far, World.cell?_alloc_past, *]; rfl) | (simp [go_sem, *]; done) | (simp (disch := first | omega | (simp; omega) | (simp [go_sem, *]; done)) [go_sem, World.cell?_setCell_far, World.cell?_alloc_past, *]; done))
        have ex41 : ∀ Y, (ext WWx4 Y).cell? ⟨w.heap.size, 1, none⟩ = some (.int .i64 y) := by subst hWWx4; intro Y; exact (ext_cell _ Y (by first | omega | (simp; done) | (simp; omega))).trans (by first | (simp (disch := first | omega | (simp; omega)) [World.cell?_alloc_past, *]; done) | (simp (disch := first | omega | (simp; omega)) [World.cell?_setCell_far, World.cell?_alloc_past, *]; done) | (simp (disch := first | omega | (simp; omega)) [World.cell?_alloc_past, *]; rfl) | (simp (disch := first | omega | (simp; omega)) [World.cell?_setCell_far, World.cell?_alloc_past, *]; rfl) | (simp [go_sem, *]; done) | (simp (disch := first | omega | (simp; omega) | (simp [go_sem, *]; done)) [go_sem, World.cell?_setCell_far, World.cell?_alloc_past, *]; done))
        have ex42 : ∀ Y, (ext WWx4 Y).cell? ⟨w.heap.size + 1, 0, none⟩ = some (.int .i64 0) := by subst hWWx4; intro Y; exact (ext_cell _ Y (by first | omega | (simp; done) | (simp; omega))).trans (by first | (simp (disch := first | omega | (simp; omega)) [World.cell?_alloc_past, *]; done) | (simp (disch := first | omega | (simp; omega)) [World.cell?_setCell_far, World.cell?_alloc_past, *]; done) | (simp (disch := first | omega | (simp; omega)) [World.cell?_alloc_past, *]; rfl) | (simp (disch := first | omega | (simp; omega)) [World.cell?_setCell_far, World.cell?_alloc_past, *]; rfl) | (simp [go_sem, *]; done) | (simp (disch := first | omega | (simp; omega) | (simp [go_sem, *]; done)) [go_sem, World.cell?_setCell_far, World.cell?_alloc_past, *]; done))
        have ex43 : ∀ Y, (ext WWx4 Y).cell? ⟨w.heap.size + 1, 1, none⟩ = some (.int .i64 0) := by subst hWWx4; intro Y; exact (ext_cell _ Y (by first | omega | (simp; done) | (simp; omega))).trans (by first | (simp (disch := first | omega | (simp; omega)) [World.cell?_alloc_past, *]; done) | (simp (disch := first | omega | (simp; omega)) [World.cell?_setCell_far, World.cell?_alloc_past, *]; done) | (simp (disch := first | omega | (simp; omega)) [World.cell?_alloc_past, *]; rfl) | (simp (disch := first | omega | (simp; omega)) [World.cell?_setCell_far, World.cell?_alloc_past, *]; rfl) | (simp [go_sem, *]; done) | (simp (disch := first | omega | (simp; omega) | (simp [go_sem, *]; done)) [go_sem, World.cell?_setCell_far, World.cell?_alloc_past, *]; done))
        have fzx40 : ∀ Y o, (ext WWx4 Y).frozen? ⟨w.heap.size + 1, o, none⟩ = false := by subst hWWx4; intro Y o; exact (ext_frozen _ Y (by first | omega | (simp; done) | (simp; omega))).trans (by first | (simp (disch := first | omega | (simp; omega)) [World.frozen?_alloc_past, *]; done) | (simp (disch := first | omega | (simp; omega)) [World.frozen?_alloc_past, *]; rfl))
        have bWx4 : Below w.heap.size w WWx4 := by subst hWWx4; (repeat (first | assumption | exact Below.refl _ _ | refine Below.setCell ?_ (by first | omega | (simp; done) | (simp; omega)) _ | refine Below.alloc ?_ (by first | omega | (simp; done) | (simp; omega)) _ | refine Below.drew ?_ | (refine Below.trans ?_ (Below.mono (by assumption) (by first | omega | (simp; done) | (simp; omega))))))
        have lWx40 : w.heap.size < WWx4.heap.size := by subst hWWx4; first | omega | (simp; done) | (simp; omega)
        have lWx41 : w.heap.size + 1 < WWx4.heap.size := by subst hWWx4; first | omega | (simp; done) | (simp; omega)
        clear hWWx4
        refine wp_region_ext_tail 12 (by kernel_rfl) (by kernel_rfl) ?_
        simp only [List.take_succ_cons, List.take_zero, List.drop_succ_cons, List.drop_zero]
        repeat (go_big_quiet_step ((first | fail)))
        refine wpQuiet_nil ?_
        intro _ hw'
        obtain ⟨x4, hw''⟩ := hw'
        subst hw''
        have px40 := ex40 x4
        have px41 := ex41 x4
        have px42 := ex42 x4
        have px43 := ex43 x4
        have gx40 := fzx40 x4
        clear fzx40
        clear ex40 ex41 ex42 ex43
        have bwx4 := bWx4.trans ((ext_below WWx4 x4).mono bWx4.size)
        have zwx4 := bwx4.size
        have zex4 := (ext_below WWx4 x4).size
        go_wp2_with fail
        refine bodyPost_ret (v := .agg #[.int .i64 (x / 2 ^ (d / half).toNat), .int .i64 (y + d / half * half)]) (by simp [results, Try.results136, go_sem, *]) rfl ⟨rfl, ?_⟩
        (repeat (first | assumption | exact Below.refl _ _ | refine Below.setCell ?_ (by first | omega | (simp; done) | (simp; omega)) _ | refine Below.alloc ?_ (by first | omega | (simp; done) | (simp; omega)) _ | refine Below.drew ?_ | (refine Below.trans ?_ (Below.mono (by assumption) (by first | omega | (simp; done) | (simp; omega))))))
      · rw [show (min (d / half) 41).toNat = 41 from by omega]
        go_enter Try.func136, Try.ntmps136
        go_wp2_with (first | (go_at_call 174; (with_reducible refine (HF.out _).mono ?_); rintro e w1 ⟨rfl, b1⟩; obtain ⟨c1, f1⟩ := bcell b1; have z1 := b1.size; (try simp at z1); have d1a := fun o => c1 (w.heap.size) o (by first | omega | (simp; done) | (simp; omega)); have q1a := fun o => f1 (w.heap.size) o (by first | omega | (simp; done) | (simp; omega)); have d1b := fun o => c1 (w.heap.size + 1) o (by first | omega | (simp; done) | (simp; omega)); have q1b := fun o => f1 (w.heap.size + 1) o (by first | omega | (simp; done) | (simp; omega)); clear c1 f1) | (go_at_call 175; (with_reducible refine (HS.out _).mono ?_); rintro e w2 ⟨rfl, rfl⟩))
        go_name_world WWx4 hWWx4
        have ex40 : ∀ Y, (ext WWx4 Y).cell? ⟨w.heap.size, 0, none⟩ = some (.int .i64 x) := by subst hWWx4; intro Y; exact (ext_cell _ Y (by first | omega | (simp; done) | (simp; omega))).trans (by first | (simp (disch := first | omega | (simp; omega)) [World.cell?_alloc_past, *]; done) | (simp (disch := first | omega | (simp; omega)) [World.cell?_setCell_far, World.cell?_alloc_past, *]; done) | (simp (disch := first | omega | (simp; omega)) [World.cell?_alloc_past, *]; rfl) | (simp (disch := first | omega | (simp; omega)) [World.cell?_setCell_far, World.cell?_alloc_past, *]; rfl) | (simp [go_sem, *]; done) | (simp (disch := first | omega | (simp; omega) | (simp [go_sem, *]; done)) [go_sem, World.cell?_setCell_far, World.cell?_alloc_past, *]; done))
        have ex41 : ∀ Y, (ext WWx4 Y).cell? ⟨w.heap.size, 1, none⟩ = some (.int .i64 y) := by subst hWWx4; intro Y; exact (ext_cell _ Y (by first | omega | (simp; done) | (simp; omega))).trans (by first | (simp (disch := first | omega | (simp; omega)) [World.cell?_alloc_past, *]; done) | (simp (disch := first | omega | (simp; omega)) [World.cell?_setCell_far, World.cell?_alloc_past, *]; done) | (simp (disch := first | omega | (simp; omega)) [World.cell?_alloc_past, *]; rfl) | (simp (disch := first | omega | (simp; omega)) [World.cell?_setCell_far, World.cell?_alloc_past, *]; rfl) | (simp [go_sem, *]; done) | (simp (disch := first | omega | (simp; omega) | (simp [go_sem, *]; done)) [go_sem, World.cell?_setCell_far, World.cell?_alloc_past, *]; done))
        have ex42 : ∀ Y, (ext WWx4 Y).cell? ⟨w.heap.size + 1, 0, none⟩ = some (.int .i64 0) := by subst hWWx4; intro Y; exact (ext_cell _ Y (by first | omega | (simp; done) | (simp; omega))).trans (by first | (simp (disch := first | omega | (simp; omega)) [World.cell?_alloc_past, *]; done) | (simp (disch := first | omega | (simp; omega)) [World.cell?_setCell_far, World.cell?_alloc_past, *]; done) | (simp (disch := first | omega | (simp; omega)) [World.cell?_alloc_past, *]; rfl) | (simp (disch := first | omega | (simp; omega)) [World.cell?_setCell_far, World.cell?_alloc_past, *]; rfl) | (simp [go_sem, *]; done) | (simp (disch := first | omega | (simp; omega) | (simp [go_sem, *]; done)) [go_sem, World.cell?_setCell_far, World.cell?_alloc_past, *]; done))
        have ex43 : ∀ Y, (ext WWx4 Y).cell? ⟨w.heap.size + 1, 1, none⟩ = some (.int .i64 0) := by subst hWWx4; intro Y; exact (ext_cell _ Y (by first | omega | (simp; done) | (simp; omega))).trans (by first | (simp (disch := first | omega | (simp; omega)) [World.cell?_alloc_past, *]; done) | (simp (disch := first | omega | (simp; omega)) [World.cell?_setCell_far, World.cell?_alloc_past, *]; done) | (simp (disch := first | omega | (simp; omega)) [World.cell?_alloc_past, *]; rfl) | (simp (disch := first | omega | (simp; omega)) [World.cell?_setCell_far, World.cell?_alloc_past, *]; rfl) | (simp [go_sem, *]; done) | (simp (disch := first | omega | (simp; omega) | (simp [go_sem, *]; done)) [go_sem, World.cell?_setCell_far, World.cell?_alloc_past, *]; done))
        have fzx40 : ∀ Y o, (ext WWx4 Y).frozen? ⟨w.heap.size + 1, o, none⟩ = false := by subst hWWx4; intro Y o; exact (ext_frozen _ Y (by first | omega | (simp; done) | (simp; omega))).trans (by first | (simp (disch := first | omega | (simp; omega)) [World.frozen?_alloc_past, *]; done) | (simp (disch := first | omega | (simp; omega)) [World.frozen?_alloc_past, *]; rfl))
        have bWx4 : Below w.heap.size w WWx4 := by subst hWWx4; (repeat (first | assumption | exact Below.refl _ _ | refine Below.setCell ?_ (by first | omega | (simp; done) | (simp; omega)) _ | refine Below.alloc ?_ (by first | omega | (simp; done) | (simp; omega)) _ | refine Below.drew ?_ | (refine Below.trans ?_ (Below.mono (by assumption) (by first | omega | (simp; done) | (simp; omega))))))
        have lWx40 : w.heap.size < WWx4.heap.size := by subst hWWx4; first | omega | (simp; done) | (simp; omega)
        have lWx41 : w.heap.size + 1 < WWx4.heap.size := by subst hWWx4; first | omega | (simp; done) | (simp; omega)
        clear hWWx4
        refine wp_region_ext_tail 12 (by kernel_rfl) (by kernel_rfl) ?_
        simp only [List.take_succ_cons, List.take_zero, List.drop_succ_cons, List.drop_zero]
        repeat (go_big_quiet_step ((first | fail)))
        refine wpQuiet_nil ?_
        intro _ hw'
        obtain ⟨x4, hw''⟩ := hw'
        subst hw''
        have px40 := ex40 x4
        have px41 := ex41 x4
        have px42 := ex42 x4
        have px43 := ex43 x4
        have gx40 := fzx40 x4
        clear fzx40
        clear ex40 ex41 ex42 ex43
        have bwx4 := bWx4.trans ((ext_below WWx4 x4).mono bWx4.size)
        have zwx4 := bwx4.size
        have zex4 := (ext_below WWx4 x4).size
        go_wp2_with fail
        refine bodyPost_ret (v := .agg #[.int .i64 (x / 2 ^ 41), .int .i64 (y + d / half * half)]) (by simp [results, Try.results136, go_sem, *]) rfl ⟨rfl, ?_⟩
        (repeat (first | assumption | exact Below.refl _ _ | refine Below.setCell ?_ (by first | omega | (simp; done) | (simp; omega)) _ | refine Below.alloc ?_ (by first | omega | (simp; done) | (simp; omega)) _ | refine Below.drew ?_ | (refine Below.trans ?_ (Below.mono (by assumption) (by first | omega | (simp; done) | (simp; omega))))))
end Go.Proofs.Ytnohkfbapibmdaa
/- The contract of the reference's way of decay. -/
namespace Go.Proofs.Ytnohkfbapibmdaa
open Go.RowKit
set_option linter.unusedSimpArgs false
set_option linter.unusedVariables false

set_option maxRecDepth 100000 in
set_option maxHeartbeats 8000000 in
theorem refDecay_any (p a half now : Int) (w : World) : Calls Try.prog 139 #[.agg #[.int .i64 p, .int .i64 a], .int .i64 half, .int .i64 now] w fun e w' => e = .returned (.agg #[.int .i64 (decPts p a half now), .int .i64 (decAt a half now)]) ∧ Below w.heap.size w w' := by
  have H1 := Lib.hid (fun w => refFit_any p w); have H2 := Lib.hid (fun w => refFit_any a w); have H3 := Lib.hid (fun w => refFit_any now w)
  have hx := fitI_in p; have hy := fitI_in a; have hn := fitI_in now
  have hgi := gone_in a half now
  have hgm := gone_mul a half now
  have hgf := fitI_in (fitI now - fitI a)
  have hrd := Lib.hid (fun j => @gone_round a half now j)
  have hstp := Lib.hid (fun j => @gone_stop a half now j)
  have hate := Lib.hid (fun j => @atI_end a half now j)
  have hats := Lib.hid (fun j => @at_stop a half now j)
  have hde := Lib.hid (fun j => @dec_end p a half now j)
  have hsp := spanI_in half
  generalize fitI (fitI now - fitI a) = gf at *
  generalize hx0 : fitI p = x at *
  generalize fitI a = y at *
  generalize fitI now = n at *
  generalize decPts p a half now = rp at *
  generalize decAt a half now = ra at *
  generalize gone a half now = G at *
  have hx0 := Lib.hid hx0
  rcases Int.lt_or_le half 1 with h1 | h1
  · have hS : spanI half = 1 := by unfold spanI; rw [if_pos h1]
    rw [hS] at hrd hstp hate hats hsp hgm
    clear hS
    have hx2 : fitI p = x := hx0.out
    go_enter Try.func139, Try.ntmps139
    clear hx2
    go_wp2_with (first | (go_at_call 83; (with_reducible refine (H1.out _).mono ?_); rintro e w1 ⟨rfl, rfl⟩) | (go_at_call 83; (with_reducible refine (H2.out _).mono ?_); rintro e w1 ⟨rfl, rfl⟩) | (go_at_call 83; (with_reducible refine (H3.out _).mono ?_); rintro e w1 ⟨rfl, rfl⟩))
    go_name_world WWx hWWx
    have e0 : WWx.cell? ⟨w.heap.size, 0, none⟩ = some (.int .i64 x) := by subst hWWx; simp [go_sem, *]
    have e1 : WWx.cell? ⟨w.heap.size, 1, none⟩ = some (.int .i64 y) := by subst hWWx; simp [go_sem, *]
    have ef : ∀ o, WWx.frozen? ⟨w.heap.size, o, none⟩ = false := by subst hWWx; intro o; simp [go_sem, *]
    have e2 : WWx.cell? ⟨w.heap.size + 1, 0, none⟩ = some (.int .i64 0) := by subst hWWx; simp [go_sem, *]
    have e3 : WWx.cell? ⟨w.heap.size + 1, 1, none⟩ = some (.int .i64 0) := by subst hWWx; simp [go_sem, *]
    have eg : ∀ o, WWx.frozen? ⟨w.heap.size + 1, o, none⟩ = false := by subst hWWx; intro o; simp [go_sem, *]
    have bw : Below w.heap.size w WWx := by subst hWWx; (repeat (first | assumption | exact Below.refl _ _ | refine Below.setCell ?_ (by first | omega | (simp; done) | (simp; omega)) _ | refine Below.alloc ?_ (by first | omega | (simp; done) | (simp; omega)) _ | refine Below.drew ?_ | (refine Below.trans ?_ (Below.mono (by assumption) (by first | omega | (simp; done) | (simp; omega))))))
    have lW : w.heap.size + 1 < WWx.heap.size := by subst hWWx; simp
    clear hWWx
    go_loopw [] (fun wr => ∃ j : Nat, (j : Int) ≤ G ∧ wr.cell? ⟨w.heap.size, 0, none⟩ = some (.int .i64 (x / 2 ^ j)) ∧ wr.cell? ⟨w.heap.size, 1, none⟩ = some (.int .i64 (y + j * 1)) ∧ (∀ o, wr.frozen? ⟨w.heap.size, o, none⟩ = false) ∧ wr.cell? ⟨w.heap.size + 1, 0, none⟩ = some (.int .i64 0) ∧ wr.cell? ⟨w.heap.size + 1, 1, none⟩ = some (.int .i64 0) ∧ (∀ o, wr.frozen? ⟨w.heap.size + 1, o, none⟩ = false) ∧ w.heap.size + 1 < wr.heap.size ∧ Below w.heap.size w wr) (fun wr => match wr.cell? ⟨w.heap.size, 0, none⟩ with | some (.int _ n) => n.toNat | _ => 0)
    case atStart => exact ⟨0, by simpa using hgi.1, by simpa using e0, by simpa using e1, ef, e2, e3, eg, lW, bw⟩
    case round =>
      obtain ⟨j, hj, k0, k1, kf, k2, k3, kg, lr, hb⟩ := hrel
      clear e0 e1 ef e2 e3 eg bw lW
      have h5 := halves_step x j
      have h6 : y + ((j + 1 : Nat) : Int) * 1 = y + j * 1 + 1 := by rw [show ((j + 1 : Nat) : Int) = j + 1 from by omega, Int.add_mul, Int.one_mul]; omega
      have h7 : 0 ≤ x / 2 ^ j := Int.ediv_nonneg hx.1 (Int.le_of_lt (pow2_pos _))
      have h7b : x / 2 ^ j ≤ x := Int.ediv_le_self _ hx.1
      have h8 : 0 ≤ (j : Int) * 1 := Int.mul_nonneg (by omega) (by omega)
      have h9 : (j : Int) * 1 ≤ G * 1 := Int.mul_le_mul_of_nonneg_right hj (by omega)
      have hr1 := hrd.out j; have hr2 := hstp.out j hj; have hr3 := hate.out j; have hr4 := hats.out j hj; have hr5 := hde.out j hj
      have hA0 : 0 ≤ y + j * 1 := by omega
      have hA1 : y + j * 1 ≤ 3000000000000 := by omega
      have HJ := Lib.hid hj
      clear hrd hstp hate hats hde h8 h9 hj
      generalize hP : x / 2 ^ j = P at *
      generalize hA : y + j * 1 = A at *
      have HP := Lib.hid hP; have HA := Lib.hid hA; have H5 := Lib.hid h5; have H6 := Lib.hid h6
      have HR5 := Lib.hid hr5; have HR1 := Lib.hid hr1; have HR2 := Lib.hid hr2; have HR3 := Lib.hid hr3; have HR4 := Lib.hid hr4
      clear hP hA h5 h6 hr1 hr2 hr3 hr4 hr5
      rcases Int.lt_or_le 0 P with c1 | c1
      · rcases Int.lt_or_le (n - A) 1 with c2 | c2
        · go_wp2_with fail
          refine bodyPost_ret (v := .agg #[.int .i64 P, .int .i64 A]) (by simp [results, Try.results139, go_sem, *]) rfl ⟨?_, ?_⟩
          · rw [HR5.out (Or.inr (HR2.out c2)), HR4.out c2]
          · (repeat (first | assumption | exact Below.refl _ _ | refine Below.setCell ?_ (by first | omega | (simp; done) | (simp; omega)) _ | refine Below.alloc ?_ (by first | omega | (simp; done) | (simp; omega)) _ | refine Below.drew ?_ | (refine Below.trans ?_ (Below.mono (by assumption) (by first | omega | (simp; done) | (simp; omega))))))
        · have hlt : P / 2 < P := by omega
          go_wp2_with fail
          go_roundw
          case rel =>
            refine ⟨j + 1, HR1.out c2, ?_, ?_, ?_, ?_, ?_, ?_, ?_, ?_⟩
            · rw [← H5.out]; simp [go_sem, *]
            · rw [H6.out]; simp [go_sem, *]
            · intro o; simp [go_sem, *]
            · simp [go_sem, *]
            · simp [go_sem, *]
            · intro o; simp [go_sem, *]
            · simp; omega
            · (repeat (first | assumption | exact Below.refl _ _ | refine Below.setCell ?_ (by first | omega | (simp; done) | (simp; omega)) _ | refine Below.alloc ?_ (by first | omega | (simp; done) | (simp; omega)) _ | refine Below.drew ?_ | (refine Below.trans ?_ (Below.mono (by assumption) (by first | omega | (simp; done) | (simp; omega))))))
          case measure => simp [go_sem, *]; omega
      · obtain rfl : P = 0 := by omega
        rcases Int.lt_or_le (n - A) 1 with c2 | c2
        · go_wp2_with fail
          refine bodyPost_ret (v := .agg #[.int .i64 0, .int .i64 A]) (by simp [results, Try.results139, go_sem, *]) rfl ⟨?_, ?_⟩
          · rw [← HR5.out (Or.inl (by simp)), HR4.out c2]
          · (repeat (first | assumption | exact Below.refl _ _ | refine Below.setCell ?_ (by first | omega | (simp; done) | (simp; omega)) _ | refine Below.alloc ?_ (by first | omega | (simp; done) | (simp; omega)) _ | refine Below.drew ?_ | (refine Below.trans ?_ (Below.mono (by assumption) (by first | omega | (simp; done) | (simp; omega))))))
        · have hm1 := Int.emod_nonneg (n - A) (b := 1) (by omega)
          have hm2 := Int.emod_lt_of_pos (n - A) (b := 1) (by omega)
          go_wp2_with fail
          refine bodyPost_ret (v := .agg #[.int .i64 0, .int .i64 (n - (n - A) % 1)]) (by simp [results, Try.results139, go_sem, *]) rfl ⟨?_, ?_⟩
          · rw [← HR5.out (Or.inl (by simp)), HR3.out c2]
          · (repeat (first | assumption | exact Below.refl _ _ | refine Below.setCell ?_ (by first | omega | (simp; done) | (simp; omega)) _ | refine Below.alloc ?_ (by first | omega | (simp; done) | (simp; omega)) _ | refine Below.drew ?_ | (refine Below.trans ?_ (Below.mono (by assumption) (by first | omega | (simp; done) | (simp; omega))))))
  rcases Int.lt_or_le 1073741824 half with h2 | h2
  · have hS : spanI half = 1073741824 := by unfold spanI; rw [if_neg (by omega), if_pos h2]
    rw [hS] at hrd hstp hate hats hsp hgm
    clear hS
    have hx2 : fitI p = x := hx0.out
    go_enter Try.func139, Try.ntmps139
    clear hx2
    go_wp2_with (first | (go_at_call 83; (with_reducible refine (H1.out _).mono ?_); rintro e w1 ⟨rfl, rfl⟩) | (go_at_call 83; (with_reducible refine (H2.out _).mono ?_); rintro e w1 ⟨rfl, rfl⟩) | (go_at_call 83; (with_reducible refine (H3.out _).mono ?_); rintro e w1 ⟨rfl, rfl⟩))
    go_name_world WWx hWWx
    have e0 : WWx.cell? ⟨w.heap.size, 0, none⟩ = some (.int .i64 x) := by subst hWWx; simp [go_sem, *]
    have e1 : WWx.cell? ⟨w.heap.size, 1, none⟩ = some (.int .i64 y) := by subst hWWx; simp [go_sem, *]
    have ef : ∀ o, WWx.frozen? ⟨w.heap.size, o, none⟩ = false := by subst hWWx; intro o; simp [go_sem, *]
    have e2 : WWx.cell? ⟨w.heap.size + 1, 0, none⟩ = some (.int .i64 0) := by subst hWWx; simp [go_sem, *]
    have e3 : WWx.cell? ⟨w.heap.size + 1, 1, none⟩ = some (.int .i64 0) := by subst hWWx; simp [go_sem, *]
    have eg : ∀ o, WWx.frozen? ⟨w.heap.size + 1, o, none⟩ = false := by subst hWWx; intro o; simp [go_sem, *]
    have bw : Below w.heap.size w WWx := by subst hWWx; (repeat (first | assumption | exact Below.refl _ _ | refine Below.setCell ?_ (by first | omega | (simp; done) | (simp; omega)) _ | refine Below.alloc ?_ (by first | omega | (simp; done) | (simp; omega)) _ | refine Below.drew ?_ | (refine Below.trans ?_ (Below.mono (by assumption) (by first | omega | (simp; done) | (simp; omega))))))
    have lW : w.heap.size + 1 < WWx.heap.size := by subst hWWx; simp
    clear hWWx
    go_loopw [] (fun wr => ∃ j : Nat, (j : Int) ≤ G ∧ wr.cell? ⟨w.heap.size, 0, none⟩ = some (.int .i64 (x / 2 ^ j)) ∧ wr.cell? ⟨w.heap.size, 1, none⟩ = some (.int .i64 (y + j * 1073741824)) ∧ (∀ o, wr.frozen? ⟨w.heap.size, o, none⟩ = false) ∧ wr.cell? ⟨w.heap.size + 1, 0, none⟩ = some (.int .i64 0) ∧ wr.cell? ⟨w.heap.size + 1, 1, none⟩ = some (.int .i64 0) ∧ (∀ o, wr.frozen? ⟨w.heap.size + 1, o, none⟩ = false) ∧ w.heap.size + 1 < wr.heap.size ∧ Below w.heap.size w wr) (fun wr => match wr.cell? ⟨w.heap.size, 0, none⟩ with | some (.int _ n) => n.toNat | _ => 0)
    case atStart => exact ⟨0, by simpa using hgi.1, by simpa using e0, by simpa using e1, ef, e2, e3, eg, lW, bw⟩
    case round =>
      obtain ⟨j, hj, k0, k1, kf, k2, k3, kg, lr, hb⟩ := hrel
      clear e0 e1 ef e2 e3 eg bw lW
      have h5 := halves_step x j
      have h6 : y + ((j + 1 : Nat) : Int) * 1073741824 = y + j * 1073741824 + 1073741824 := by rw [show ((j + 1 : Nat) : Int) = j + 1 from by omega, Int.add_mul, Int.one_mul]; omega
      have h7 : 0 ≤ x / 2 ^ j := Int.ediv_nonneg hx.1 (Int.le_of_lt (pow2_pos _))
      have h7b : x / 2 ^ j ≤ x := Int.ediv_le_self _ hx.1
      have h8 : 0 ≤ (j : Int) * 1073741824 := Int.mul_nonneg (by omega) (by omega)
      have h9 : (j : Int) * 1073741824 ≤ G * 1073741824 := Int.mul_le_mul_of_nonneg_right hj (by omega)
      have hr1 := hrd.out j; have hr2 := hstp.out j hj; have hr3 := hate.out j; have hr4 := hats.out j hj; have hr5 := hde.out j hj
      have hA0 : 0 ≤ y + j * 1073741824 := by omega
      have hA1 : y + j * 1073741824 ≤ 3000000000000 := by omega
      have HJ := Lib.hid hj
      clear hrd hstp hate hats hde h8 h9 hj
      generalize hP : x / 2 ^ j = P at *
      generalize hA : y + j * 1073741824 = A at *
      have HP := Lib.hid hP; have HA := Lib.hid hA; have H5 := Lib.hid h5; have H6 := Lib.hid h6
      have HR5 := Lib.hid hr5; have HR1 := Lib.hid hr1; have HR2 := Lib.hid hr2; have HR3 := Lib.hid hr3; have HR4 := Lib.hid hr4
      clear hP hA h5 h6 hr1 hr2 hr3 hr4 hr5
      rcases Int.lt_or_le 0 P with c1 | c1
      · rcases Int.lt_or_le (n - A) 1073741824 with c2 | c2
        · go_wp2_with fail
          refine bodyPost_ret (v := .agg #[.int .i64 P, .int .i64 A]) (by simp [results, Try.results139, go_sem, *]) rfl ⟨?_, ?_⟩
          · rw [HR5.out (Or.inr (HR2.out c2)), HR4.out c2]
          · (repeat (first | assumption | exact Below.refl _ _ | refine Below.setCell ?_ (by first | omega | (simp; done) | (simp; omega)) _ | refine Below.alloc ?_ (by first | omega | (simp; done) | (simp; omega)) _ | refine Below.drew ?_ | (refine Below.trans ?_ (Below.mono (by assumption) (by first | omega | (simp; done) | (simp; omega))))))
        · have hlt : P / 2 < P := by omega
          go_wp2_with fail
          go_roundw
          case rel =>
            refine ⟨j + 1, HR1.out c2, ?_, ?_, ?_, ?_, ?_, ?_, ?_, ?_⟩
            · rw [← H5.out]; simp [go_sem, *]
            · rw [H6.out]; simp [go_sem, *]
            · intro o; simp [go_sem, *]
            · simp [go_sem, *]
            · simp [go_sem, *]
            · intro o; simp [go_sem, *]
            · simp; omega
            · (repeat (first | assumption | exact Below.refl _ _ | refine Below.setCell ?_ (by first | omega | (simp; done) | (simp; omega)) _ | refine Below.alloc ?_ (by first | omega | (simp; done) | (simp; omega)) _ | refine Below.drew ?_ | (refine Below.trans ?_ (Below.mono (by assumption) (by first | omega | (simp; done) | (simp; omega))))))
          case measure => simp [go_sem, *]; omega
      · obtain rfl : P = 0 := by omega
        rcases Int.lt_or_le (n - A) 1073741824 with c2 | c2
        · go_wp2_with fail
          refine bodyPost_ret (v := .agg #[.int .i64 0, .int .i64 A]) (by simp [results, Try.results139, go_sem, *]) rfl ⟨?_, ?_⟩
          · rw [← HR5.out (Or.inl (by simp)), HR4.out c2]
          · (repeat (first | assumption | exact Below.refl _ _ | refine Below.setCell ?_ (by first | omega | (simp; done) | (simp; omega)) _ | refine Below.alloc ?_ (by first | omega | (simp; done) | (simp; omega)) _ | refine Below.drew ?_ | (refine Below.trans ?_ (Below.mono (by assumption) (by first | omega | (simp; done) | (simp; omega))))))
        · have hm1 := Int.emod_nonneg (n - A) (b := 1073741824) (by omega)
          have hm2 := Int.emod_lt_of_pos (n - A) (b := 1073741824) (by omega)
          go_wp2_with fail
          refine bodyPost_ret (v := .agg #[.int .i64 0, .int .i64 (n - (n - A) % 1073741824)]) (by simp [results, Try.results139, go_sem, *]) rfl ⟨?_, ?_⟩
          · rw [← HR5.out (Or.inl (by simp)), HR3.out c2]
          · (repeat (first | assumption | exact Below.refl _ _ | refine Below.setCell ?_ (by first | omega | (simp; done) | (simp; omega)) _ | refine Below.alloc ?_ (by first | omega | (simp; done) | (simp; omega)) _ | refine Below.drew ?_ | (refine Below.trans ?_ (Below.mono (by assumption) (by first | omega | (simp; done) | (simp; omega))))))
  · have hS : spanI half = half := by unfold spanI; rw [if_neg (by omega), if_neg (by omega)]
    rw [hS] at hrd hstp hate hats hsp hgm
    clear hS
    have hx2 : fitI p = x := hx0.out
    go_enter Try.func139, Try.ntmps139
    clear hx2
    go_wp2_with (first | (go_at_call 83; (with_reducible refine (H1.out _).mono ?_); rintro e w1 ⟨rfl, rfl⟩) | (go_at_call 83; (with_reducible refine (H2.out _).mono ?_); rintro e w1 ⟨rfl, rfl⟩) | (go_at_call 83; (with_reducible refine (H3.out _).mono ?_); rintro e w1 ⟨rfl, rfl⟩))
    go_name_world WWx hWWx
    have e0 : WWx.cell? ⟨w.heap.size, 0, none⟩ = some (.int .i64 x) := by subst hWWx; simp [go_sem, *]
    have e1 : WWx.cell? ⟨w.heap.size, 1, none⟩ = some (.int .i64 y) := by subst hWWx; simp [go_sem, *]
    have ef : ∀ o, WWx.frozen? ⟨w.heap.size, o, none⟩ = false := by subst hWWx; intro o; simp [go_sem, *]
    have e2 : WWx.cell? ⟨w.heap.size + 1, 0, none⟩ = some (.int .i64 0) := by subst hWWx; simp [go_sem, *]
    have e3 : WWx.cell? ⟨w.heap.size + 1, 1, none⟩ = some (.int .i64 0) := by subst hWWx; simp [go_sem, *]
    have eg : ∀ o, WWx.frozen? ⟨w.heap.size + 1, o, none⟩ = false := by subst hWWx; intro o; simp [go_sem, *]
    have bw : Below w.heap.size w WWx := by subst hWWx; (repeat (first | assumption | exact Below.refl _ _ | refine Below.setCell ?_ (by first | omega | (simp; done) | (simp; omega)) _ | refine Below.alloc ?_ (by first | omega | (simp; done) | (simp; omega)) _ | refine Below.drew ?_ | (refine Below.trans ?_ (Below.mono (by assumption) (by first | omega | (simp; done) | (simp; omega))))))
    have lW : w.heap.size + 1 < WWx.heap.size := by subst hWWx; simp
    clear hWWx
    go_loopw [] (fun wr => ∃ j : Nat, (j : Int) ≤ G ∧ wr.cell? ⟨w.heap.size, 0, none⟩ = some (.int .i64 (x / 2 ^ j)) ∧ wr.cell? ⟨w.heap.size, 1, none⟩ = some (.int .i64 (y + j * half)) ∧ (∀ o, wr.frozen? ⟨w.heap.size, o, none⟩ = false) ∧ wr.cell? ⟨w.heap.size + 1, 0, none⟩ = some (.int .i64 0) ∧ wr.cell? ⟨w.heap.size + 1, 1, none⟩ = some (.int .i64 0) ∧ (∀ o, wr.frozen? ⟨w.heap.size + 1, o, none⟩ = false) ∧ w.heap.size + 1 < wr.heap.size ∧ Below w.heap.size w wr) (fun wr => match wr.cell? ⟨w.heap.size, 0, none⟩ with | some (.int _ n) => n.toNat | _ => 0)
    case atStart => exact ⟨0, by simpa using hgi.1, by simpa using e0, by simpa using e1, ef, e2, e3, eg, lW, bw⟩
    case round =>
      obtain ⟨j, hj, k0, k1, kf, k2, k3, kg, lr, hb⟩ := hrel
      clear e0 e1 ef e2 e3 eg bw lW
      have h5 := halves_step x j
      have h6 : y + ((j + 1 : Nat) : Int) * half = y + j * half + half := by rw [show ((j + 1 : Nat) : Int) = j + 1 from by omega, Int.add_mul, Int.one_mul]; omega
      have h7 : 0 ≤ x / 2 ^ j := Int.ediv_nonneg hx.1 (Int.le_of_lt (pow2_pos _))
      have h7b : x / 2 ^ j ≤ x := Int.ediv_le_self _ hx.1
      have h8 : 0 ≤ (j : Int) * half := Int.mul_nonneg (by omega) (by omega)
      have h9 : (j : Int) * half ≤ G * half := Int.mul_le_mul_of_nonneg_right hj (by omega)
      have hr1 := hrd.out j; have hr2 := hstp.out j hj; have hr3 := hate.out j; have hr4 := hats.out j hj; have hr5 := hde.out j hj
      have hA0 : 0 ≤ y + j * half := by omega
      have hA1 : y + j * half ≤ 3000000000000 := by omega
      have HJ := Lib.hid hj
      clear hrd hstp hate hats hde h8 h9 hj
      generalize hP : x / 2 ^ j = P at *
      generalize hA : y + j * half = A at *
      have HP := Lib.hid hP; have HA := Lib.hid hA; have H5 := Lib.hid h5; have H6 := Lib.hid h6
      have HR5 := Lib.hid hr5; have HR1 := Lib.hid hr1; have HR2 := Lib.hid hr2; have HR3 := Lib.hid hr3; have HR4 := Lib.hid hr4
      clear hP hA h5 h6 hr1 hr2 hr3 hr4 hr5
      rcases Int.lt_or_le 0 P with c1 | c1
      · rcases Int.lt_or_le (n - A) half with c2 | c2
        · go_wp2_with fail
          refine bodyPost_ret (v := .agg #[.int .i64 P, .int .i64 A]) (by simp [results, Try.results139, go_sem, *]) rfl ⟨?_, ?_⟩
          · rw [HR5.out (Or.inr (HR2.out c2)), HR4.out c2]
          · (repeat (first | assumption | exact Below.refl _ _ | refine Below.setCell ?_ (by first | omega | (simp; done) | (simp; omega)) _ | refine Below.alloc ?_ (by first | omega | (simp; done) | (simp; omega)) _ | refine Below.drew ?_ | (refine Below.trans ?_ (Below.mono (by assumption) (by first | omega | (simp; done) | (simp; omega))))))
        · have hlt : P / 2 < P := by omega
          go_wp2_with fail
          go_roundw
          case rel =>
            refine ⟨j + 1, HR1.out c2, ?_, ?_, ?_, ?_, ?_, ?_, ?_, ?_⟩
            · rw [← H5.out]; simp [go_sem, *]
            · rw [H6.out]; simp [go_sem, *]
            · intro o; simp [go_sem, *]
            · simp [go_sem, *]
            · simp [go_sem, *]
            · intro o; simp [go_sem, *]
            · simp; omega
            · (repeat (first | assumption | exact Below.refl _ _ | refine Below.setCell ?_ (by first | omega | (simp; done) | (simp; omega)) _ | refine Below.alloc ?_ (by first | omega | (simp; done) | (simp; omega)) _ | refine Below.drew ?_ | (refine Below.trans ?_ (Below.mono (by assumption) (by first | omega | (simp; done) | (simp; omega))))))
          case measure => simp [go_sem, *]; omega
      · obtain rfl : P = 0 := by omega
        rcases Int.lt_or_le (n - A) half with c2 | c2
        · go_wp2_with fail
          refine bodyPost_ret (v := .agg #[.int .i64 0, .int .i64 A]) (by simp [results, Try.results139, go_sem, *]) rfl ⟨?_, ?_⟩
          · rw [← HR5.out (Or.inl (by simp)), HR4.out c2]
          · (repeat (first | assumption | exact Below.refl _ _ | refine Below.setCell ?_ (by first | omega | (simp; done) | (simp; omega)) _ | refine Below.alloc ?_ (by first | omega | (simp; done) | (simp; omega)) _ | refine Below.drew ?_ | (refine Below.trans ?_ (Below.mono (by assumption) (by first | omega | (simp; done) | (simp; omega))))))
        · have hm1 := Int.emod_nonneg (n - A) (b := half) (by omega)
          have hm2 := Int.emod_lt_of_pos (n - A) (b := half) (by omega)
          go_wp2_with fail
          refine bodyPost_ret (v := .agg #[.int .i64 0, .int .i64 (n - (n - A) % half)]) (by simp [results, Try.results139, go_sem, *]) rfl ⟨?_, ?_⟩
          · rw [← HR5.out (Or.inl (by simp)), HR3.out c2]
          · (repeat (first | assumption | exact Below.refl _ _ | refine Below.setCell ?_ (by first | omega | (simp; done) | (simp; omega)) _ | refine Below.alloc ?_ (by first | omega | (simp; done) | (simp; omega)) _ | refine Below.drew ?_ | (refine Below.trans ?_ (Below.mono (by assumption) (by first | omega | (simp; done) | (simp; omega))))))
end Go.Proofs.Ytnohkfbapibmdaa
/- The contracts of scores to which points are added. -/
namespace Go.Proofs.Ytnohkfbapibmdaa
open Go.RowKit
set_option linter.unusedSimpArgs false
set_option linter.unusedVariables false

set_option maxRecDepth 100000 in
set_option maxHeartbeats 4000000 in
theorem scoreAdd_any (p a points half now : Int) (w : World) : Calls Try.prog 84 #[.agg #[.int .i64 p, .int .i64 a], .int .i64 points, .int .i64 half, .int .i64 now] w fun e w' => e = .returned (.agg #[.int .i64 (addPts p a half now points), .int .i64 (decAt a half now)]) ∧ Below w.heap.size w w' := by
  have HD := Lib.hid (fun w => decay_any p a half now w)
  have HM := Lib.hid (fun w => mul_any points w)
  have hA := fun w => add_any (decPts p a half now) (mulI points) w
  have h1 := decPts_in p a half now; have h2 := mulI_in points
  rw [fitI_same h1.1 h1.2, fitI_same h2.1 h2.2] at hA
  have e : fitI (decPts p a half now + mulI points) = addPts p a half now points := rfl
  rw [e] at hA
  clear e h1 h2
  generalize addPts p a half now points = r at *
  generalize decPts p a half now = x at *
  generalize decAt a half now = y at *
  generalize mulI points = m at *
  have HA := Lib.hid hA; clear hA
  go_enter Try.func84, Try.ntmps84
  go_wp2_with (go_at_call 136; (with_reducible refine (HD.out _).mono ?_); rintro e w1 ⟨rfl, b1⟩; obtain ⟨c1, f1⟩ := bcell b1; have z1 := b1.size; (try simp at z1); have d1a := fun o => c1 (w.heap.size) o (by first | omega | (simp; done) | (simp; omega)); have q1a := fun o => f1 (w.heap.size) o (by first | omega | (simp; done) | (simp; omega)); have d1b := fun o => c1 (w.heap.size + 1) o (by first | omega | (simp; done) | (simp; omega)); have q1b := fun o => f1 (w.heap.size + 1) o (by first | omega | (simp; done) | (simp; omega)); clear c1 f1)
  go_name_world WWx2 hWWx2
  have ex20 : ∀ Y, (ext WWx2 Y).cell? ⟨w.heap.size, 0, none⟩ = some (.int .i64 x) := by subst hWWx2; intro Y; exact (ext_cell _ Y (by first | omega | (simp; done) | (simp; omega))).trans (by first | (simp (disch := first | omega | (simp; omega)) [World.cell?_alloc_past, *]; done) | (simp (disch := first | omega | (simp; omega)) [World.cell?_setCell_far, World.cell?_alloc_past, *]; done) | (simp (disch := first | omega | (simp; omega)) [World.cell?_alloc_past, *]; rfl) | (simp (disch := first | omega | (simp; omega)) [World.cell?_setCell_far, World.cell?_alloc_past, *]; rfl) | (simp [go_sem, *]; done) | (simp (disch := first | omega | (simp; omega) | (simp [go_sem, *]; done)) [go_sem, World.cell?_setCell_far, World.cell?_alloc_past, *]; done))
  have ex21 : ∀ Y, (ext WWx2 Y).cell? ⟨w.heap.size, 1, none⟩ = some (.int .i64 y) := by subst hWWx2; intro Y; exact (ext_cell _ Y (by first | omega | (simp; done) | (simp; omega))).trans (by first | (simp (disch := first | omega | (simp; omega)) [World.cell?_alloc_past, *]; done) | (simp (disch := first | omega | (simp; omega)) [World.cell?_setCell_far, World.cell?_alloc_past, *]; done) | (simp (disch := first | omega | (simp; omega)) [World.cell?_alloc_past, *]; rfl) | (simp (disch := first | omega | (simp; omega)) [World.cell?_setCell_far, World.cell?_alloc_past, *]; rfl) | (simp [go_sem, *]; done) | (simp (disch := first | omega | (simp; omega) | (simp [go_sem, *]; done)) [go_sem, World.cell?_setCell_far, World.cell?_alloc_past, *]; done))
  have ex22 : ∀ Y, (ext WWx2 Y).cell? ⟨w.heap.size + 1, 0, none⟩ = some (.int .i64 0) := by subst hWWx2; intro Y; exact (ext_cell _ Y (by first | omega | (simp; done) | (simp; omega))).trans (by first | (simp (disch := first | omega | (simp; omega)) [World.cell?_alloc_past, *]; done) | (simp (disch := first | omega | (simp; omega)) [World.cell?_setCell_far, World.cell?_alloc_past, *]; done) | (simp (disch := first | omega | (simp; omega)) [World.cell?_alloc_past, *]; rfl) | (simp (disch := first | omega | (simp; omega)) [World.cell?_setCell_far, World.cell?_alloc_past, *]; rfl) | (simp [go_sem, *]; done) | (simp (disch := first | omega | (simp; omega) | (simp [go_sem, *]; done)) [go_sem, World.cell?_setCell_far, World.cell?_alloc_past, *]; done))
  have ex23 : ∀ Y, (ext WWx2 Y).cell? ⟨w.heap.size + 1, 1, none⟩ = some (.int .i64 0) := by subst hWWx2; intro Y; exact (ext_cell _ Y (by first | omega | (simp; done) | (simp; omega))).trans (by first | (simp (disch := first | omega | (simp; omega)) [World.cell?_alloc_past, *]; done) | (simp (disch := first | omega | (simp; omega)) [World.cell?_setCell_far, World.cell?_alloc_past, *]; done) | (simp (disch := first | omega | (simp; omega)) [World.cell?_alloc_past, *]; rfl) | (simp (disch := first | omega | (simp; omega)) [World.cell?_setCell_far, World.cell?_alloc_past, *]; rfl) | (simp [go_sem, *]; done) | (simp (disch := first | omega | (simp; omega) | (simp [go_sem, *]; done)) [go_sem, World.cell?_setCell_far, World.cell?_alloc_past, *]; done))
  have fzx20 : ∀ Y o, (ext WWx2 Y).frozen? ⟨w.heap.size, o, none⟩ = false := by subst hWWx2; intro Y o; exact (ext_frozen _ Y (by first | omega | (simp; done) | (simp; omega))).trans (by first | (simp (disch := first | omega | (simp; omega)) [World.frozen?_alloc_past, *]; done) | (simp (disch := first | omega | (simp; omega)) [World.frozen?_alloc_past, *]; rfl))
  have fzx21 : ∀ Y o, (ext WWx2 Y).frozen? ⟨w.heap.size + 1, o, none⟩ = false := by subst hWWx2; intro Y o; exact (ext_frozen _ Y (by first | omega | (simp; done) | (simp; omega))).trans (by first | (simp (disch := first | omega | (simp; omega)) [World.frozen?_alloc_past, *]; done) | (simp (disch := first | omega | (simp; omega)) [World.frozen?_alloc_past, *]; rfl))
  have bWx2 : Below w.heap.size w WWx2 := by subst hWWx2; (repeat (first | assumption | exact Below.refl _ _ | refine Below.setCell ?_ (by first | omega | (simp; done) | (simp; omega)) _ | refine Below.alloc ?_ (by first | omega | (simp; done) | (simp; omega)) _ | refine Below.drew ?_ | (refine Below.trans ?_ (Below.mono (by assumption) (by first | omega | (simp; done) | (simp; omega))))))
  have lWx20 : w.heap.size < WWx2.heap.size := by subst hWWx2; first | omega | (simp; done) | (simp; omega)
  have lWx21 : w.heap.size + 1 < WWx2.heap.size := by subst hWWx2; first | omega | (simp; done) | (simp; omega)
  clear hWWx2
  refine wp_region_ext_tail 6 (by kernel_rfl) (by kernel_rfl) ?_
  simp only [List.take_succ_cons, List.take_zero, List.drop_succ_cons, List.drop_zero]
  repeat (go_big_quiet_step ((first | (go_at_call 138; with_reducible exact qs (HM.out _)) | (go_at_call 137; with_reducible exact qs (HA.out _)))))
  refine wpQuiet_nil ?_
  intro _ hw'
  obtain ⟨x2, hw''⟩ := hw'
  subst hw''
  have px20 := ex20 x2
  have px21 := ex21 x2
  have px22 := ex22 x2
  have px23 := ex23 x2
  have gx20 := fzx20 x2
  clear fzx20
  have gx21 := fzx21 x2
  clear fzx21
  clear ex20 ex21 ex22 ex23
  have bwx2 := bWx2.trans ((ext_below WWx2 x2).mono bWx2.size)
  have zwx2 := bwx2.size
  have zex2 := (ext_below WWx2 x2).size
  go_wp2_with fail
  refine bodyPost_ret (v := .agg #[.int .i64 r, .int .i64 y]) (by simp [results, Try.results84, go_sem, *]) rfl ⟨rfl, ?_⟩
  (repeat (first | assumption | exact Below.refl _ _ | refine Below.setCell ?_ (by first | omega | (simp; done) | (simp; omega)) _ | refine Below.alloc ?_ (by first | omega | (simp; done) | (simp; omega)) _ | refine Below.drew ?_ | (refine Below.trans ?_ (Below.mono (by assumption) (by first | omega | (simp; done) | (simp; omega))))))
set_option maxRecDepth 100000 in
set_option maxHeartbeats 4000000 in
theorem refScoreAdd_any (p a points half now : Int) (w : World) : Calls Try.prog 85 #[.agg #[.int .i64 p, .int .i64 a], .int .i64 points, .int .i64 half, .int .i64 now] w fun e w' => e = .returned (.agg #[.int .i64 (addPts p a half now points), .int .i64 (decAt a half now)]) ∧ Below w.heap.size w w' := by
  have HD := Lib.hid (fun w => refDecay_any p a half now w)
  have HF := Lib.hid (fun w => refFit_any points w)
  have h1 := decPts_in p a half now; have h2 := fitI_in points
  unfold addPts
  generalize decPts p a half now = x at *
  generalize decAt a half now = y at *
  generalize fitI points = m at *
  rcases Int.lt_or_le 16777216 m with hm | hm
  · rw [show min m 16777216 * 65536 = 1099511627776 from by omega]
    have HG := Lib.hid (fun w => refFit_any (x + 1099511627776) w)
    generalize fitI (x + 1099511627776) = r at *
    go_enter Try.func85, Try.ntmps85
    go_wp2_with (first | (go_at_call 139; (with_reducible refine (HD.out _).mono ?_); rintro e w1 ⟨rfl, b1⟩; obtain ⟨c1, f1⟩ := bcell b1; have z1 := b1.size; (try simp at z1); have d1a := fun o => c1 (w.heap.size) o (by first | omega | (simp; done) | (simp; omega)); have q1a := fun o => f1 (w.heap.size) o (by first | omega | (simp; done) | (simp; omega)); have d1b := fun o => c1 (w.heap.size + 1) o (by first | omega | (simp; done) | (simp; omega)); have q1b := fun o => f1 (w.heap.size + 1) o (by first | omega | (simp; done) | (simp; omega)); clear c1 f1) | (go_at_call 83; (with_reducible refine (HF.out _).mono ?_); rintro e w2 ⟨rfl, rfl⟩) | (go_at_call 83; (with_reducible refine (HG.out _).mono ?_); rintro e w3 ⟨rfl, rfl⟩))
    refine bodyPost_ret (v := .agg #[.int .i64 r, .int .i64 y]) (by simp [results, Try.results85, go_sem, *]) rfl ⟨rfl, ?_⟩
    (repeat (first | assumption | exact Below.refl _ _ | refine Below.setCell ?_ (by first | omega | (simp; done) | (simp; omega)) _ | refine Below.alloc ?_ (by first | omega | (simp; done) | (simp; omega)) _ | refine Below.drew ?_ | (refine Below.trans ?_ (Below.mono (by assumption) (by first | omega | (simp; done) | (simp; omega))))))
  · rw [show min m 16777216 = m from by omega]
    have HG := Lib.hid (fun w => refFit_any (x + m * 65536) w)
    generalize fitI (x + m * 65536) = r at *
    go_enter Try.func85, Try.ntmps85
    go_wp2_with (first | (go_at_call 139; (with_reducible refine (HD.out _).mono ?_); rintro e w1 ⟨rfl, b1⟩; obtain ⟨c1, f1⟩ := bcell b1; have z1 := b1.size; (try simp at z1); have d1a := fun o => c1 (w.heap.size) o (by first | omega | (simp; done) | (simp; omega)); have q1a := fun o => f1 (w.heap.size) o (by first | omega | (simp; done) | (simp; omega)); have d1b := fun o => c1 (w.heap.size + 1) o (by first | omega | (simp; done) | (simp; omega)); have q1b := fun o => f1 (w.heap.size + 1) o (by first | omega | (simp; done) | (simp; omega)); clear c1 f1) | (go_at_call 83; (with_reducible refine (HF.out _).mono ?_); rintro e w2 ⟨rfl, rfl⟩) | (go_at_call 83; (with_reducible refine (HG.out _).mono ?_); rintro e w3 ⟨rfl, rfl⟩))
    refine bodyPost_ret (v := .agg #[.int .i64 r, .int .i64 y]) (by simp [results, Try.results85, go_sem, *]) rfl ⟨rfl, ?_⟩
    (repeat (first | assumption | exact Below.refl _ _ | refine Below.setCell ?_ (by first | omega | (simp; done) | (simp; omega)) _ | refine Below.alloc ?_ (by first | omega | (simp; done) | (simp; omega)) _ | refine Below.drew ?_ | (refine Below.trans ?_ (Below.mono (by assumption) (by first | omega | (simp; done) | (simp; omega))))))
end Go.Proofs.Ytnohkfbapibmdaa
