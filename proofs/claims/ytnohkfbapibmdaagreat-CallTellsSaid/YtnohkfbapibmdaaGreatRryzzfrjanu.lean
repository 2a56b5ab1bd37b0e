/- Texts put together: NetF. No condition. -/
import Derived.Test.YtnohkfbapibmdaaGreatRkxmxirntph
namespace Go.Proofs.YtnohkfbapibmdaaGreat
open Go.RowKit
set_option linter.unusedSimpArgs false
set_option linter.unusedVariables false

set_option maxRecDepth 100000 in
set_option maxHeartbeats 4000000 in
theorem ntRight_any (n : Nt) (hf : n.ad.fits) (w : World) : Calls Tryz.prog 52 #[.agg #[.bool n.ad.v6, .int .u64 n.ad.hi, .int .u64 n.ad.lo, .int .i64 n.bits]] w fun e w' => e = .returned (.bool (ntRight n)) ∧ Below w.heap.size w w' := by
  have hM := fun w => adMake_any n.ad hf n.bits w
  unfold GivesNt at hM
  have hr := ntRight_make n
  generalize adMake n.ad n.bits = r at *
  obtain ⟨m, ok⟩ := r
  simp only at hr hM
  have q := fun W => eqlNt m n W
  have HM := Lib.hid hM; clear hM
  cases ok with
  | false =>
    rw [Bool.false_and] at hr
    rw [hr]
    clear q hr
    go_enter Tryz.func52, Tryz.ntmps52
    go_wp2_with (go_at_call 75; (with_reducible refine (HM.out _).mono ?_); rintro e w1 ⟨rfl, b1⟩; obtain ⟨c1, f1⟩ := bcell b1; have z1 := b1.size; (try simp at z1); have l1a : w.heap.size < w1.heap.size := (by omega); have n1a := Nat.ne_of_lt l1a; have d1a := fun o => c1 (w.heap.size) o (by first | omega | (simp; done) | (simp; omega)); clear c1 f1)
    go_ret
    refine ⟨rfl, ?_⟩
    (repeat (first | assumption | exact Below.refl _ _ | refine Below.setCell ?_ (by first | omega | (simp; done) | (simp; omega)) _ | refine Below.alloc ?_ (by first | omega | (simp; done) | (simp; omega)) _ | refine Below.drew ?_ | (refine Below.trans ?_ (Below.mono (by assumption) (by first | omega | (simp; done) | (simp; omega))))))
  | true =>
    rw [Bool.true_and] at hr
    rw [hr]
    clear hr
    go_enter Tryz.func52, Tryz.ntmps52
    go_wp2_with (go_at_call 75; (with_reducible refine (HM.out _).mono ?_); rintro e w1 ⟨rfl, b1⟩; obtain ⟨c1, f1⟩ := bcell b1; have z1 := b1.size; (try simp at z1); have l1a : w.heap.size < w1.heap.size := (by omega); have n1a := Nat.ne_of_lt l1a; have d1a := fun o => c1 (w.heap.size) o (by first | omega | (simp; done) | (simp; omega)); clear c1 f1)
    go_ret
    refine ⟨rfl, ?_⟩
    (repeat (first | assumption | exact Below.refl _ _ | refine Below.setCell ?_ (by first | omega | (simp; done) | (simp; omega)) _ | refine Below.alloc ?_ (by first | omega | (simp; done) | (simp; omega)) _ | refine Below.drew ?_ | (refine Below.trans ?_ (Below.mono (by assumption) (by first | omega | (simp; done) | (simp; omega))))))
set_option maxRecDepth 100000 in
set_option maxHeartbeats 4000000 in
theorem refNtRight_any (n : Nt) (hf : n.ad.fits) (w : World) : Calls Tryz.prog 27 #[.agg #[.bool n.ad.v6, .int .u64 n.ad.hi, .int .u64 n.ad.lo, .int .i64 n.bits]] w fun e w' => e = .returned (.bool (ntRight n)) ∧ Below w.heap.size w w' := by
  have hR := fun w => refAdRight_any n.ad hf w
  have HB := Lib.hid (fun w => refAdBits_any n.ad w)
  have HBi := Lib.hid (fun i w => refAdBit_any n.ad hf i w)
  have hnn := adBits_nn n.ad
  have hbits := ntRight_bits n hf
  obtain ⟨r, hr⟩ : ∃ r, ntRight n = r := ⟨_, rfl⟩
  rw [hr] at hbits ⊢
  cases hrr : adRight n.ad with
  | false =>
    have hz : r = false := by rw [← hr]; unfold ntRight; rw [hrr]; rfl
    subst hz
    rw [hrr] at hR
    have HR := Lib.hid hR; clear hR hbits hr
    go_enter Tryz.func27, Tryz.ntmps27
    go_wp2_with fail
    go_name_world WWx hWWx
    have ex0 : ∀ Y, (ext WWx Y).cell? ⟨w.heap.size, 0, none⟩ = some (.bool n.ad.v6) := by subst hWWx; intro Y; exact (ext_cell _ Y (by first | omega | (simp; done) | (simp; omega))).trans (by first | (simp (disch := first | omega | (simp; omega)) [World.cell?_alloc_past, *]; done) | (simp (disch := first | omega | (simp; omega)) [World.cell?_setCell_far, World.cell?_alloc_past, *]; done) | (simp (disch := first | omega | (simp; omega)) [World.cell?_alloc_past, *]; rfl) | (simp (disch := first | omega | (simp; omega)) [World.cell?_setCell_far, World.cell?_alloc_past, *]; rfl) | (simp [go_sem, *]; done) | (simp (disch := first | omega | (simp; omega) | (simp [go_sem, *]; done)) [go_sem, World.cell?_setCell_far, World.cell?_alloc_past, *]; done))
    have ex1 : ∀ Y, (ext WWx Y).cell? ⟨w.heap.size, 1, none⟩ = some (.int .u64 n.ad.hi) := by subst hWWx; intro Y; exact (ext_cell _ Y (by first | omega | (simp; done) | (simp; omega))).trans (by first | (simp (disch := first | omega | (simp; omega)) [World.cell?_alloc_past, *]; done) | (simp (disch := first | omega | (simp; omega)) [World.cell?_setCell_far, World.cell?_alloc_past, *]; done) | (simp (disch := first | omega | (simp; omega)) [World.cell?_alloc_past, *]; rfl) | (simp (disch := first | omega | (simp; omega)) [World.cell?_setCell_far, World.cell?_alloc_past, *]; rfl) | (simp [go_sem, *]; done) | (simp (disch := first | omega | (simp; omega) | (simp [go_sem, *]; done)) [go_sem, World.cell?_setCell_far, World.cell?_alloc_past, *]; done))
    have ex2 : ∀ Y, (ext WWx Y).cell? ⟨w.heap.size, 2, none⟩ = some (.int .u64 n.ad.lo) := by subst hWWx; intro Y; exact (ext_cell _ Y (by first | omega | (simp; done) | (simp; omega))).trans (by first | (simp (disch := first | omega | (simp; omega)) [World.cell?_alloc_past, *]; done) | (simp (disch := first | omega | (simp; omega)) [World.cell?_setCell_far, World.cell?_alloc_past, *]; done) | (simp (disch := first | omega | (simp; omega)) [World.cell?_alloc_past, *]; rfl) | (simp (disch := first | omega | (simp; omega)) [World.cell?_setCell_far, World.cell?_alloc_past, *]; rfl) | (simp [go_sem, *]; done) | (simp (disch := first | omega | (simp; omega) | (simp [go_sem, *]; done)) [go_sem, World.cell?_setCell_far, World.cell?_alloc_past, *]; done))
    have ex3 : ∀ Y, (ext WWx Y).cell? ⟨w.heap.size, 3, none⟩ = some (.int .i64 n.bits) := by subst hWWx; intro Y; exact (ext_cell _ Y (by first | omega | (simp; done) | (simp; omega))).trans (by first | (simp (disch := first | omega | (simp; omega)) [World.cell?_alloc_past, *]; done) | (simp (disch := first | omega | (simp; omega)) [World.cell?_setCell_far, World.cell?_alloc_past, *]; done) | (simp (disch := first | omega | (simp; omega)) [World.cell?_alloc_past, *]; rfl) | (simp (disch := first | omega | (simp; omega)) [World.cell?_setCell_far, World.cell?_alloc_past, *]; rfl) | (simp [go_sem, *]; done) | (simp (disch := first | omega | (simp; omega) | (simp [go_sem, *]; done)) [go_sem, World.cell?_setCell_far, World.cell?_alloc_past, *]; done))
    have bWx : Below w.heap.size w WWx := by subst hWWx; (repeat (first | assumption | exact Below.refl _ _ | refine Below.setCell ?_ (by first | omega | (simp; done) | (simp; omega)) _ | refine Below.alloc ?_ (by first | omega | (simp; done) | (simp; omega)) _ | refine Below.drew ?_ | (refine Below.trans ?_ (Below.mono (by assumption) (by first | omega | (simp; done) | (simp; omega))))))
    have lWx0 : w.heap.size < WWx.heap.size := by subst hWWx; first | omega | (simp; done) | (simp; omega)
    clear hWWx
    try simp only [List.append_eq, List.cons_append, List.nil_append]
    refine wp_region_ext (by kernel_rfl) (by kernel_rfl) ?_
    repeat (go_big_quiet_step ((first | (go_at_call 28; with_reducible exact qe (HR.out _)) | (go_at_call 55; with_reducible exact qe (HB.out _)))))
    refine wpQuiet_nil ?_
    intro _ hw'
    obtain ⟨x, hw''⟩ := hw'
    subst hw''
    have px0 := ex0 x
    have px1 := ex1 x
    have px2 := ex2 x
    have px3 := ex3 x
    clear ex0 ex1 ex2 ex3
    have bwx := bWx.trans ((ext_below WWx x).mono bWx.size)
    have zwx := bwx.size
    have zex := (ext_below WWx x).size
    go_wp2_with fail
    go_ret
    exact ⟨rfl, bwx⟩
  | true =>
    rw [hrr] at hR
    have HR := Lib.hid hR; clear hR
    by_cases h0 : n.bits < 0
    · have hz : r = false := by rw [← hr]; unfold ntRight; rw [decide_eq_false (show ¬ 0 ≤ n.bits from by omega)]; simp
      subst hz
      have hd0 : decide (n.bits < 0) = true := decide_eq_true h0
      clear hbits hr
      go_enter Tryz.func27, Tryz.ntmps27
      go_wp2_with fail
      go_name_world WWx hWWx
      have ex0 : ∀ Y, (ext WWx Y).cell? ⟨w.heap.size, 0, none⟩ = some (.bool n.ad.v6) := by subst hWWx; intro Y; exact (ext_cell _ Y (by first | omega | (simp; done) | (simp; omega))).trans (by first | (simp (disch := first | omega | (simp; omega)) [World.cell?_alloc_past, *]; done) | (simp (disch := first | omega | (simp; omega)) [World.cell?_setCell_far, World.cell?_alloc_past, *]; done) | (simp (disch := first | omega | (simp; omega)) [World.cell?_alloc_past, *]; rfl) | (simp (disch := first | omega | (simp; omega)) [World.cell?_setCell_far, World.cell?_alloc_past, *]; rfl) | (simp [go_sem, *]; done) | (simp (disch := first | omega | (simp; omega) | (simp [go_sem, *]; done)) [go_sem, World.cell?_setCell_far, World.cell?_alloc_past, *]; done))
      have ex1 : ∀ Y, (ext WWx Y).cell? ⟨w.heap.size, 1, none⟩ = some (.int .u64 n.ad.hi) := by subst hWWx; intro Y; exact (ext_cell _ Y (by first | omega | (simp; done) | (simp; omega))).trans (by first | (simp (disch := first | omega | (simp; omega)) [World.cell?_alloc_past, *]; done) | (simp (disch := first | omega | (simp; omega)) [World.cell?_setCell_far, World.cell?_alloc_past, *]; done) | (simp (disch := first | omega | (simp; omega)) [World.cell?_alloc_past, *]; rfl) | (simp (disch := first | omega | (simp; omega)) [World.cell?_setCell_far, World.cell?_alloc_past, *]; rfl) | (simp [go_sem, *]; done) | (simp (disch := first | omega | (simp; omega) | (simp [go_sem, *]; done)) [go_sem, World.cell?_setCell_far, World.cell?_alloc_past, *]; done))
      have ex2 : ∀ Y, (ext WWx Y).cell? ⟨w.heap.size, 2, none⟩ = some (.int .u64 n.ad.lo) := by subst hWWx; intro Y; exact (ext_cell _ Y (by first | omega | (simp; done) | (simp; omega))).trans (by first | (simp (disch := first | omega | (simp; omega)) [World.cell?_alloc_past, *]; done) | (simp (disch := first | omega | (simp; omega)) [World.cell?_setCell_far, World.cell?_alloc_past, *]; done) | (simp (disch := first | omega | (simp; omega)) [World.cell?_alloc_past, *]; rfl) | (simp (disch := first | omega | (simp; omega)) [World.cell?_setCell_far, World.cell?_alloc_past, *]; rfl) | (simp [go_sem, *]; done) | (simp (disch := first | omega | (simp; omega) | (simp [go_sem, *]; done)) [go_sem, World.cell?_setCell_far, World.cell?_alloc_past, *]; done))
      have ex3 : ∀ Y, (ext WWx Y).cell? ⟨w.heap.size, 3, none⟩ = some (.int .i64 n.bits) := by subst hWWx; intro Y; exact (ext_cell _ Y (by first | omega | (simp; done) | (simp; omega))).trans (by first | (simp (disch := first | omega | (simp; omega)) [World.cell?_alloc_past, *]; done) | (simp (disch := first | omega | (simp; omega)) [World.cell?_setCell_far, World.cell?_alloc_past, *]; done) | (simp (disch := first | omega | (simp; omega)) [World.cell?_alloc_past, *]; rfl) | (simp (disch := first | omega | (simp; omega)) [World.cell?_setCell_far, World.cell?_alloc_past, *]; rfl) | (simp [go_sem, *]; done) | (simp (disch := first | omega | (simp; omega) | (simp [go_sem, *]; done)) [go_sem, World.cell?_setCell_far, World.cell?_alloc_past, *]; done))
      have bWx : Below w.heap.size w WWx := by subst hWWx; (repeat (first | assumption | exact Below.refl _ _ | refine Below.setCell ?_ (by first | omega | (simp; done) | (simp; omega)) _ | refine Below.alloc ?_ (by first | omega | (simp; done) | (simp; omega)) _ | refine Below.drew ?_ | (refine Below.trans ?_ (Below.mono (by assumption) (by first | omega | (simp; done) | (simp; omega))))))
      have lWx0 : w.heap.size < WWx.heap.size := by subst hWWx; first | omega | (simp; done) | (simp; omega)
      clear hWWx
      try simp only [List.append_eq, List.cons_append, List.nil_append]
      refine wp_region_ext (by kernel_rfl) (by kernel_rfl) ?_
      repeat (go_big_quiet_step ((first | (go_at_call 28; with_reducible exact qe (HR.out _)) | (go_at_call 55; with_reducible exact qe (HB.out _)))))
      refine wpQuiet_nil ?_
      intro _ hw'
      obtain ⟨x, hw''⟩ := hw'
      subst hw''
      have px0 := ex0 x
      have px1 := ex1 x
      have px2 := ex2 x
      have px3 := ex3 x
      clear ex0 ex1 ex2 ex3
      have bwx := bWx.trans ((ext_below WWx x).mono bWx.size)
      have zwx := bwx.size
      have zex := (ext_below WWx x).size
      go_wp2_with fail
      go_ret
      exact ⟨rfl, bwx⟩
    have hd0 : decide (n.bits < 0) = false := decide_eq_false h0
    by_cases h1 : adBits n.ad < n.bits
    · have hz : r = false := by rw [← hr]; unfold ntRight; rw [decide_eq_false (show ¬ n.bits ≤ adBits n.ad from by omega)]; simp
      subst hz
      have hd1 : decide (adBits n.ad < n.bits) = true := decide_eq_true h1
      clear hbits hr
      go_enter Tryz.func27, Tryz.ntmps27
      go_wp2_with fail
      go_name_world WWx hWWx
      have ex0 : ∀ Y, (ext WWx Y).cell? ⟨w.heap.size, 0, none⟩ = some (.bool n.ad.v6) := by subst hWWx; intro Y; exact (ext_cell _ Y (by first | omega | (simp; done) | (simp; omega))).trans (by first | (simp (disch := first | omega | (simp; omega)) [World.cell?_alloc_past, *]; done) | (simp (disch := first | omega | (simp; omega)) [World.cell?_setCell_far, World.cell?_alloc_past, *]; done) | (simp (disch := first | omega | (simp; omega)) [World.cell?_alloc_past, *]; rfl) | (simp (disch := first | omega | (simp; omega)) [World.cell?_setCell_far, World.cell?_alloc_past, *]; rfl) | (simp [go_sem, *]; done) | (simp (disch := first | omega | (simp; omega) | (simp [go_sem, *]; done)) [go_sem, World.cell?_setCell_far, World.cell?_alloc_past, *]; done))
      have ex1 : ∀ Y, (ext WWx Y).cell? ⟨w.heap.size, 1, none⟩ = some (.int .u64 n.ad.hi) := by subst hWWx; intro Y; exact (ext_cell _ Y (by first | omega | (simp; done) | (simp; omega))).trans (by first | (simp (disch := first | omega | (simp; omega)) [World.cell?_alloc_past, *]; done) | (simp (disch := first | omega | (simp; omega)) [World.cell?_setCell_far, World.cell?_alloc_past, *]; done) | (simp (disch := first | omega | (simp; omega)) [World.cell?_alloc_past, *]; rfl) | (simp (disch := first | omega | (simp; omega)) [World.cell?_setCell_far, World.cell?_alloc_past, *]; rfl) | (simp [go_sem, *]; done) | (simp (disch := first | omega | (simp; omega) | (simp [go_sem, *]; done)) [go_sem, World.cell?_setCell_far, World.cell?_alloc_past, *]; done))
      have ex2 : ∀ Y, (ext WWx Y).cell? ⟨w.heap.size, 2, none⟩ = some (.int .u64 n.ad.lo) := by subst hWWx; intro Y; exact (ext_cell _ Y (by first | omega | (simp; done) | (simp; omega))).trans (by first | (simp (disch := first | omega | (simp; omega)) [World.cell?_alloc_past, *]; done) | (simp (disch := first | omega | (simp; omega)) [World.cell?_setCell_far, World.cell?_alloc_past, *]; done) | (simp (disch := first | omega | (simp; omega)) [World.cell?_alloc_past, *]; rfl) | (simp (disch := first | omega | (simp; omega)) [World.cell?_setCell_far, World.cell?_alloc_past, *]; rfl) | (simp [go_sem, *]; done) | (simp (disch := first | omega | (simp; omega) | (simp [go_sem, *]; done)) [go_sem, World.cell?_setCell_far, World.cell?_alloc_past, *]; done))
      have ex3 : ∀ Y, (ext WWx Y).cell? ⟨w.heap.size, 3, none⟩ = some (.int .i64 n.bits) := by subst hWWx; intro Y; exact (ext_cell _ Y (by first | omega | (simp; done) | (simp; omega))).trans (by first | (simp (disch := first | omega | (simp; omega)) [World.cell?_alloc_past, *]; done) | (simp (disch := first | omega | (simp; omega)) [World.cell?_setCell_far, World.cell?_alloc_past, *]; done) | (simp (disch := first | omega | (simp; omega)) [World.cell?_alloc_past, *]; rfl) | (simp (disch := first | omega | (simp; omega)) [World.cell?_setCell_far, World.cell?_alloc_past, *]; rfl) | (simp [go_sem, *]; done) | (simp (disch := first | omega | (simp; omega) | (simp [go_sem, *]; done)) [go_sem, World.cell?_setCell_far, World.cell?_alloc_past, *]; done))
      have bWx : Below w.heap.size w WWx := by subst hWWx; (repeat (first | assumption | exact Below.refl _ _ | refine Below.setCell ?_ (by first | omega | (simp; done) | (simp; omega)) _ | refine Below.alloc ?_ (by first | omega | (simp; done) | (simp; omega)) _ | refine Below.drew ?_ | (refine Below.trans ?_ (Below.mono (by assumption) (by first | omega | (simp; done) | (simp; omega))))))
      have lWx0 : w.heap.size < WWx.heap.size := by subst hWWx; first | omega | (simp; done) | (simp; omega)
      clear hWWx
      try simp only [List.append_eq, List.cons_append, List.nil_append]
      refine wp_region_ext (by kernel_rfl) (by kernel_rfl) ?_
      repeat (go_big_quiet_step ((first | (go_at_call 28; with_reducible exact qe (HR.out _)) | (go_at_call 55; with_reducible exact qe (HB.out _)))))
      refine wpQuiet_nil ?_
      intro _ hw'
      obtain ⟨x, hw''⟩ := hw'
      subst hw''
      have px0 := ex0 x
      have px1 := ex1 x
      have px2 := ex2 x
      have px3 := ex3 x
      clear ex0 ex1 ex2 ex3
      have bwx := bWx.trans ((ext_below WWx x).mono bWx.size)
      have zwx := bwx.size
      have zex := (ext_below WWx x).size
      go_wp2_with fail
      go_ret
      exact ⟨rfl, bwx⟩
    have hd1 : decide (adBits n.ad < n.bits) = false := decide_eq_false h1
    have HBITS := Lib.hid (hbits hrr (by omega) (by omega)); clear hbits hr
    generalize adBits n.ad = nb at *
    go_enter Tryz.func27, Tryz.ntmps27
    go_wp2_with fail
    go_name_world WWx hWWx
    have ex0 : ∀ Y, (ext WWx Y).cell? ⟨w.heap.size, 0, none⟩ = some (.bool n.ad.v6) := by subst hWWx; intro Y; exact (ext_cell _ Y (by first | omega | (simp; done) | (simp; omega))).trans (by first | (simp (disch := first | omega | (simp; omega)) [World.cell?_alloc_past, *]; done) | (simp (disch := first | omega | (simp; omega)) [World.cell?_setCell_far, World.cell?_alloc_past, *]; done) | (simp (disch := first | omega | (simp; omega)) [World.cell?_alloc_past, *]; rfl) | (simp (disch := first | omega | (simp; omega)) [World.cell?_setCell_far, World.cell?_alloc_past, *]; rfl) | (simp [go_sem, *]; done) | (simp (disch := first | omega | (simp; omega) | (simp [go_sem, *]; done)) [go_sem, World.cell?_setCell_far, World.cell?_alloc_past, *]; done))
    have ex1 : ∀ Y, (ext WWx Y).cell? ⟨w.heap.size, 1, none⟩ = some (.int .u64 n.ad.hi) := by subst hWWx; intro Y; exact (ext_cell _ Y (by first | omega | (simp; done) | (simp; omega))).trans (by first | (simp (disch := first | omega | (simp; omega)) [World.cell?_alloc_past, *]; done) | (simp (disch := first | omega | (simp; omega)) [World.cell?_setCell_far, World.cell?_alloc_past, *]; done) | (simp (disch := first | omega | (simp; omega)) [World.cell?_alloc_past, *]; rfl) | (simp (disch := first | omega | (simp; omega)) [World.cell?_setCell_far, World.cell?_alloc_past, *]; rfl) | (simp [go_sem, *]; done) | (simp (disch := first | omega | (simp; omega) | (simp [go_sem, *]; done)) [go_sem, World.cell?_setCell_far, World.cell?_alloc_past, *]; done))
    have ex2 : ∀ Y, (ext WWx Y).cell? ⟨w.heap.size, 2, none⟩ = some (.int .u64 n.ad.lo) := by subst hWWx; intro Y; exact (ext_cell _ Y (by first | omega | (simp; done) | (simp; omega))).trans (by first | (simp (disch := first | omega | (simp; omega)) [World.cell?_alloc_past, *]; done) | (simp (disch := first | omega | (simp; omega)) [World.cell?_setCell_far, World.cell?_alloc_past, *]; done) | (simp (disch := first | omega | (simp; omega)) [World.cell?_alloc_past, *]; rfl) | (simp (disch := first | omega | (simp; omega)) [World.cell?_setCell_far, World.cell?_alloc_past, *]; rfl) | (simp [go_sem, *]; done) | (simp (disch := first | omega | (simp; omega) | (simp [go_sem, *]; done)) [go_sem, World.cell?_setCell_far, World.cell?_alloc_past, *]; done))
    have ex3 : ∀ Y, (ext WWx Y).cell? ⟨w.heap.size, 3, none⟩ = some (.int .i64 n.bits) := by subst hWWx; intro Y; exact (ext_cell _ Y (by first | omega | (simp; done) | (simp; omega))).trans (by first | (simp (disch := first | omega | (simp; omega)) [World.cell?_alloc_past, *]; done) | (simp (disch := first | omega | (simp; omega)) [World.cell?_setCell_far, World.cell?_alloc_past, *]; done) | (simp (disch := first | omega | (simp; omega)) [World.cell?_alloc_past, *]; rfl) | (simp (disch := first | omega | (simp; omega)) [World.cell?_setCell_far, World.cell?_alloc_past, *]; rfl) | (simp [go_sem, *]; done) | (simp (disch := first | omega | (simp; omega) | (simp [go_sem, *]; done)) [go_sem, World.cell?_setCell_far, World.cell?_alloc_past, *]; done))
    have bWx : Below w.heap.size w WWx := by subst hWWx; (repeat (first | assumption | exact Below.refl _ _ | refine Below.setCell ?_ (by first | omega | (simp; done) | (simp; omega)) _ | refine Below.alloc ?_ (by first | omega | (simp; done) | (simp; omega)) _ | refine Below.drew ?_ | (refine Below.trans ?_ (Below.mono (by assumption) (by first | omega | (simp; done) | (simp; omega))))))
    have lWx0 : w.heap.size < WWx.heap.size := by subst hWWx; first | omega | (simp; done) | (simp; omega)
    clear hWWx
    try simp only [List.append_eq, List.cons_append, List.nil_append]
    refine wp_region_ext (by kernel_rfl) (by kernel_rfl) ?_
    repeat (go_big_quiet_step ((first | (go_at_call 28; with_reducible exact qe (HR.out _)) | (go_at_call 55; with_reducible exact qe (HB.out _)))))
    refine wpQuiet_nil ?_
    intro _ hw'
    obtain ⟨x, hw''⟩ := hw'
    subst hw''
    have px0 := ex0 x
    have px1 := ex1 x
    have px2 := ex2 x
    have px3 := ex3 x
    clear ex0 ex1 ex2 ex3
    have bwx := bWx.trans ((ext_below WWx x).mono bWx.size)
    have zwx := bwx.size
    have zex := (ext_below WWx x).size
    go_wp2_with fail
    obtain ⟨b0, hb0⟩ : ∃ b0 : Nat, n.bits = b0 := ⟨n.bits.toNat, by omega⟩
    have HB0 := Lib.hid hb0; clear hb0
    go_loopw [3] (fun i wr => ∃ k : Nat, i = .int .i64 k ∧ n.bits ≤ k ∧ (k : Int) ≤ nb ∧ Hid (noBits n.ad n.bits k = true) ∧ Below (ext WWx x).heap.size (ext WWx x) wr) (fun i _ => 128 - (intOf i).toNat)
    case atStart => have hb0 := HB0.out; exact ⟨b0, by rw [hb0], by omega, by omega, noBits_start _ _ _ (by omega), Below.refl _ _⟩
    case round =>
      obtain ⟨k, rfl, hk0, hk, HN, hb⟩ := hrel
      have p0 := keep hb (by omega) px0
      have p1 := keep hb (by omega) px1
      have p2 := keep hb (by omega) px2
      have zr := hb.size
      have bww := bwx.trans (hb.mono zwx)
      by_cases hlt : (k : Int) < nb
      · have hdl : decide ((k : Int) < nb) = true := decide_eq_true hlt
        have hBk := fun w => HBi.out k w
        rcases adBit_2 n.ad k with hv | hv
        · rw [show ((adBit n.ad k : Nat) : Int) = 0 from by rw [hv]; rfl] at hBk
          have HBk := Lib.hid hBk; clear hBk
          have HV := Lib.hid hv; clear hv
          go_wp2_with (first | (go_at_call 55; (with_reducible refine (HB.out _).mono ?_); rintro e w1 ⟨rfl, b1⟩; obtain ⟨c1, f1⟩ := bcell b1; have z1 := b1.size; (try simp at z1); have d1a := fun o => c1 (w.heap.size) o (by first | omega | (simp; done) | (simp; omega)); clear c1 f1) | (go_at_call 56; (with_reducible refine (HBk.out _).mono ?_); rintro e w2 ⟨rfl, b2⟩; obtain ⟨c2, f2⟩ := bcell b2; have z2 := b2.size; (try simp at z2); clear c2 f2))
          go_roundw
          case rel => exact ⟨k + 1, by go_num, by omega, by omega, noBits_good _ _ _ HN.out (by rw [HV.out]; omega), hb.trans ((b1.trans (b2.mono b1.size)).mono zr)⟩
          case measure => simp [intOf]; omega
        · rw [show ((adBit n.ad k : Nat) : Int) = 1 from by rw [hv]; rfl] at hBk
          have HBk := Lib.hid hBk; clear hBk
          have HV := Lib.hid hv; clear hv
          go_wp2_with (first | (go_at_call 55; (with_reducible refine (HB.out _).mono ?_); rintro e w1 ⟨rfl, b1⟩; obtain ⟨c1, f1⟩ := bcell b1; have z1 := b1.size; (try simp at z1); have d1a := fun o => c1 (w.heap.size) o (by first | omega | (simp; done) | (simp; omega)); clear c1 f1) | (go_at_call 56; (with_reducible refine (HBk.out _).mono ?_); rintro e w2 ⟨rfl, b2⟩; obtain ⟨c2, f2⟩ := bcell b2; have z2 := b2.size; (try simp at z2); clear c2 f2))
          go_ret
          refine ⟨ret_bool ?_, ?_⟩
          · rw [HBITS.out, noBits_bad _ _ k _ hk0 (by omega) HV.out]
          · (repeat (first | assumption | exact Below.refl _ _ | refine Below.setCell ?_ (by first | omega | (simp; done) | (simp; omega)) _ | refine Below.alloc ?_ (by first | omega | (simp; done) | (simp; omega)) _ | refine Below.drew ?_ | (refine Below.trans ?_ (Below.mono (by assumption) (by first | omega | (simp; done) | (simp; omega))))))
      · have hdl : decide ((k : Int) < nb) = false := decide_eq_false hlt
        go_wp2_with (first | (go_at_call 55; (with_reducible refine (HB.out _).mono ?_); rintro e w1 ⟨rfl, b1⟩; obtain ⟨c1, f1⟩ := bcell b1; have z1 := b1.size; (try simp at z1); have d1a := fun o => c1 (w.heap.size) o (by first | omega | (simp; done) | (simp; omega)); clear c1 f1))
        go_ret
        refine ⟨ret_bool ?_, ?_⟩
        · rw [HBITS.out, show nb.toNat = k from by omega, HN.out]
        · (repeat (first | assumption | exact Below.refl _ _ | refine Below.setCell ?_ (by first | omega | (simp; done) | (simp; omega)) _ | refine Below.alloc ?_ (by first | omega | (simp; done) | (simp; omega)) _ | refine Below.drew ?_ | (refine Below.trans ?_ (Below.mono (by assumption) (by first | omega | (simp; done) | (simp; omega))))))
end Go.Proofs.YtnohkfbapibmdaaGreat
