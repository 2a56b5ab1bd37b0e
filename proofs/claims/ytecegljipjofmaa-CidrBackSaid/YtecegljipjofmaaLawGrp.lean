/- The laws of groups. -/
import Derived.Test.YtecegljipjofmaaGrpB
namespace Go.Proofs.Ytecegljipjofmaa
open Go.RowKit
set_option linter.unusedSimpArgs false
set_option linter.unusedVariables false

set_option maxRecDepth 100000 in
set_option maxHeartbeats 4000000 in
theorem ntHas_any (n : Nt) (a : Ad) (fn : n.ad.fits) (fa : a.fits) (w : World) : Calls Try.prog 44 #[.agg #[.bool n.ad.v6, .int .u64 n.ad.hi, .int .u64 n.ad.lo, .int .i64 n.bits], .agg #[.bool a.v6, .int .u64 a.hi, .int .u64 a.lo]] w fun e w' => e = .returned (.bool (ntHas n a)) ∧ Below w.heap.size w w' := by
  have hN := fun w => ntRight_any n fn w
  have hR := fun w => adRight_any a fa w
  have HM := Lib.hid (fun w => adMask_any a fa n.bits w)
  have q := fun W => eqlAd (adMask a n.bits) n.ad W
  unfold ntHas
  generalize adMask a n.bits = m at *
  cases hn : ntRight n with
  | false =>
    rw [hn] at hN
    have HN := Lib.hid hN; have HR := Lib.hid hR; clear hN hR q
    go_enter Try.func44, Try.ntmps44
    go_wp2_with fail
    go_name_world WWx hWWx
    have ex0 : ∀ Y, (ext WWx Y).cell? ⟨w.heap.size, 0, none⟩ = some (.bool n.ad.v6) := by subst hWWx; intro Y; exact (ext_cell _ Y (by first | omega | (simp; done) | (simp; omega))).trans (by first | (simp (disch := first | omega | (simp; omega)) [World.cell?_alloc_past, *]; done) | (simp (disch := first | omega | (simp; omega)) [World.cell?_setCell_far, World.cell?_alloc_past, *]; done) | (simp (disch := first | omega | (simp; omega)) [World.cell?_alloc_past, *]; rfl) | (simp (disch := first | omega | (simp; omega)) [World.cell?_setCell_far, World.cell?_alloc_past, *]; rfl) | (simp [go_sem, *]; done) | (simp (disch := first | omega | (simp; omega) | (simp [go_sem, *]; done)) [go_sem, World.cell?_setCell_far, World.cell?_alloc_past, *]; done))
    have ex1 : ∀ Y, (ext WWx Y).cell? ⟨w.heap.size, 1, none⟩ = some (.int .u64 n.ad.hi) := by subst hWWx; intro Y; exact (ext_cell _ Y (by first | omega | (simp; done) | (simp; omega))).trans (by first | (simp (disch := first | omega | (simp; omega)) [World.cell?_alloc_past, *]; done) | (simp (disch := first | omega | (simp; omega)) [World.cell?_setCell_far, World.cell?_alloc_past, *]; done) | (simp (disch := first | omega | (simp; omega)) [World.cell?_alloc_past, *]; rfl) | (simp (disch := first | omega | (simp; omega)) [World.cell?_setCell_far, World.cell?_alloc_past, *]; rfl) | (simp [go_sem, *]; done) | (simp (disch := first | omega | (simp; omega) | (simp [go_sem, *]; done)) [go_sem, World.cell?_setCell_far, World.cell?_alloc_past, *]; done))
    have ex2 : ∀ Y, (ext WWx Y).cell? ⟨w.heap.size, 2, none⟩ = some (.int .u64 n.ad.lo) := by subst hWWx; intro Y; exact (ext_cell _ Y (by first | omega | (simp; done) | (simp; omega))).trans (by first | (simp (disch := first | omega | (simp; omega)) [World.cell?_alloc_past, *]; done) | (simp (disch := first | omega | (simp; omega)) [World.cell?_setCell_far, World.cell?_alloc_past, *]; done) | (simp (disch := first | omega | (simp; omega)) [World.cell?_alloc_past, *]; rfl) | (simp (disch := first | omega | (simp; omega)) [World.cell?_setCell_far, World.cell?_alloc_past, *]; rfl) | (simp [go_sem, *]; done) | (simp (disch := first | omega | (simp; omega) | (simp [go_sem, *]; done)) [go_sem, World.cell?_setCell_far, World.cell?_alloc_past, *]; done))
    have ex3 : ∀ Y, (ext WWx Y).cell? ⟨w.heap.size, 3, none⟩ = some (.int .i64 n.bits) := by subst hWWx; intro Y; exact (ext_cell _ Y (by first | omega | (simp; done) | (simp; omega))).trans (by first | (simp (disch := first | omega | (simp; omega)) [World.cell?_alloc_past, *]; done) | (simp (disch := first | omega | (simp; omega)) [World.cell?_setCell_far, World.cell?_alloc_past, *]; done) | (simp (disch := first | omega | (simp; omega)) [World.cell?_alloc_past, *]; rfl) | (simp (disch := first | omega | (simp; omega)) [World.cell?_setCell_far, World.cell?_alloc_past, *]; rfl) | (simp [go_sem, *]; done) | (simp (disch := first | omega | (simp; omega) | (simp [go_sem, *]; done)) [go_sem, World.cell?_setCell_far, World.cell?_alloc_past, *]; done))
    have ex4 : ∀ Y, (ext WWx Y).cell? ⟨w.heap.size + 1, 0, none⟩ = some (.bool a.v6) := by subst hWWx; intro Y; exact (ext_cell _ Y (by first | omega | (simp; done) | (simp; omega))).trans (by first | (simp (disch := first | omega | (simp; omega)) [World.cell?_alloc_past, *]; done) | (simp (disch := first | omega | (simp; omega)) [World.cell?_setCell_far, World.cell?_alloc_past, *]; done) | (simp (disch := first | omega | (simp; omega)) [World.cell?_alloc_past, *]; rfl) | (simp (disch := first | omega | (simp; omega)) [World.cell?_setCell_far, World.cell?_alloc_past, *]; rfl) | (simp [go_sem, *]; done) | (simp (disch := first | omega | (simp; omega) | (simp [go_sem, *]; done)) [go_sem, World.cell?_setCell_far, World.cell?_alloc_past, *]; done))
    have ex5 : ∀ Y, (ext WWx Y).cell? ⟨w.heap.size + 1, 1, none⟩ = some (.int .u64 a.hi) := by subst hWWx; intro Y; exact (ext_cell _ Y (by first | omega | (simp; done) | (simp; omega))).trans (by first | (simp (disch := first | omega | (simp; omega)) [World.cell?_alloc_past, *]; done) | (simp (disch := first | omega | (simp; omega)) [World.cell?_setCell_far, World.cell?_alloc_past, *]; done) | (simp (disch := first | omega | (simp; omega)) [World.cell?_alloc_past, *]; rfl) | (simp (disch := first | omega | (simp; omega)) [World.cell?_setCell_far, World.cell?_alloc_past, *]; rfl) | (simp [go_sem, *]; done) | (simp (disch := first | omega | (simp; omega) | (simp [go_sem, *]; done)) [go_sem, World.cell?_setCell_far, World.cell?_alloc_past, *]; done))
    have ex6 : ∀ Y, (ext WWx Y).cell? ⟨w.heap.size + 1, 2, none⟩ = some (.int .u64 a.lo) := by subst hWWx; intro Y; exact (ext_cell _ Y (by first | omega | (simp; done) | (simp; omega))).trans (by first | (simp (disch := first | omega | (simp; omega)) [World.cell?_alloc_past, *]; done) | (simp (disch := first | omega | (simp; omega)) [World.cell?_setCell_far, World.cell?_alloc_past, *]; done) | (simp (disch := first | omega | (simp; omega)) [World.cell?_alloc_past, *]; rfl) | (simp (disch := first | omega | (simp; omega)) [World.cell?_setCell_far, World.cell?_alloc_past, *]; rfl) | (simp [go_sem, *]; done) | (simp (disch := first | omega | (simp; omega) | (simp [go_sem, *]; done)) [go_sem, World.cell?_setCell_far, World.cell?_alloc_past, *]; done))
    have bWx : Below w.heap.size w WWx := by subst hWWx; (repeat (first | assumption | exact Below.refl _ _ | refine Below.setCell ?_ (by first | omega | (simp; done) | (simp; omega)) _ | refine Below.alloc ?_ (by first | omega | (simp; done) | (simp; omega)) _ | refine Below.drew ?_ | (refine Below.trans ?_ (Below.mono (by assumption) (by first | omega | (simp; done) | (simp; omega))))))
    have lWx0 : w.heap.size < WWx.heap.size := by subst hWWx; first | omega | (simp; done) | (simp; omega)
    have lWx1 : w.heap.size + 1 < WWx.heap.size := by subst hWWx; first | omega | (simp; done) | (simp; omega)
    clear hWWx
    refine wp_region_ext (by kernel_rfl) (by kernel_rfl) ?_
    repeat (go_big_quiet_step ((first | (go_at_call 56; with_reducible exact qe (HN.out _)) | (go_at_call 48; with_reducible exact qe (HR.out _)) | (go_at_call 58; with_reducible exact qe (HM.out _)))))
    refine wpQuiet_nil ?_
    intro _ hw'
    obtain ⟨x, hw''⟩ := hw'
    subst hw''
    have px0 := ex0 x
    have px1 := ex1 x
    have px2 := ex2 x
    have px3 := ex3 x
    have px4 := ex4 x
    have px5 := ex5 x
    have px6 := ex6 x
    clear ex0 ex1 ex2 ex3 ex4 ex5 ex6
    have bwx := bWx.trans ((ext_below WWx x).mono bWx.size)
    have zwx := bwx.size
    have zex := (ext_below WWx x).size
    go_wp2_with fail
    go_ret
    exact ⟨rfl, bwx⟩
  | true =>
    rw [hn] at hN
    cases ha : adRight a with
    | false =>
      rw [ha] at hR
      have HN := Lib.hid hN; have HR := Lib.hid hR; clear hN hR q
      go_enter Try.func44, Try.ntmps44
      go_wp2_with fail
      go_name_world WWx hWWx
      have ex0 : ∀ Y, (ext WWx Y).cell? ⟨w.heap.size, 0, none⟩ = some (.bool n.ad.v6) := by subst hWWx; intro Y; exact (ext_cell _ Y (by first | omega | (simp; done) | (simp; omega))).trans (by first | (simp (disch := first | omega | (simp; omega)) [World.cell?_alloc_past, *]; done) | (simp (disch := first | omega | (simp; omega)) [World.cell?_setCell_far, World.cell?_alloc_past, *]; done) | (simp (disch := first | omega | (simp; omega)) [World.cell?_alloc_past, *]; rfl) | (simp (disch := first | omega | (simp; omega)) [World.cell?_setCell_far, World.cell?_alloc_past, *]; rfl) | (simp [go_sem, *]; done) | (simp (disch := first | omega | (simp; omega) | (simp [go_sem, *]; done)) [go_sem, World.cell?_setCell_far, World.cell?_alloc_past, *]; done))
      have ex1 : ∀ Y, (ext WWx Y).cell? ⟨w.heap.size, 1, none⟩ = some (.int .u64 n.ad.hi) := by subst hWWx; intro Y; exact (ext_cell _ Y (by first | omega | (simp; done) | (simp; omega))).trans (by first | (simp (disch := first | omega | (simp; omega)) [World.cell?_alloc_past, *]; done) | (simp (disch := first | omega | (simp; omega)) [World.cell?_setCell_far, World.cell?_alloc_past, *]; done) | (simp (disch := first | omega | (simp; omega)) [World.cell?_alloc_past, *]; rfl) | (simp (disch := first | omega | (simp; omega)) [World.cell?_setCell_far, World.cell?_alloc_past, *]; rfl) | (simp [go_sem, *]; done) | (simp (disch := first | omega | (simp; omega) | (simp [go_sem, *]; done)) [go_sem, World.cell?_setCell_far, World.cell?_alloc_past, *]; done))
      have ex2 : ∀ Y, (ext WWx Y).cell? ⟨w.heap.size, 2, none⟩ = some (.int .u64 n.ad.lo) := by subst hWWx; intro Y; exact (ext_cell _ Y (by first | omega | (simp; done) | (simp; omega))).trans (by first | (simp (disch := first | omega | (simp; omega)) [World.cell?_alloc_past, *]; done) | (simp (disch := first | omega | (simp; omega)) [World.cell?_setCell_far, World.cell?_alloc_past, *]; done) | (simp (disch := first | omega | (simp; omega)) [World.cell?_alloc_past, *]; rfl) | (simp (disch := first | omega | (simp; omega)) [World.cell?_setCell_far, World.cell?_alloc_past, *]; rfl) | (simp [go_sem, *]; done) | (simp (disch := first | omega | (simp; omega) | (simp [go_sem, *]; done)) [go_sem, World.cell?_setCell_far, World.cell?_alloc_past, *]; done))
      have ex3 : ∀ Y, (ext WWx Y).cell? ⟨w.heap.size, 3, none⟩ = some (.int .i64 n.bits) := by subst hWWx; intro Y; exact (ext_cell _ Y (by first | omega | (simp; done) | (simp; omega))).trans (by first | (simp (disch := first | omega | (simp; omega)) [World.cell?_alloc_past, *]; done) | (simp (disch := first | omega | (simp; omega)) [World.cell?_setCell_far, World.cell?_alloc_past, *]; done) | (simp (disch := first | omega | (simp; omega)) [World.cell?_alloc_past, *]; rfl) | (simp (disch := first | omega | (simp; omega)) [World.cell?_setCell_far, World.cell?_alloc_past, *]; rfl) | (simp [go_sem, *]; done) | (simp (disch := first | omega | (simp; omega) | (simp [go_sem, *]; done)) [go_sem, World.cell?_setCell_far, World.cell?_alloc_past, *]; done))
      have ex4 : ∀ Y, (ext WWx Y).cell? ⟨w.heap.size + 1, 0, none⟩ = some (.bool a.v6) := by subst hWWx; intro Y; exact (ext_cell _ Y (by first | omega | (simp; done) | (simp; omega))).trans (by first | (simp (disch := first | omega | (simp; omega)) [World.cell?_alloc_past, *]; done) | (simp (disch := first | omega | (simp; omega)) [World.cell?_setCell_far, World.cell?_alloc_past, *]; done) | (simp (disch := first | omega | (simp; omega)) [World.cell?_alloc_past, *]; rfl) | (simp (disch := first | omega | (simp; omega)) [World.cell?_setCell_far, World.cell?_alloc_past, *]; rfl) | (simp [go_sem, *]; done) | (simp (disch := first | omega | (simp; omega) | (simp [go_sem, *]; done)) [go_sem, World.cell?_setCell_far, World.cell?_alloc_past, *]; done))
      have ex5 : ∀ Y, (ext WWx Y).cell? ⟨w.heap.size + 1, 1, none⟩ = some (.int .u64 a.hi) := by subst hWWx; intro Y; exact (ext_cell _ Y (by first | omega | (simp; done) | (simp; omega))).trans (by first | (simp (disch := first | omega | (simp; omega)) [World.cell?_alloc_past, *]; done) | (simp (disch := first | omega | (simp; omega)) [World.cell?_setCell_far, World.cell?_alloc_past, *]; done) | (simp (disch := first | omega | (simp; omega)) [World.cell?_alloc_past, *]; rfl) | (simp (disch := first | omega | (simp; omega)) [World.cell?_setCell_far, World.cell?_alloc_past, *]; rfl) | (simp [go_sem, *]; done) | (simp (disch := first | omega | (simp; omega) | (simp [go_sem, *]; done)) [go_sem, World.cell?_setCell_far, World.cell?_alloc_past, *]; done))
      have ex6 : ∀ Y, (ext WWx Y).cell? ⟨w.heap.size + 1, 2, none⟩ = some (.int .u64 a.lo) := by subst hWWx; intro Y; exact (ext_cell _ Y (by first | omega | (simp; done) | (simp; omega))).trans (by first | (simp (disch := first | omega | (simp; omega)) [World.cell?_alloc_past, *]; done) | (simp (disch := first | omega | (simp; omega)) [World.cell?_setCell_far, World.cell?_alloc_past, *]; done) | (simp (disch := first | omega | (simp; omega)) [World.cell?_alloc_past, *]; rfl) | (simp (disch := first | omega | (simp; omega)) [World.cell?_setCell_far, World.cell?_alloc_past, *]; rfl) | (simp [go_sem, *]; done) | (simp (disch := first | omega | (simp; omega) | (simp [go_sem, *]; done)) [go_sem, World.cell?_setCell_far, World.cell?_alloc_past, *]; done))
      have bWx : Below w.heap.size w WWx := by subst hWWx; (repeat (first | assumption | exact Below.refl _ _ | refine Below.setCell ?_ (by first | omega | (simp; done) | (simp; omega)) _ | refine Below.alloc ?_ (by first | omega | (simp; done) | (simp; omega)) _ | refine Below.drew ?_ | (refine Below.trans ?_ (Below.mono (by assumption) (by first | omega | (simp; done) | (simp; omega))))))
      have lWx0 : w.heap.size < WWx.heap.size := by subst hWWx; first | omega | (simp; done) | (simp; omega)
      have lWx1 : w.heap.size + 1 < WWx.heap.size := by subst hWWx; first | omega | (simp; done) | (simp; omega)
      clear hWWx
      refine wp_region_ext (by kernel_rfl) (by kernel_rfl) ?_
      repeat (go_big_quiet_step ((first | (go_at_call 56; with_reducible exact qe (HN.out _)) | (go_at_call 48; with_reducible exact qe (HR.out _)) | (go_at_call 58; with_reducible exact qe (HM.out _)))))
      refine wpQuiet_nil ?_
      intro _ hw'
      obtain ⟨x, hw''⟩ := hw'
      subst hw''
      have px0 := ex0 x
      have px1 := ex1 x
      have px2 := ex2 x
      have px3 := ex3 x
      have px4 := ex4 x
      have px5 := ex5 x
      have px6 := ex6 x
      clear ex0 ex1 ex2 ex3 ex4 ex5 ex6
      have bwx := bWx.trans ((ext_below WWx x).mono bWx.size)
      have zwx := bwx.size
      have zex := (ext_below WWx x).size
      go_wp2_with fail
      go_ret
      exact ⟨rfl, bwx⟩
    | true =>
      rw [ha] at hR
      have HN := Lib.hid hN; have HR := Lib.hid hR; clear hN hR
      by_cases hv : n.ad.v6 = a.v6
      · have hq : (n.ad.v6 == a.v6) = true := by rw [beq_iff_eq]; exact hv
        rw [decide_eq_true hv]
        clear hv
        go_enter Try.func44, Try.ntmps44
        go_wp2_with fail
        go_name_world WWx hWWx
        have ex0 : ∀ Y, (ext WWx Y).cell? ⟨w.heap.size, 0, none⟩ = some (.bool n.ad.v6) := by subst hWWx; intro Y; exact (ext_cell _ Y (by first | omega | (simp; done) | (simp; omega))).trans (by first | (simp (disch := first | omega | (simp; omega)) [World.cell?_alloc_past, *]; done) | (simp (disch := first | omega | (simp; omega)) [World.cell?_setCell_far, World.cell?_alloc_past, *]; done) | (simp (disch := first | omega | (simp; omega)) [World.cell?_alloc_past, *]; rfl) | (simp (disch := first | omega | (simp; omega)) [World.cell?_setCell_far, World.cell?_alloc_past, *]; rfl) | (simp [go_sem, *]; done) | (simp (disch := first | omega | (simp; omega) | (simp [go_sem, *]; done)) [go_sem, World.cell?_setCell_far, World.cell?_alloc_past, *]; done))
        have ex1 : ∀ Y, (ext WWx Y).cell? ⟨w.heap.size, 1, none⟩ = some (.int .u64 n.ad.hi) := by subst hWWx; intro Y; exact (ext_cell _ Y (by first | omega | (simp; done) | (simp; omega))).trans (by first | (simp (disch := first | omega | (simp; omega)) [World.cell?_alloc_past, *]; done) | (simp (disch := first | omega | (simp; omega)) [World.cell?_setCell_far, World.cell?_alloc_past, *]; done) | (simp (disch := first | omega | (simp; omega)) [World.cell?_alloc_past, *]; rfl) | (simp (disch := first | omega | (simp; omega)) [World.cell?_setCell_far, World.cell?_alloc_past, *]; rfl) | (simp [go_sem, *]; done) | (simp (disch := first | omega | (simp; omega) | (simp [go_sem, *]; done)) [go_sem, World.cell?_setCell_far, World.cell?_alloc_past, *]; done))
        have ex2 : ∀ Y, (ext WWx Y).cell? ⟨w.heap.size, 2, none⟩ = some (.int .u64 n.ad.lo) := by subst hWWx; intro Y; exact (ext_cell _ Y (by first | omega | (simp; done) | (simp; omega))).trans (by first | (simp (disch := first | omega | (simp; omega)) [World.cell?_alloc_past, *]; done) | (simp (disch := first | omega | (simp; omega)) [World.cell?_setCell_far, World.cell?_alloc_past, *]; done) | (simp (disch := first | omega | (simp; omega)) [World.cell?_alloc_past, *]; rfl) | (simp (disch := first | omega | (simp; omega)) [World.cell?_setCell_far, World.cell?_alloc_past, *]; rfl) | (simp [go_sem, *]; done) | (simp (disch := first | omega | (simp; omega) | (simp [go_sem, *]; done)) [go_sem, World.cell?_setCell_far, World.cell?_alloc_past, *]; done))
        have ex3 : ∀ Y, (ext WWx Y).cell? ⟨w.heap.size, 3, none⟩ = some (.int .i64 n.bits) := by subst hWWx; intro Y; exact (ext_cell _ Y (by first | omega | (simp; done) | (simp; omega))).trans (by first | (simp (disch := first | omega | (simp; omega)) [World.cell?_alloc_past, *]; done) | (simp (disch := first | omega | (simp; omega)) [World.cell?_setCell_far, World.cell?_alloc_past, *]; done) | (simp (disch := first | omega | (simp; omega)) [World.cell?_alloc_past, *]; rfl) | (simp (disch := first | omega | (simp; omega)) [World.cell?_setCell_far, World.cell?_alloc_past, *]; rfl) | (simp [go_sem, *]; done) | (simp (disch := first | omega | (simp; omega) | (simp [go_sem, *]; done)) [go_sem, World.cell?_setCell_far, World.cell?_alloc_past, *]; done))
        have ex4 : ∀ Y, (ext WWx Y).cell? ⟨w.heap.size + 1, 0, none⟩ = some (.bool a.v6) := by subst hWWx; intro Y; exact (ext_cell _ Y (by first | omega | (simp; done) | (simp; omega))).trans (by first | (simp (disch := first | omega | (simp; omega)) [World.cell?_alloc_past, *]; done) | (simp (disch := first | omega | (simp; omega)) [World.cell?_setCell_far, World.cell?_alloc_past, *]; done) | (simp (disch := first | omega | (simp; omega)) [World.cell?_alloc_past, *]; rfl) | (simp (disch := first | omega | (simp; omega)) [World.cell?_setCell_far, World.cell?_alloc_past, *]; rfl) | (simp [go_sem, *]; done) | (simp (disch := first | omega | (simp; omega) | (simp [go_sem, *]; done)) [go_sem, World.cell?_setCell_far, World.cell?_alloc_past, *]; done))
        have ex5 : ∀ Y, (ext WWx Y).cell? ⟨w.heap.size + 1, 1, none⟩ = some (.int .u64 a.hi) := by subst hWWx; intro Y; exact (ext_cell _ Y (by first | omega | (simp; done) | (simp; omega))).trans (by first | (simp (disch := first | omega | (simp; omega)) [World.cell?_alloc_past, *]; done) | (simp (disch := first | omega | (simp; omega)) [World.cell?_setCell_far, World.cell?_alloc_past, *]; done) | (simp (disch := first | omega | (simp; omega)) [World.cell?_alloc_past, *]; rfl) | (simp (disch := first | omega | (simp; omega)) [World.cell?_setCell_far, World.cell?_alloc_past, *]; rfl) | (simp [go_sem, *]; done) | (simp (disch := first | omega | (simp; omega) | (simp [go_sem, *]; done)) [go_sem, World.cell?_setCell_far, World.cell?_alloc_past, *]; done))
        have ex6 : ∀ Y, (ext WWx Y).cell? ⟨w.heap.size + 1, 2, none⟩ = some (.int .u64 a.lo) := by subst hWWx; intro Y; exact (ext_cell _ Y (by first | omega | (simp; done) | (simp; omega))).trans (by first | (simp (disch := first | omega | (simp; omega)) [World.cell?_alloc_past, *]; done) | (simp (disch := first | omega | (simp; omega)) [World.cell?_setCell_far, World.cell?_alloc_past, *]; done) | (simp (disch := first | omega | (simp; omega)) [World.cell?_alloc_past, *]; rfl) | (simp (disch := first | omega | (simp; omega)) [World.cell?_setCell_far, World.cell?_alloc_past, *]; rfl) | (simp [go_sem, *]; done) | (simp (disch := first | omega | (simp; omega) | (simp [go_sem, *]; done)) [go_sem, World.cell?_setCell_far, World.cell?_alloc_past, *]; done))
        have bWx : Below w.heap.size w WWx := by subst hWWx; (repeat (first | assumption | exact Below.refl _ _ | refine Below.setCell ?_ (by first | omega | (simp; done) | (simp; omega)) _ | refine Below.alloc ?_ (by first | omega | (simp; done) | (simp; omega)) _ | refine Below.drew ?_ | (refine Below.trans ?_ (Below.mono (by assumption) (by first | omega | (simp; done) | (simp; omega))))))
        have lWx0 : w.heap.size < WWx.heap.size := by subst hWWx; first | omega | (simp; done) | (simp; omega)
        have lWx1 : w.heap.size + 1 < WWx.heap.size := by subst hWWx; first | omega | (simp; done) | (simp; omega)
        clear hWWx
        refine wp_region_ext (by kernel_rfl) (by kernel_rfl) ?_
        repeat (go_big_quiet_step ((first | (go_at_call 56; with_reducible exact qe (HN.out _)) | (go_at_call 48; with_reducible exact qe (HR.out _)) | (go_at_call 58; with_reducible exact qe (HM.out _)))))
        refine wpQuiet_nil ?_
        intro _ hw'
        obtain ⟨x, hw''⟩ := hw'
        subst hw''
        have px0 := ex0 x
        have px1 := ex1 x
        have px2 := ex2 x
        have px3 := ex3 x
        have px4 := ex4 x
        have px5 := ex5 x
        have px6 := ex6 x
        clear ex0 ex1 ex2 ex3 ex4 ex5 ex6
        have bwx := bWx.trans ((ext_below WWx x).mono bWx.size)
        have zwx := bwx.size
        have zex := (ext_below WWx x).size
        go_wp2_with fail
        go_ret
        exact ⟨rfl, bwx⟩
      · have hq : (n.ad.v6 == a.v6) = false := by rw [beq_eq_false_iff_ne]; exact hv
        rw [decide_eq_false hv]
        clear hv q
        go_enter Try.func44, Try.ntmps44
        go_wp2_with fail
        go_name_world WWx hWWx
        have ex0 : ∀ Y, (ext WWx Y).cell? ⟨w.heap.size, 0, none⟩ = some (.bool n.ad.v6) := by subst hWWx; intro Y; exact (ext_cell _ Y (by first | omega | (simp; done) | (simp; omega))).trans (by first | (simp (disch := first | omega | (simp; omega)) [World.cell?_alloc_past, *]; done) | (simp (disch := first | omega | (simp; omega)) [World.cell?_setCell_far, World.cell?_alloc_past, *]; done) | (simp (disch := first | omega | (simp; omega)) [World.cell?_alloc_past, *]; rfl) | (simp (disch := first | omega | (simp; omega)) [World.cell?_setCell_far, World.cell?_alloc_past, *]; rfl) | (simp [go_sem, *]; done) | (simp (disch := first | omega | (simp; omega) | (simp [go_sem, *]; done)) [go_sem, World.cell?_setCell_far, World.cell?_alloc_past, *]; done))
        have ex1 : ∀ Y, (ext WWx Y).cell? ⟨w.heap.size, 1, none⟩ = some (.int .u64 n.ad.hi) := by subst hWWx; intro Y; exact (ext_cell _ Y (by first | omega | (simp; done) | (simp; omega))).trans (by first | (simp (disch := first | omega | (simp; omega)) [World.cell?_alloc_past, *]; done) | (simp (disch := first | omega | (simp; omega)) [World.cell?_setCell_far, World.cell?_alloc_past, *]; done) | (simp (disch := first | omega | (simp; omega)) [World.cell?_alloc_past, *]; rfl) | (simp (disch := first | omega | (simp; omega)) [World.cell?_setCell_far, World.cell?_alloc_past, *]; rfl) | (simp [go_sem, *]; done) | (simp (disch := first | omega | (simp; omega) | (simp [go_sem, *]; done)) [go_sem, World.cell?_setCell_far, World.cell?_alloc_past, *]; done))
        have ex2 : ∀ Y, (ext WWx Y).cell? ⟨w.heap.size, 2, none⟩ = some (.int .u64 n.ad.lo) := by subst hWWx; intro Y; exact (ext_cell _ Y (by first | omega | (simp; done) | (simp; omega))).trans (by first | (simp (disch := first | omega | (simp; omega)) [World.cell?_alloc_past, *]; done) | (simp (disch := first | omega | (simp; omega)) [World.cell?_setCell_far, World.cell?_alloc_past, *]; done) | (simp (disch := first | omega | (simp; omega)) [World.cell?_alloc_past, *]; rfl) | (simp (disch := first | omega | (simp; omega)) [World.cell?_setCell_far, World.cell?_alloc_past, *]; rfl) | (simp [go_sem, *]; done) | (simp (disch := first | omega | (simp; omega) | (simp [go_sem, *]; done)) [go_sem, World.cell?_setCell_far, World.cell?_alloc_past, *]; done))
        have ex3 : ∀ Y, (ext WWx Y).cell? ⟨w.heap.size, 3, none⟩ = some (.int .i64 n.bits) := by subst hWWx; intro Y; exact (ext_cell _ Y (by first | omega | (simp; done) | (simp; omega))).trans (by first | (simp (disch := first | omega | (simp; omega)) [World.cell?_alloc_past, *]; done) | (simp (disch := first | omega | (simp; omega)) [World.cell?_setCell_far, World.cell?_alloc_past, *]; done) | (simp (disch := first | omega | (simp; omega)) [World.cell?_alloc_past, *]; rfl) | (simp (disch := first | omega | (simp; omega)) [World.cell?_setCell_far, World.cell?_alloc_past, *]; rfl) | (simp [go_sem, *]; done) | (simp (disch := first | omega | (simp; omega) | (simp [go_sem, *]; done)) [go_sem, World.cell?_setCell_far, World.cell?_alloc_past, *]; done))
        have ex4 : ∀ Y, (ext WWx Y).cell? ⟨w.heap.size + 1, 0, none⟩ = some (.bool a.v6) := by subst hWWx; intro Y; exact (ext_cell _ Y (by first | omega | (simp; done) | (simp; omega))).trans (by first | (simp (disch := first | omega | (simp; omega)) [World.cell?_alloc_past, *]; done) | (simp (disch := first | omega | (simp; omega)) [World.cell?_setCell_far, World.cell?_alloc_past, *]; done) | (simp (disch := first | omega | (simp; omega)) [World.cell?_alloc_past, *]; rfl) | (simp (disch := first | omega | (simp; omega)) [World.cell?_setCell_far, World.cell?_alloc_past, *]; rfl) | (simp [go_sem, *]; done) | (simp (disch := first | omega | (simp; omega) | (simp [go_sem, *]; done)) [go_sem, World.cell?_setCell_far, World.cell?_alloc_past, *]; done))
        have ex5 : ∀ Y, (ext WWx Y).cell? ⟨w.heap.size + 1, 1, none⟩ = some (.int .u64 a.hi) := by subst hWWx; intro Y; exact (ext_cell _ Y (by first | omega | (simp; done) | (simp; omega))).trans (by first | (simp (disch := first | omega | (simp; omega)) [World.cell?_alloc_past, *]; done) | (simp (disch := first | omega | (simp; omega)) [World.cell?_setCell_far, World.cell?_alloc_past, *]; done) | (simp (disch := first | omega | (simp; omega)) [World.cell?_alloc_past, *]; rfl) | (simp (disch := first | omega | (simp; omega)) [World.cell?_setCell_far, World.cell?_alloc_past, *]; rfl) | (simp [go_sem, *]; done) | (simp (disch := first | omega | (simp; omega) | (simp [go_sem, *]; done)) [go_sem, World.cell?_setCell_far, World.cell?_alloc_past, *]; done))
        have ex6 : ∀ Y, (ext WWx Y).cell? ⟨w.heap.size + 1, 2, none⟩ = some (.int .u64 a.lo) := by subst hWWx; intro Y; exact (ext_cell _ Y (by first | omega | (simp; done) | (simp; omega))).trans (by first | (simp (disch := first | omega | (simp; omega)) [World.cell?_alloc_past, *]; done) | (simp (disch := first | omega | (simp; omega)) [World.cell?_setCell_far, World.cell?_alloc_past, *]; done) | (simp (disch := first | omega | (simp; omega)) [World.cell?_alloc_past, *]; rfl) | (simp (disch := first | omega | (simp; omega)) [World.cell?_setCell_far, World.cell?_alloc_past, *]; rfl) | (simp [go_sem, *]; done) | (simp (disch := first | omega | (simp; omega) | (simp [go_sem, *]; done)) [go_sem, World.cell?_setCell_far, World.cell?_alloc_past, *]; done))
        have bWx : Below w.heap.size w WWx := by subst hWWx; (repeat (first | assumption | exact Below.refl _ _ | refine Below.setCell ?_ (by first | omega | (simp; done) | (simp; omega)) _ | refine Below.alloc ?_ (by first | omega | (simp; done) | (simp; omega)) _ | refine Below.drew ?_ | (refine Below.trans ?_ (Below.mono (by assumption) (by first | omega | (simp; done) | (simp; omega))))))
        have lWx0 : w.heap.size < WWx.heap.size := by subst hWWx; first | omega | (simp; done) | (simp; omega)
        have lWx1 : w.heap.size + 1 < WWx.heap.size := by subst hWWx; first | omega | (simp; done) | (simp; omega)
        clear hWWx
        refine wp_region_ext (by kernel_rfl) (by kernel_rfl) ?_
        repeat (go_big_quiet_step ((first | (go_at_call 56; with_reducible exact qe (HN.out _)) | (go_at_call 48; with_reducible exact qe (HR.out _)) | (go_at_call 58; with_reducible exact qe (HM.out _)))))
        refine wpQuiet_nil ?_
        intro _ hw'
        obtain ⟨x, hw''⟩ := hw'
        subst hw''
        have px0 := ex0 x
        have px1 := ex1 x
        have px2 := ex2 x
        have px3 := ex3 x
        have px4 := ex4 x
        have px5 := ex5 x
        have px6 := ex6 x
        clear ex0 ex1 ex2 ex3 ex4 ex5 ex6
        have bwx := bWx.trans ((ext_below WWx x).mono bWx.size)
        have zwx := bwx.size
        have zex := (ext_below WWx x).size
        go_wp2_with fail
        go_ret
        exact ⟨rfl, bwx⟩
theorem str_beq8 (s : ByteArray) : (s.toList == s.toList) = true := by simp
theorem a8a : ntText (grOf ⟨false, 0, 167838211⟩) = [49, 48, 46, 49, 46, 48, 46, 48, 47, 49, 54] := by decide +kernel
theorem a8b : grSame ⟨false, 0, 167838211⟩ ⟨false, 0, 167903231⟩ = true := by decide +kernel
theorem a8c : grSame ⟨false, 0, 167838211⟩ ⟨false, 0, 167903747⟩ = false := by decide +kernel
theorem a8d : adRight ⟨false, 0, 167838211⟩ = true := by decide +kernel
set_option maxRecDepth 100000 in
set_option maxHeartbeats 4000000 in
theorem awake08_any (w : World) : Calls Try.prog 43 #[] w fun e w' => e = .returned (.bool true) ∧ Below w.heap.size w w' := by
  have h1 := fun w => grText_any ⟨false, 0, 167838211⟩ ⟨by decide, by decide⟩ w
  have h2 := fun w => grSame_any ⟨false, 0, 167838211⟩ ⟨false, 0, 167903231⟩ ⟨by decide, by decide⟩ ⟨by decide, by decide⟩ w
  have h3 := fun w => grSame_any ⟨false, 0, 167838211⟩ ⟨false, 0, 167903747⟩ ⟨by decide, by decide⟩ ⟨by decide, by decide⟩ w
  rw [a8d, if_pos rfl, a8a] at h1
  rw [a8b] at h2
  rw [a8c] at h3
  simp only [show ((0 : Nat) : Int) = 0 from rfl, show ((167838211 : Nat) : Int) = 167838211 from rfl, show ((167903231 : Nat) : Int) = 167903231 from rfl, show ((167903747 : Nat) : Int) = 167903747 from rfl] at h1 h2 h3
  have H1 := Lib.hid h1; have H2 := Lib.hid h2; have H3 := Lib.hid h3
  clear h1 h2 h3
  have e4 : ((bs [49, 48, 46, 49, 46, 48, 46, 48, 47, 49, 54]).toList == [49, 48, 46, 49, 46, 48, 46, 48, 47, 49, 54]) = true := by decide +kernel
  go_enter Try.func43, Try.ntmps43
  go_wp2_with (first | (go_at_call 42; (with_reducible refine (H1.out _).mono ?_); rintro e w1 ⟨rfl, b1⟩; obtain ⟨c1, f1⟩ := bcell b1; have z1 := b1.size; (try simp at z1); clear c1 f1) | (go_at_call 40; (with_reducible refine (H2.out _).mono ?_); rintro e w2 ⟨rfl, b2⟩; obtain ⟨c2, f2⟩ := bcell b2; have z2 := b2.size; (try simp at z2); clear c2 f2) | (go_at_call 40; (with_reducible refine (H3.out _).mono ?_); rintro e w3 ⟨rfl, b3⟩; obtain ⟨c3, f3⟩ := bcell b3; have z3 := b3.size; (try simp at z3); clear c3 f3))
  go_ret
  refine ⟨rfl, ?_⟩
  (repeat (first | assumption | exact Below.refl _ _ | refine Below.setCell ?_ (by first | omega | (simp; done) | (simp; omega)) _ | refine Below.alloc ?_ (by first | omega | (simp; done) | (simp; omega)) _ | refine Below.drew ?_ | (refine Below.trans ?_ (Below.mono (by assumption) (by first | omega | (simp; done) | (simp; omega))))))
set_option maxRecDepth 100000 in
set_option maxHeartbeats 4000000 in
theorem groupTells_any (a b : Ad) (fa : a.fits) (fb : b.fits) (w : World) : Calls Try.prog 7 #[.agg #[.bool a.v6, .int .u64 a.hi, .int .u64 a.lo], .agg #[.bool b.v6, .int .u64 b.hi, .int .u64 b.lo]] w fun e w' => e = .returned (.bool true) ∧ Below w.heap.size w w' := by
  have hR := fun w => refAdRight_any a fa w
  have HO := Lib.hid (fun w => grOf_any a fa w)
  have HO2 := Lib.hid (fun w => refGrOf_any a fa w)
  have HS := Lib.hid (fun w => grSame_any a b fa fb w)
  have HS2 := Lib.hid (fun w => refGrSame_any a b fa fb w)
  have hT := fun w => grText_any a fa w
  have HT2 := Lib.hid (fun w => refNtText_any (grOf a) (grOf_fits a fa) w)
  have q := fun W => eqlNt (grOf a) (grOf a) W
  have HA := Lib.hid (fun w => awake08_any w)
  simp only [decide_true] at q
  generalize grOf a = g at *
  generalize grSame a b = s at *
  have e2 : (s == s) = true := by simp
  cases ha : adRight a with
  | false =>
    rw [ha] at hR hT
    rw [if_neg (by simp)] at hT
    have HR := Lib.hid hR; have HT := Lib.hid hT; clear hR hT
    have e1 := str_beq8 (bs [])
    have e0 : (bs []).toList.isEmpty = true := by decide +kernel
    have e00 : ((bs []).toList == []) = true := by decide +kernel
    go_enter Try.func7, Try.ntmps7
    go_wp2_with (first | (go_at_call 37; (with_reducible refine (HR.out _).mono ?_); rintro e w1 ⟨rfl, b1⟩; obtain ⟨c1, f1⟩ := bcell b1; have z1 := b1.size; (try simp at z1); have d1a := fun o => c1 (w.heap.size) o (by first | omega | (simp; done) | (simp; omega)); have d1b := fun o => c1 (w.heap.size + 1) o (by first | omega | (simp; done) | (simp; omega)); clear c1 f1))
    go_name_world WWx hWWx
    have ex0 : ∀ Y, (ext WWx Y).cell? ⟨w.heap.size, 0, none⟩ = some (.bool a.v6) := by subst hWWx; intro Y; exact (ext_cell _ Y (by first | omega | (simp; done) | (simp; omega))).trans (by first | (simp (disch := first | omega | (simp; omega)) [World.cell?_alloc_past, *]; done) | (simp (disch := first | omega | (simp; omega)) [World.cell?_setCell_far, World.cell?_alloc_past, *]; done) | (simp (disch := first | omega | (simp; omega)) [World.cell?_alloc_past, *]; rfl) | (simp (disch := first | omega | (simp; omega)) [World.cell?_setCell_far, World.cell?_alloc_past, *]; rfl) | (simp [go_sem, *]; done) | (simp (disch := first | omega | (simp; omega) | (simp [go_sem, *]; done)) [go_sem, World.cell?_setCell_far, World.cell?_alloc_past, *]; done))
    have ex1 : ∀ Y, (ext WWx Y).cell? ⟨w.heap.size, 1, none⟩ = some (.int .u64 a.hi) := by subst hWWx; intro Y; exact (ext_cell _ Y (by first | omega | (simp; done) | (simp; omega))).trans (by first | (simp (disch := first | omega | (simp; omega)) [World.cell?_alloc_past, *]; done) | (simp (disch := first | omega | (simp; omega)) [World.cell?_setCell_far, World.cell?_alloc_past, *]; done) | (simp (disch := first | omega | (simp; omega)) [World.cell?_alloc_past, *]; rfl) | (simp (disch := first | omega | (simp; omega)) [World.cell?_setCell_far, World.cell?_alloc_past, *]; rfl) | (simp [go_sem, *]; done) | (simp (disch := first | omega | (simp; omega) | (simp [go_sem, *]; done)) [go_sem, World.cell?_setCell_far, World.cell?_alloc_past, *]; done))
    have ex2 : ∀ Y, (ext WWx Y).cell? ⟨w.heap.size, 2, none⟩ = some (.int .u64 a.lo) := by subst hWWx; intro Y; exact (ext_cell _ Y (by first | omega | (simp; done) | (simp; omega))).trans (by first | (simp (disch := first | omega | (simp; omega)) [World.cell?_alloc_past, *]; done) | (simp (disch := first | omega | (simp; omega)) [World.cell?_setCell_far, World.cell?_alloc_past, *]; done) | (simp (disch := first | omega | (simp; omega)) [World.cell?_alloc_past, *]; rfl) | (simp (disch := first | omega | (simp; omega)) [World.cell?_setCell_far, World.cell?_alloc_past, *]; rfl) | (simp [go_sem, *]; done) | (simp (disch := first | omega | (simp; omega) | (simp [go_sem, *]; done)) [go_sem, World.cell?_setCell_far, World.cell?_alloc_past, *]; done))
    have ex3 : ∀ Y, (ext WWx Y).cell? ⟨w.heap.size + 1, 0, none⟩ = some (.bool b.v6) := by subst hWWx; intro Y; exact (ext_cell _ Y (by first | omega | (simp; done) | (simp; omega))).trans (by first | (simp (disch := first | omega | (simp; omega)) [World.cell?_alloc_past, *]; done) | (simp (disch := first | omega | (simp; omega)) [World.cell?_setCell_far, World.cell?_alloc_past, *]; done) | (simp (disch := first | omega | (simp; omega)) [World.cell?_alloc_past, *]; rfl) | (simp (disch := first | omega | (simp; omega)) [World.cell?_setCell_far, World.cell?_alloc_past, *]; rfl) | (simp [go_sem, *]; done) | (simp (disch := first | omega | (simp; omega) | (simp [go_sem, *]; done)) [go_sem, World.cell?_setCell_far, World.cell?_alloc_past, *]; done))
    have ex4 : ∀ Y, (ext WWx Y).cell? ⟨w.heap.size + 1, 1, none⟩ = some (.int .u64 b.hi) := by subst hWWx; intro Y; exact (ext_cell _ Y (by first | omega | (simp; done) | (simp; omega))).trans (by first | (simp (disch := first | omega | (simp; omega)) [World.cell?_alloc_past, *]; done) | (simp (disch := first | omega | (simp; omega)) [World.cell?_setCell_far, World.cell?_alloc_past, *]; done) | (simp (disch := first | omega | (simp; omega)) [World.cell?_alloc_past, *]; rfl) | (simp (disch := first | omega | (simp; omega)) [World.cell?_setCell_far, World.cell?_alloc_past, *]; rfl) | (simp [go_sem, *]; done) | (simp (disch := first | omega | (simp; omega) | (simp [go_sem, *]; done)) [go_sem, World.cell?_setCell_far, World.cell?_alloc_past, *]; done))
    have ex5 : ∀ Y, (ext WWx Y).cell? ⟨w.heap.size + 1, 2, none⟩ = some (.int .u64 b.lo) := by subst hWWx; intro Y; exact (ext_cell _ Y (by first | omega | (simp; done) | (simp; omega))).trans (by first | (simp (disch := first | omega | (simp; omega)) [World.cell?_alloc_past, *]; done) | (simp (disch := first | omega | (simp; omega)) [World.cell?_setCell_far, World.cell?_alloc_past, *]; done) | (simp (disch := first | omega | (simp; omega)) [World.cell?_alloc_past, *]; rfl) | (simp (disch := first | omega | (simp; omega)) [World.cell?_setCell_far, World.cell?_alloc_past, *]; rfl) | (simp [go_sem, *]; done) | (simp (disch := first | omega | (simp; omega) | (simp [go_sem, *]; done)) [go_sem, World.cell?_setCell_far, World.cell?_alloc_past, *]; done))
    have bWx : Below w.heap.size w WWx := by subst hWWx; (repeat (first | assumption | exact Below.refl _ _ | refine Below.setCell ?_ (by first | omega | (simp; done) | (simp; omega)) _ | refine Below.alloc ?_ (by first | omega | (simp; done) | (simp; omega)) _ | refine Below.drew ?_ | (refine Below.trans ?_ (Below.mono (by assumption) (by first | omega | (simp; done) | (simp; omega))))))
    have lWx0 : w.heap.size < WWx.heap.size := by subst hWWx; first | omega | (simp; done) | (simp; omega)
    have lWx1 : w.heap.size + 1 < WWx.heap.size := by subst hWWx; first | omega | (simp; done) | (simp; omega)
    clear hWWx
    refine wp_region_ext (by kernel_rfl) (by kernel_rfl) ?_
    repeat (go_big_quiet_step ((first | (go_at_call 39; with_reducible exact qe (HO.out _)) | (go_at_call 22; with_reducible exact qe (HO2.out _)) | (go_at_call 40; with_reducible exact qe (HS.out _)) | (go_at_call 41; with_reducible exact qe (HS2.out _)) | (go_at_call 42; with_reducible exact qe (HT.out _)) | (go_at_call 43; with_reducible exact qe (HA.out _)))))
    refine wpQuiet_nil ?_
    intro _ hw'
    obtain ⟨x, hw''⟩ := hw'
    subst hw''
    have px0 := ex0 x
    have px1 := ex1 x
    have px2 := ex2 x
    have px3 := ex3 x
    have px4 := ex4 x
    have px5 := ex5 x
    clear ex0 ex1 ex2 ex3 ex4 ex5
    have bwx := bWx.trans ((ext_below WWx x).mono bWx.size)
    have zwx := bwx.size
    have zex := (ext_below WWx x).size
    go_wp2_with fail
    go_ret
    exact ⟨rfl, bwx⟩
  | true =>
    rw [ha] at hR hT
    rw [if_pos rfl] at hT
    have e1 := str_beq8 (bs (ntText g))
    have HR := Lib.hid hR; have HT := Lib.hid hT; clear hR hT
    go_enter Try.func7, Try.ntmps7
    go_wp2_with (first | (go_at_call 37; (with_reducible refine (HR.out _).mono ?_); rintro e w1 ⟨rfl, b1⟩; obtain ⟨c1, f1⟩ := bcell b1; have z1 := b1.size; (try simp at z1); have d1a := fun o => c1 (w.heap.size) o (by first | omega | (simp; done) | (simp; omega)); have d1b := fun o => c1 (w.heap.size + 1) o (by first | omega | (simp; done) | (simp; omega)); clear c1 f1) | (go_at_call 22; (with_reducible refine (HO2.out _).mono ?_); rintro e w2 ⟨rfl, b2⟩; obtain ⟨c2, f2⟩ := bcell b2; have z2 := b2.size; (try simp at z2); have d2a := fun o => c2 (w.heap.size) o (by first | omega | (simp; done) | (simp; omega)); have d2b := fun o => c2 (w.heap.size + 1) o (by first | omega | (simp; done) | (simp; omega)); clear c2 f2) | (go_at_call 38; (with_reducible refine (HT2.out _).mono ?_); rintro e w3 ⟨rfl, b3⟩; obtain ⟨c3, f3⟩ := bcell b3; have z3 := b3.size; (try simp at z3); have d3a := fun o => c3 (w.heap.size) o (by first | omega | (simp; done) | (simp; omega)); have d3b := fun o => c3 (w.heap.size + 1) o (by first | omega | (simp; done) | (simp; omega)); clear c3 f3))
    go_name_world WWx hWWx
    have ex0 : ∀ Y, (ext WWx Y).cell? ⟨w.heap.size, 0, none⟩ = some (.bool a.v6) := by subst hWWx; intro Y; exact (ext_cell _ Y (by first | omega | (simp; done) | (simp; omega))).trans (by first | (simp (disch := first | omega | (simp; omega)) [World.cell?_alloc_past, *]; done) | (simp (disch := first | omega | (simp; omega)) [World.cell?_setCell_far, World.cell?_alloc_past, *]; done) | (simp (disch := first | omega | (simp; omega)) [World.cell?_alloc_past, *]; rfl) | (simp (disch := first | omega | (simp; omega)) [World.cell?_setCell_far, World.cell?_alloc_past, *]; rfl) | (simp [go_sem, *]; done) | (simp (disch := first | omega | (simp; omega) | (simp [go_sem, *]; done)) [go_sem, World.cell?_setCell_far, World.cell?_alloc_past, *]; done))
    have ex1 : ∀ Y, (ext WWx Y).cell? ⟨w.heap.size, 1, none⟩ = some (.int .u64 a.hi) := by subst hWWx; intro Y; exact (ext_cell _ Y (by first | omega | (simp; done) | (simp; omega))).trans (by first | (simp (disch := first | omega | (simp; omega)) [World.cell?_alloc_past, *]; done) | (simp (disch := first | omega | (simp; omega)) [World.cell?_setCell_far, World.cell?_alloc_past, *]; done) | (simp (disch := first | omega | (simp; omega)) [World.cell?_alloc_past, *]; rfl) | (simp (disch := first | omega | (simp; omega)) [World.cell?_setCell_far, World.cell?_alloc_past, *]; rfl) | (simp [go_sem, *]; done) | (simp (disch := first | omega | (simp; omega) | (simp [go_sem, *]; done)) [go_sem, World.cell?_setCell_far, World.cell?_alloc_past, *]; done))
    have ex2 : ∀ Y, (ext WWx Y).cell? ⟨w.heap.size, 2, none⟩ = some (.int .u64 a.lo) := by subst hWWx; intro Y; exact (ext_cell _ Y (by first | omega | (simp; done) | (simp; omega))).trans (by first | (simp (disch := first | omega | (simp; omega)) [World.cell?_alloc_past, *]; done) | (simp (disch := first | omega | (simp; omega)) [World.cell?_setCell_far, World.cell?_alloc_past, *]; done) | (simp (disch := first | omega | (simp; omega)) [World.cell?_alloc_past, *]; rfl) | (simp (disch := first | omega | (simp; omega)) [World.cell?_setCell_far, World.cell?_alloc_past, *]; rfl) | (simp [go_sem, *]; done) | (simp (disch := first | omega | (simp; omega) | (simp [go_sem, *]; done)) [go_sem, World.cell?_setCell_far, World.cell?_alloc_past, *]; done))
    have ex3 : ∀ Y, (ext WWx Y).cell? ⟨w.heap.size + 1, 0, none⟩ = some (.bool b.v6) := by subst hWWx; intro Y; exact (ext_cell _ Y (by first | omega | (simp; done) | (simp; omega))).trans (by first | (simp (disch := first | omega | (simp; omega)) [World.cell?_alloc_past, *]; done) | (simp (disch := first | omega | (simp; omega)) [World.cell?_setCell_far, World.cell?_alloc_past, *]; done) | (simp (disch := first | omega | (simp; omega)) [World.cell?_alloc_past, *]; rfl) | (simp (disch := first | omega | (simp; omega)) [World.cell?_setCell_far, World.cell?_alloc_past, *]; rfl) | (simp [go_sem, *]; done) | (simp (disch := first | omega | (simp; omega) | (simp [go_sem, *]; done)) [go_sem, World.cell?_setCell_far, World.cell?_alloc_past, *]; done))
    have ex4 : ∀ Y, (ext WWx Y).cell? ⟨w.heap.size + 1, 1, none⟩ = some (.int .u64 b.hi) := by subst hWWx; intro Y; exact (ext_cell _ Y (by first | omega | (simp; done) | (simp; omega))).trans (by first | (simp (disch := first | omega | (simp; omega)) [World.cell?_alloc_past, *]; done) | (simp (disch := first | omega | (simp; omega)) [World.cell?_setCell_far, World.cell?_alloc_past, *]; done) | (simp (disch := first | omega | (simp; omega)) [World.cell?_alloc_past, *]; rfl) | (simp (disch := first | omega | (simp; omega)) [World.cell?_setCell_far, World.cell?_alloc_past, *]; rfl) | (simp [go_sem, *]; done) | (simp (disch := first | omega | (simp; omega) | (simp [go_sem, *]; done)) [go_sem, World.cell?_setCell_far, World.cell?_alloc_past, *]; done))
    have ex5 : ∀ Y, (ext WWx Y).cell? ⟨w.heap.size + 1, 2, none⟩ = some (.int .u64 b.lo) := by subst hWWx; intro Y; exact (ext_cell _ Y (by first | omega | (simp; done) | (simp; omega))).trans (by first | (simp (disch := first | omega | (simp; omega)) [World.cell?_alloc_past, *]; done) | (simp (disch := first | omega | (simp; omega)) [World.cell?_setCell_far, World.cell?_alloc_past, *]; done) | (simp (disch := first | omega | (simp; omega)) [World.cell?_alloc_past, *]; rfl) | (simp (disch := first | omega | (simp; omega)) [World.cell?_setCell_far, World.cell?_alloc_past, *]; rfl) | (simp [go_sem, *]; done) | (simp (disch := first | omega | (simp; omega) | (simp [go_sem, *]; done)) [go_sem, World.cell?_setCell_far, World.cell?_alloc_past, *]; done))
    have bWx : Below w.heap.size w WWx := by subst hWWx; (repeat (first | assumption | exact Below.refl _ _ | refine Below.setCell ?_ (by first | omega | (simp; done) | (simp; omega)) _ | refine Below.alloc ?_ (by first | omega | (simp; done) | (simp; omega)) _ | refine Below.drew ?_ | (refine Below.trans ?_ (Below.mono (by assumption) (by first | omega | (simp; done) | (simp; omega))))))
    have lWx0 : w.heap.size < WWx.heap.size := by subst hWWx; first | omega | (simp; done) | (simp; omega)
    have lWx1 : w.heap.size + 1 < WWx.heap.size := by subst hWWx; first | omega | (simp; done) | (simp; omega)
    clear hWWx
    refine wp_region_ext (by kernel_rfl) (by kernel_rfl) ?_
    repeat (go_big_quiet_step ((first | (go_at_call 39; with_reducible exact qe (HO.out _)) | (go_at_call 22; with_reducible exact qe (HO2.out _)) | (go_at_call 40; with_reducible exact qe (HS.out _)) | (go_at_call 41; with_reducible exact qe (HS2.out _)) | (go_at_call 42; with_reducible exact qe (HT.out _)) | (go_at_call 43; with_reducible exact qe (HA.out _)))))
    refine wpQuiet_nil ?_
    intro _ hw'
    obtain ⟨x, hw''⟩ := hw'
    subst hw''
    have px0 := ex0 x
    have px1 := ex1 x
    have px2 := ex2 x
    have px3 := ex3 x
    have px4 := ex4 x
    have px5 := ex5 x
    clear ex0 ex1 ex2 ex3 ex4 ex5
    have bwx := bWx.trans ((ext_below WWx x).mono bWx.size)
    have zwx := bwx.size
    have zex := (ext_below WWx x).size
    go_wp2_with fail
    go_ret
    exact ⟨rfl, bwx⟩
set_option maxRecDepth 100000 in
set_option maxHeartbeats 4000000 in
theorem groupOne_any (a b : Ad) (fa : a.fits) (fb : b.fits) (w : World) : Calls Try.prog 8 #[.agg #[.bool a.v6, .int .u64 a.hi, .int .u64 a.lo], .agg #[.bool b.v6, .int .u64 b.hi, .int .u64 b.lo]] w fun e w' => e = .returned (.bool true) ∧ Below w.heap.size w w' := by
  have hRa := fun w => refAdRight_any a fa w
  have hRb := fun w => refAdRight_any b fb w
  have HA := Lib.hid (fun w => awake08_any w)
  cases ha : adRight a with
  | false =>
    rw [ha] at hRa
    have HRa := Lib.hid hRa; have HRb := Lib.hid hRb; clear hRa hRb
    go_enter Try.func8, Try.ntmps8
    go_wp2_with (first | (go_at_call 37; (with_reducible refine (HRa.out _).mono ?_); rintro e w1 ⟨rfl, b1⟩; obtain ⟨c1, f1⟩ := bcell b1; have z1 := b1.size; (try simp at z1); have d1a := fun o => c1 (w.heap.size) o (by first | omega | (simp; done) | (simp; omega)); have d1b := fun o => c1 (w.heap.size + 1) o (by first | omega | (simp; done) | (simp; omega)); clear c1 f1) | (go_at_call 37; (with_reducible refine (HRb.out _).mono ?_); rintro e w2 ⟨rfl, b2⟩; obtain ⟨c2, f2⟩ := bcell b2; have z2 := b2.size; (try simp at z2); have d2a := fun o => c2 (w.heap.size) o (by first | omega | (simp; done) | (simp; omega)); have d2b := fun o => c2 (w.heap.size + 1) o (by first | omega | (simp; done) | (simp; omega)); clear c2 f2) | (go_at_call 43; (with_reducible refine (HA.out _).mono ?_); rintro e w3 ⟨rfl, b3⟩; obtain ⟨c3, f3⟩ := bcell b3; have z3 := b3.size; (try simp at z3); clear c3 f3))
    go_ret
    refine ⟨rfl, ?_⟩
    (repeat (first | assumption | exact Below.refl _ _ | refine Below.setCell ?_ (by first | omega | (simp; done) | (simp; omega)) _ | refine Below.alloc ?_ (by first | omega | (simp; done) | (simp; omega)) _ | refine Below.drew ?_ | (refine Below.trans ?_ (Below.mono (by assumption) (by first | omega | (simp; done) | (simp; omega))))))
  | true =>
  rw [ha] at hRa
  cases hb : adRight b with
  | false =>
    rw [hb] at hRb
    have HRa := Lib.hid hRa; have HRb := Lib.hid hRb; clear hRa hRb
    go_enter Try.func8, Try.ntmps8
    go_wp2_with (first | (go_at_call 37; (with_reducible refine (HRa.out _).mono ?_); rintro e w1 ⟨rfl, b1⟩; obtain ⟨c1, f1⟩ := bcell b1; have z1 := b1.size; (try simp at z1); have d1a := fun o => c1 (w.heap.size) o (by first | omega | (simp; done) | (simp; omega)); have d1b := fun o => c1 (w.heap.size + 1) o (by first | omega | (simp; done) | (simp; omega)); clear c1 f1) | (go_at_call 37; (with_reducible refine (HRb.out _).mono ?_); rintro e w2 ⟨rfl, b2⟩; obtain ⟨c2, f2⟩ := bcell b2; have z2 := b2.size; (try simp at z2); have d2a := fun o => c2 (w.heap.size) o (by first | omega | (simp; done) | (simp; omega)); have d2b := fun o => c2 (w.heap.size + 1) o (by first | omega | (simp; done) | (simp; omega)); clear c2 f2) | (go_at_call 43; (with_reducible refine (HA.out _).mono ?_); rintro e w3 ⟨rfl, b3⟩; obtain ⟨c3, f3⟩ := bcell b3; have z3 := b3.size; (try simp at z3); clear c3 f3))
    go_ret
    refine ⟨rfl, ?_⟩
    (repeat (first | assumption | exact Below.refl _ _ | refine Below.setCell ?_ (by first | omega | (simp; done) | (simp; omega)) _ | refine Below.alloc ?_ (by first | omega | (simp; done) | (simp; omega)) _ | refine Below.drew ?_ | (refine Below.trans ?_ (Below.mono (by assumption) (by first | omega | (simp; done) | (simp; omega))))))
  | true =>
  rw [hb] at hRb
  have hHa := fun w => ntHas_any (grOf a) a (grOf_fits a fa) fa w
  have hHb := fun w => ntHas_any (grOf a) b (grOf_fits a fa) fb w
  rw [ntHas_gr a a fa ha ha, decide_eq_true rfl] at hHa
  rw [ntHas_gr a b fa ha hb] at hHb
  have hS := fun w => grSame_any a b fa fb w
  have hgs : grSame a b = decide (grOf a = grOf b) := by unfold grSame; rw [ha, hb]; rfl
  rw [hgs] at hS
  have HOa := Lib.hid (fun w => grOf_any a fa w)
  have HOb := Lib.hid (fun w => grOf_any b fb w)
  have q := fun W => eqlNt (grOf a) (grOf b) W
  generalize decide (grOf a = grOf b) = s at *
  generalize grOf a = ga at *
  generalize grOf b = gb at *
  have e2 : (s == s) = true := by simp
  have HRa := Lib.hid hRa; have HRb := Lib.hid hRb; have HHa := Lib.hid hHa; have HHb := Lib.hid hHb; have HS := Lib.hid hS; clear hRa hRb hHa hHb hS hgs
  go_enter Try.func8, Try.ntmps8
  go_wp2_with (first | (go_at_call 37; (with_reducible refine (HRa.out _).mono ?_); rintro e w1 ⟨rfl, b1⟩; obtain ⟨c1, f1⟩ := bcell b1; have z1 := b1.size; (try simp at z1); have d1a := fun o => c1 (w.heap.size) o (by first | omega | (simp; done) | (simp; omega)); have d1b := fun o => c1 (w.heap.size + 1) o (by first | omega | (simp; done) | (simp; omega)); clear c1 f1) | (go_at_call 37; (with_reducible refine (HRb.out _).mono ?_); rintro e w2 ⟨rfl, b2⟩; obtain ⟨c2, f2⟩ := bcell b2; have z2 := b2.size; (try simp at z2); have d2a := fun o => c2 (w.heap.size) o (by first | omega | (simp; done) | (simp; omega)); have d2b := fun o => c2 (w.heap.size + 1) o (by first | omega | (simp; done) | (simp; omega)); clear c2 f2) | (go_at_call 43; (with_reducible refine (HA.out _).mono ?_); rintro e w3 ⟨rfl, b3⟩; obtain ⟨c3, f3⟩ := bcell b3; have z3 := b3.size; (try simp at z3); clear c3 f3))
  go_name_world WWx hWWx
  have ex0 : ∀ Y, (ext WWx Y).cell? ⟨w.heap.size, 0, none⟩ = some (.bool a.v6) := by subst hWWx; intro Y; exact (ext_cell _ Y (by first | omega | (simp; done) | (simp; omega))).trans (by first | (simp (disch := first | omega | (simp; omega)) [World.cell?_alloc_past, *]; done) | (simp (disch := first | omega | (simp; omega)) [World.cell?_setCell_far, World.cell?_alloc_past, *]; done) | (simp (disch := first | omega | (simp; omega)) [World.cell?_alloc_past, *]; rfl) | (simp (disch := first | omega | (simp; omega)) [World.cell?_setCell_far, World.cell?_alloc_past, *]; rfl) | (simp [go_sem, *]; done) | (simp (disch := first | omega | (simp; omega) | (simp [go_sem, *]; done)) [go_sem, World.cell?_setCell_far, World.cell?_alloc_past, *]; done))
  have ex1 : ∀ Y, (ext WWx Y).cell? ⟨w.heap.size, 1, none⟩ = some (.int .u64 a.hi) := by subst hWWx; intro Y; exact (ext_cell _ Y (by first | omega | (simp; done) | (simp; omega))).trans (by first | (simp (disch := first | omega | (simp; omega)) [World.cell?_alloc_past, *]; done) | (simp (disch := first | omega | (simp; omega)) [World.cell?_setCell_far, World.cell?_alloc_past, *]; done) | (simp (disch := first | omega | (simp; omega)) [World.cell?_alloc_past, *]; rfl) | (simp (disch := first | omega | (simp; omega)) [World.cell?_setCell_far, World.cell?_alloc_past, *]; rfl) | (simp [go_sem, *]; done) | (simp (disch := first | omega | (simp; omega) | (simp [go_sem, *]; done)) [go_sem, World.cell?_setCell_far, World.cell?_alloc_past, *]; done))
  have ex2 : ∀ Y, (ext WWx Y).cell? ⟨w.heap.size, 2, none⟩ = some (.int .u64 a.lo) := by subst hWWx; intro Y; exact (ext_cell _ Y (by first | omega | (simp; done) | (simp; omega))).trans (by first | (simp (disch := first | omega | (simp; omega)) [World.cell?_alloc_past, *]; done) | (simp (disch := first | omega | (simp; omega)) [World.cell?_setCell_far, World.cell?_alloc_past, *]; done) | (simp (disch := first | omega | (simp; omega)) [World.cell?_alloc_past, *]; rfl) | (simp (disch := first | omega | (simp; omega)) [World.cell?_setCell_far, World.cell?_alloc_past, *]; rfl) | (simp [go_sem, *]; done) | (simp (disch := first | omega | (simp; omega) | (simp [go_sem, *]; done)) [go_sem, World.cell?_setCell_far, World.cell?_alloc_past, *]; done))
  have ex3 : ∀ Y, (ext WWx Y).cell? ⟨w.heap.size + 1, 0, none⟩ = some (.bool b.v6) := by subst hWWx; intro Y; exact (ext_cell _ Y (by first | omega | (simp; done) | (simp; omega))).trans (by first | (simp (disch := first | omega | (simp; omega)) [World.cell?_alloc_past, *]; done) | (simp (disch := first | omega | (simp; omega)) [World.cell?_setCell_far, World.cell?_alloc_past, *]; done) | (simp (disch := first | omega | (simp; omega)) [World.cell?_alloc_past, *]; rfl) | (simp (disch := first | omega | (simp; omega)) [World.cell?_setCell_far, World.cell?_alloc_past, *]; rfl) | (simp [go_sem, *]; done) | (simp (disch := first | omega | (simp; omega) | (simp [go_sem, *]; done)) [go_sem, World.cell?_setCell_far, World.cell?_alloc_past, *]; done))
  have ex4 : ∀ Y, (ext WWx Y).cell? ⟨w.heap.size + 1, 1, none⟩ = some (.int .u64 b.hi) := by subst hWWx; intro Y; exact (ext_cell _ Y (by first | omega | (simp; done) | (simp; omega))).trans (by first | (simp (disch := first | omega | (simp; omega)) [World.cell?_alloc_past, *]; done) | (simp (disch := first | omega | (simp; omega)) [World.cell?_setCell_far, World.cell?_alloc_past, *]; done) | (simp (disch := first | omega | (simp; omega)) [World.cell?_alloc_past, *]; rfl) | (simp (disch := first | omega | (simp; omega)) [World.cell?_setCell_far, World.cell?_alloc_past, *]; rfl) | (simp [go_sem, *]; done) | (simp (disch := first | omega | (simp; omega) | (simp [go_sem, *]; done)) [go_sem, World.cell?_setCell_far, World.cell?_alloc_past, *]; done))
  have ex5 : ∀ Y, (ext WWx Y).cell? ⟨w.heap.size + 1, 2, none⟩ = some (.int .u64 b.lo) := by subst hWWx; intro Y; exact (ext_cell _ Y (by first | omega | (simp; done) | (simp; omega))).trans (by first | (simp (disch := first | omega | (simp; omega)) [World.cell?_alloc_past, *]; done) | (simp (disch := first | omega | (simp; omega)) [World.cell?_setCell_far, World.cell?_alloc_past, *]; done) | (simp (disch := first | omega | (simp; omega)) [World.cell?_alloc_past, *]; rfl) | (simp (disch := first | omega | (simp; omega)) [World.cell?_setCell_far, World.cell?_alloc_past, *]; rfl) | (simp [go_sem, *]; done) | (simp (disch := first | omega | (simp; omega) | (simp [go_sem, *]; done)) [go_sem, World.cell?_setCell_far, World.cell?_alloc_past, *]; done))
  have bWx : Below w.heap.size w WWx := by subst hWWx; (repeat (first | assumption | exact Below.refl _ _ | refine Below.setCell ?_ (by first | omega | (simp; done) | (simp; omega)) _ | refine Below.alloc ?_ (by first | omega | (simp; done) | (simp; omega)) _ | refine Below.drew ?_ | (refine Below.trans ?_ (Below.mono (by assumption) (by first | omega | (simp; done) | (simp; omega))))))
  have lWx0 : w.heap.size < WWx.heap.size := by subst hWWx; first | omega | (simp; done) | (simp; omega)
  have lWx1 : w.heap.size + 1 < WWx.heap.size := by subst hWWx; first | omega | (simp; done) | (simp; omega)
  clear hWWx
  refine wp_region_ext (by kernel_rfl) (by kernel_rfl) ?_
  repeat (go_big_quiet_step ((first | (go_at_call 39; with_reducible exact qe (HOa.out _)) | (go_at_call 39; with_reducible exact qe (HOb.out _)) | (go_at_call 44; with_reducible exact qe (HHa.out _)) | (go_at_call 44; with_reducible exact qe (HHb.out _)) | (go_at_call 40; with_reducible exact qe (HS.out _)) | (go_at_call 43; with_reducible exact qe (HA.out _)))))
  refine wpQuiet_nil ?_
  intro _ hw'
  obtain ⟨x, hw''⟩ := hw'
  subst hw''
  have px0 := ex0 x
  have px1 := ex1 x
  have px2 := ex2 x
  have px3 := ex3 x
  have px4 := ex4 x
  have px5 := ex5 x
  clear ex0 ex1 ex2 ex3 ex4 ex5
  have bwx := bWx.trans ((ext_below WWx x).mono bWx.size)
  have zwx := bwx.size
  have zex := (ext_below WWx x).size
  go_wp2_with fail
  go_ret
  exact ⟨rfl, bwx⟩
end Go.Proofs.Ytecegljipjofmaa
