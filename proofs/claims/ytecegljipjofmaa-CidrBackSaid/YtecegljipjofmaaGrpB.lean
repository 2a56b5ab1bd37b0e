/- The contract of the reference's way to hold groups against each other; who is in a subnet. -/
import Derived.Test.YtecegljipjofmaaGrp
namespace Go.Proofs.Ytecegljipjofmaa
open Go.RowKit
set_option linter.unusedSimpArgs false
set_option linter.unusedVariables false

set_option maxRecDepth 100000 in
set_option maxHeartbeats 4000000 in
theorem refGrSame_any (a b : Ad) (fa : a.fits) (fb : b.fits) (w : World) : Calls Try.prog 41 #[.agg #[.bool a.v6, .int .u64 a.hi, .int .u64 a.lo], .agg #[.bool b.v6, .int .u64 b.hi, .int .u64 b.lo]] w fun e w' => e = .returned (.bool (grSame a b)) ∧ Below w.heap.size w w' := by
  have hRa := fun w => refAdRight_any a fa w
  have hRb := fun w => refAdRight_any b fb w
  have hBi := fun i w => refAdBit_any a fa i w
  have hBj := fun i w => refAdBit_any b fb i w
  have hsame := same_bits a b fa fb
  have h6a := grOf_v6 a
  have h6b := grOf_v6 b
  unfold grSame
  cases ha : adRight a with
  | false =>
    rw [ha] at hRa
    have HRa := Lib.hid hRa; have HRb := Lib.hid hRb; clear hRa hRb hBi hBj hsame h6a h6b
    go_enter Try.func41, Try.ntmps41
    go_wp2_with (first | (go_at_call 37; (with_reducible refine (HRa.out _).mono ?_); rintro e w1 ⟨rfl, b1⟩; obtain ⟨c1, f1⟩ := bcell b1; have z1 := b1.size; (try simp at z1); have d1a := fun o => c1 (w.heap.size) o (by first | omega | (simp; done) | (simp; omega)); have d1b := fun o => c1 (w.heap.size + 1) o (by first | omega | (simp; done) | (simp; omega)); clear c1 f1) | (go_at_call 37; (with_reducible refine (HRb.out _).mono ?_); rintro e w2 ⟨rfl, b2⟩; obtain ⟨c2, f2⟩ := bcell b2; have z2 := b2.size; (try simp at z2); have d2a := fun o => c2 (w.heap.size) o (by first | omega | (simp; done) | (simp; omega)); have d2b := fun o => c2 (w.heap.size + 1) o (by first | omega | (simp; done) | (simp; omega)); clear c2 f2))
    go_ret
    refine ⟨rfl, ?_⟩
    (repeat (first | assumption | exact Below.refl _ _ | refine Below.setCell ?_ (by first | omega | (simp; done) | (simp; omega)) _ | refine Below.alloc ?_ (by first | omega | (simp; done) | (simp; omega)) _ | refine Below.drew ?_ | (refine Below.trans ?_ (Below.mono (by assumption) (by first | omega | (simp; done) | (simp; omega))))))
  | true =>
  rw [ha] at hRa
  cases hb : adRight b with
  | false =>
    rw [hb] at hRb
    have HRa := Lib.hid hRa; have HRb := Lib.hid hRb; clear hRa hRb hBi hBj hsame h6a h6b
    go_enter Try.func41, Try.ntmps41
    go_wp2_with (first | (go_at_call 37; (with_reducible refine (HRa.out _).mono ?_); rintro e w1 ⟨rfl, b1⟩; obtain ⟨c1, f1⟩ := bcell b1; have z1 := b1.size; (try simp at z1); have d1a := fun o => c1 (w.heap.size) o (by first | omega | (simp; done) | (simp; omega)); have d1b := fun o => c1 (w.heap.size + 1) o (by first | omega | (simp; done) | (simp; omega)); clear c1 f1) | (go_at_call 37; (with_reducible refine (HRb.out _).mono ?_); rintro e w2 ⟨rfl, b2⟩; obtain ⟨c2, f2⟩ := bcell b2; have z2 := b2.size; (try simp at z2); have d2a := fun o => c2 (w.heap.size) o (by first | omega | (simp; done) | (simp; omega)); have d2b := fun o => c2 (w.heap.size + 1) o (by first | omega | (simp; done) | (simp; omega)); clear c2 f2))
    go_ret
    refine ⟨rfl, ?_⟩
    (repeat (first | assumption | exact Below.refl _ _ | refine Below.setCell ?_ (by first | omega | (simp; done) | (simp; omega)) _ | refine Below.alloc ?_ (by first | omega | (simp; done) | (simp; omega)) _ | refine Below.drew ?_ | (refine Below.trans ?_ (Below.mono (by assumption) (by first | omega | (simp; done) | (simp; omega))))))
  | true =>
  rw [hb] at hRb
  rw [Bool.true_and, Bool.true_and]
  by_cases hvv : a.v6 = b.v6
  · have hsame := hsame ha hb hvv
    clear h6a h6b
    cases hv : a.v6 with
    | true =>
      have hg : grBits a = 32 := by unfold grBits; rw [if_pos hv]
      rw [hg] at hsame
      have HSAME := Lib.hid hsame; clear hsame hg
      rw [hv] at hRa hBi
      have hvb := hvv.symm.trans hv
      rw [hvb] at hRb hBj ⊢
      have HRa := Lib.hid hRa; have HRb := Lib.hid hRb; have HBi := Lib.hid hBi; have HBj := Lib.hid hBj
      clear hRa hRb hBi hBj hvv
      go_enter Try.func41, Try.ntmps41
      go_wp2_with (first | (go_at_call 37; (with_reducible refine (HRa.out _).mono ?_); rintro e w1 ⟨rfl, b1⟩; obtain ⟨c1, f1⟩ := bcell b1; have z1 := b1.size; (try simp at z1); have d1a := fun o => c1 (w.heap.size) o (by first | omega | (simp; done) | (simp; omega)); have d1b := fun o => c1 (w.heap.size + 1) o (by first | omega | (simp; done) | (simp; omega)); clear c1 f1) | (go_at_call 37; (with_reducible refine (HRb.out _).mono ?_); rintro e w2 ⟨rfl, b2⟩; obtain ⟨c2, f2⟩ := bcell b2; have z2 := b2.size; (try simp at z2); have d2a := fun o => c2 (w.heap.size) o (by first | omega | (simp; done) | (simp; omega)); have d2b := fun o => c2 (w.heap.size + 1) o (by first | omega | (simp; done) | (simp; omega)); clear c2 f2))
      go_name_world WWx hWWx
      have ex0 : WWx.cell? ⟨w.heap.size, 0, none⟩ = some (.bool true) := by subst hWWx; (first | (simp (disch := first | omega | (simp; omega)) [World.cell?_alloc_past, World.frozen?_alloc_past, *]; done) | (simp (disch := first | omega | (simp; omega)) [World.cell?_setCell_far, World.cell?_alloc_past, *]; done) | (simp (disch := first | omega | (simp; omega)) [World.cell?_alloc_past, World.frozen?_alloc_past, *]; rfl) | (simp (disch := first | omega | (simp; omega)) [World.cell?_setCell_far, World.cell?_alloc_past, *]; rfl) | (simp [go_sem, *]; done) | (simp (disch := first | omega | (simp; omega) | (simp [go_sem, *]; done)) [go_sem, World.cell?_setCell_far, World.cell?_alloc_past, World.frozen?_alloc_past, *]; done))
      have ex1 : WWx.cell? ⟨w.heap.size, 1, none⟩ = some (.int .u64 a.hi) := by subst hWWx; (first | (simp (disch := first | omega | (simp; omega)) [World.cell?_alloc_past, World.frozen?_alloc_past, *]; done) | (simp (disch := first | omega | (simp; omega)) [World.cell?_setCell_far, World.cell?_alloc_past, *]; done) | (simp (disch := first | omega | (simp; omega)) [World.cell?_alloc_past, World.frozen?_alloc_past, *]; rfl) | (simp (disch := first | omega | (simp; omega)) [World.cell?_setCell_far, World.cell?_alloc_past, *]; rfl) | (simp [go_sem, *]; done) | (simp (disch := first | omega | (simp; omega) | (simp [go_sem, *]; done)) [go_sem, World.cell?_setCell_far, World.cell?_alloc_past, World.frozen?_alloc_past, *]; done))
      have ex2 : WWx.cell? ⟨w.heap.size, 2, none⟩ = some (.int .u64 a.lo) := by subst hWWx; (first | (simp (disch := first | omega | (simp; omega)) [World.cell?_alloc_past, World.frozen?_alloc_past, *]; done) | (simp (disch := first | omega | (simp; omega)) [World.cell?_setCell_far, World.cell?_alloc_past, *]; done) | (simp (disch := first | omega | (simp; omega)) [World.cell?_alloc_past, World.frozen?_alloc_past, *]; rfl) | (simp (disch := first | omega | (simp; omega)) [World.cell?_setCell_far, World.cell?_alloc_past, *]; rfl) | (simp [go_sem, *]; done) | (simp (disch := first | omega | (simp; omega) | (simp [go_sem, *]; done)) [go_sem, World.cell?_setCell_far, World.cell?_alloc_past, World.frozen?_alloc_past, *]; done))
      have ex3 : WWx.cell? ⟨w.heap.size + 1, 0, none⟩ = some (.bool true) := by subst hWWx; (first | (simp (disch := first | omega | (simp; omega)) [World.cell?_alloc_past, World.frozen?_alloc_past, *]; done) | (simp (disch := first | omega | (simp; omega)) [World.cell?_setCell_far, World.cell?_alloc_past, *]; done) | (simp (disch := first | omega | (simp; omega)) [World.cell?_alloc_past, World.frozen?_alloc_past, *]; rfl) | (simp (disch := first | omega | (simp; omega)) [World.cell?_setCell_far, World.cell?_alloc_past, *]; rfl) | (simp [go_sem, *]; done) | (simp (disch := first | omega | (simp; omega) | (simp [go_sem, *]; done)) [go_sem, World.cell?_setCell_far, World.cell?_alloc_past, World.frozen?_alloc_past, *]; done))
      have ex4 : WWx.cell? ⟨w.heap.size + 1, 1, none⟩ = some (.int .u64 b.hi) := by subst hWWx; (first | (simp (disch := first | omega | (simp; omega)) [World.cell?_alloc_past, World.frozen?_alloc_past, *]; done) | (simp (disch := first | omega | (simp; omega)) [World.cell?_setCell_far, World.cell?_alloc_past, *]; done) | (simp (disch := first | omega | (simp; omega)) [World.cell?_alloc_past, World.frozen?_alloc_past, *]; rfl) | (simp (disch := first | omega | (simp; omega)) [World.cell?_setCell_far, World.cell?_alloc_past, *]; rfl) | (simp [go_sem, *]; done) | (simp (disch := first | omega | (simp; omega) | (simp [go_sem, *]; done)) [go_sem, World.cell?_setCell_far, World.cell?_alloc_past, World.frozen?_alloc_past, *]; done))
      have ex5 : WWx.cell? ⟨w.heap.size + 1, 2, none⟩ = some (.int .u64 b.lo) := by subst hWWx; (first | (simp (disch := first | omega | (simp; omega)) [World.cell?_alloc_past, World.frozen?_alloc_past, *]; done) | (simp (disch := first | omega | (simp; omega)) [World.cell?_setCell_far, World.cell?_alloc_past, *]; done) | (simp (disch := first | omega | (simp; omega)) [World.cell?_alloc_past, World.frozen?_alloc_past, *]; rfl) | (simp (disch := first | omega | (simp; omega)) [World.cell?_setCell_far, World.cell?_alloc_past, *]; rfl) | (simp [go_sem, *]; done) | (simp (disch := first | omega | (simp; omega) | (simp [go_sem, *]; done)) [go_sem, World.cell?_setCell_far, World.cell?_alloc_past, World.frozen?_alloc_past, *]; done))
      have bwx : Below w.heap.size w WWx := by subst hWWx; (repeat (first | assumption | exact Below.refl _ _ | refine Below.setCell ?_ (by first | omega | (simp; done) | (simp; omega)) _ | refine Below.alloc ?_ (by first | omega | (simp; done) | (simp; omega)) _ | refine Below.drew ?_ | (refine Below.trans ?_ (Below.mono (by assumption) (by first | omega | (simp; done) | (simp; omega))))))
      have zwx : _ := bwx.size
      have lWx0 : w.heap.size < WWx.heap.size := by subst hWWx; first | omega | (simp; done) | (simp; omega)
      have lWx1 : w.heap.size + 1 < WWx.heap.size := by subst hWWx; first | omega | (simp; done) | (simp; omega)
      clear hWWx
      try clear b1
      try clear b2
      try clear d1a
      try clear d1b
      try clear d2a
      try clear d2b
      clear z1 z2
      go_loopw [5] (fun i wr => ∃ k : Nat, i = .int .i64 k ∧ k ≤ 32 ∧ Hid (∀ j : Nat, j < k → j < 32 → adBit a (j : Int) = adBit b (j : Int)) ∧ Below WWx.heap.size WWx wr) (fun i _ => 32 - (intOf i).toNat)
      case atStart => exact ⟨0, rfl, by omega, (by intro j hj; omega : ∀ j : Nat, j < 0 → j < 32 → adBit a (j : Int) = adBit b (j : Int)), Below.refl _ _⟩
      case round =>
        obtain ⟨k, rfl, hk, HN, hb⟩ := hrel
        have p0 := keep hb (by omega) ex0
        have p1 := keep hb (by omega) ex1
        have p2 := keep hb (by omega) ex2
        have p3 := keep hb (by omega) ex3
        have p4 := keep hb (by omega) ex4
        have p5 := keep hb (by omega) ex5
        have zr := hb.size
        have bww := bwx.trans (hb.mono zwx)
        have lr : w.heap.size + 1 < wr.heap.size := by omega
        clear ex0 ex1 ex2 ex3 ex4 ex5
        by_cases hlt : k < 32
        · have hdl : decide ((k : Int) < 32) = true := decide_eq_true (by omega)
          have hdl2 : decide (k < 32) = true := decide_eq_true hlt
          have HBk := Lib.hid (fun w => HBi.out k w)
          have HCk := Lib.hid (fun w => HBj.out k w)
          by_cases hxy : adBit a (k : Int) = adBit b (k : Int)
          · have hq : (((adBit a (k : Int) : Nat) : Int) != ((adBit b (k : Int) : Nat) : Int)) = false := by rw [hxy]; simp
            have HXY := Lib.hid hxy; clear hxy
            generalize hx : adBit a (k : Int) = x0 at *
            generalize hy : adBit b (k : Int) = y0 at *
            have HX := Lib.hid hx; have HY := Lib.hid hy; clear hx hy
            go_wp2_with fail
            go_name_world WWy hWWy
            have ey0 : ∀ Y, (ext WWy Y).cell? ⟨w.heap.size, 0, none⟩ = some (.bool true) := by subst hWWy; intro Y; exact (ext_cell _ Y (by first | omega | (simp; done) | (simp; omega))).trans (by first | (simp (disch := first | omega | (simp; omega)) [World.cell?_alloc_past, *]; done) | (simp (disch := first | omega | (simp; omega)) [World.cell?_setCell_far, World.cell?_alloc_past, *]; done) | (simp (disch := first | omega | (simp; omega)) [World.cell?_alloc_past, *]; rfl) | (simp (disch := first | omega | (simp; omega)) [World.cell?_setCell_far, World.cell?_alloc_past, *]; rfl) | (simp [go_sem, *]; done) | (simp (disch := first | omega | (simp; omega) | (simp [go_sem, *]; done)) [go_sem, World.cell?_setCell_far, World.cell?_alloc_past, *]; done))
            have ey1 : ∀ Y, (ext WWy Y).cell? ⟨w.heap.size, 1, none⟩ = some (.int .u64 a.hi) := by subst hWWy; intro Y; exact (ext_cell _ Y (by first | omega | (simp; done) | (simp; omega))).trans (by first | (simp (disch := first | omega | (simp; omega)) [World.cell?_alloc_past, *]; done) | (simp (disch := first | omega | (simp; omega)) [World.cell?_setCell_far, World.cell?_alloc_past, *]; done) | (simp (disch := first | omega | (simp; omega)) [World.cell?_alloc_past, *]; rfl) | (simp (disch := first | omega | (simp; omega)) [World.cell?_setCell_far, World.cell?_alloc_past, *]; rfl) | (simp [go_sem, *]; done) | (simp (disch := first | omega | (simp; omega) | (simp [go_sem, *]; done)) [go_sem, World.cell?_setCell_far, World.cell?_alloc_past, *]; done))
            have ey2 : ∀ Y, (ext WWy Y).cell? ⟨w.heap.size, 2, none⟩ = some (.int .u64 a.lo) := by subst hWWy; intro Y; exact (ext_cell _ Y (by first | omega | (simp; done) | (simp; omega))).trans (by first | (simp (disch := first | omega | (simp; omega)) [World.cell?_alloc_past, *]; done) | (simp (disch := first | omega | (simp; omega)) [World.cell?_setCell_far, World.cell?_alloc_past, *]; done) | (simp (disch := first | omega | (simp; omega)) [World.cell?_alloc_past, *]; rfl) | (simp (disch := first | omega | (simp; omega)) [World.cell?_setCell_far, World.cell?_alloc_past, *]; rfl) | (simp [go_sem, *]; done) | (simp (disch := first | omega | (simp; omega) | (simp [go_sem, *]; done)) [go_sem, World.cell?_setCell_far, World.cell?_alloc_past, *]; done))
            have ey3 : ∀ Y, (ext WWy Y).cell? ⟨w.heap.size + 1, 0, none⟩ = some (.bool true) := by subst hWWy; intro Y; exact (ext_cell _ Y (by first | omega | (simp; done) | (simp; omega))).trans (by first | (simp (disch := first | omega | (simp; omega)) [World.cell?_alloc_past, *]; done) | (simp (disch := first | omega | (simp; omega)) [World.cell?_setCell_far, World.cell?_alloc_past, *]; done) | (simp (disch := first | omega | (simp; omega)) [World.cell?_alloc_past, *]; rfl) | (simp (disch := first | omega | (simp; omega)) [World.cell?_setCell_far, World.cell?_alloc_past, *]; rfl) | (simp [go_sem, *]; done) | (simp (disch := first | omega | (simp; omega) | (simp [go_sem, *]; done)) [go_sem, World.cell?_setCell_far, World.cell?_alloc_past, *]; done))
            have ey4 : ∀ Y, (ext WWy Y).cell? ⟨w.heap.size + 1, 1, none⟩ = some (.int .u64 b.hi) := by subst hWWy; intro Y; exact (ext_cell _ Y (by first | omega | (simp; done) | (simp; omega))).trans (by first | (simp (disch := first | omega | (simp; omega)) [World.cell?_alloc_past, *]; done) | (simp (disch := first | omega | (simp; omega)) [World.cell?_setCell_far, World.cell?_alloc_past, *]; done) | (simp (disch := first | omega | (simp; omega)) [World.cell?_alloc_past, *]; rfl) | (simp (disch := first | omega | (simp; omega)) [World.cell?_setCell_far, World.cell?_alloc_past, *]; rfl) | (simp [go_sem, *]; done) | (simp (disch := first | omega | (simp; omega) | (simp [go_sem, *]; done)) [go_sem, World.cell?_setCell_far, World.cell?_alloc_past, *]; done))
            have ey5 : ∀ Y, (ext WWy Y).cell? ⟨w.heap.size + 1, 2, none⟩ = some (.int .u64 b.lo) := by subst hWWy; intro Y; exact (ext_cell _ Y (by first | omega | (simp; done) | (simp; omega))).trans (by first | (simp (disch := first | omega | (simp; omega)) [World.cell?_alloc_past, *]; done) | (simp (disch := first | omega | (simp; omega)) [World.cell?_setCell_far, World.cell?_alloc_past, *]; done) | (simp (disch := first | omega | (simp; omega)) [World.cell?_alloc_past, *]; rfl) | (simp (disch := first | omega | (simp; omega)) [World.cell?_setCell_far, World.cell?_alloc_past, *]; rfl) | (simp [go_sem, *]; done) | (simp (disch := first | omega | (simp; omega) | (simp [go_sem, *]; done)) [go_sem, World.cell?_setCell_far, World.cell?_alloc_past, *]; done))
            have bWy : Below wr.heap.size wr WWy := by subst hWWy; (repeat (first | assumption | exact Below.refl _ _ | refine Below.setCell ?_ (by first | omega | (simp; done) | (simp; omega)) _ | refine Below.alloc ?_ (by first | omega | (simp; done) | (simp; omega)) _ | refine Below.drew ?_ | (refine Below.trans ?_ (Below.mono (by assumption) (by first | omega | (simp; done) | (simp; omega))))))
            have lWy0 : w.heap.size < WWy.heap.size := by subst hWWy; first | omega | (simp; done) | (simp; omega)
            have lWy1 : w.heap.size + 1 < WWy.heap.size := by subst hWWy; first | omega | (simp; done) | (simp; omega)
            clear hWWy
            refine wp_region_ext (by kernel_rfl) (by kernel_rfl) ?_
            repeat (go_big_quiet_step ((first | (go_at_call 91; with_reducible exact qe (HBk.out _)) | (go_at_call 91; with_reducible exact qe (HCk.out _)))))
            refine wpQuiet_nil ?_
            intro _ hw'
            obtain ⟨y, hw''⟩ := hw'
            subst hw''
            have py0 := ey0 y
            have py1 := ey1 y
            have py2 := ey2 y
            have py3 := ey3 y
            have py4 := ey4 y
            have py5 := ey5 y
            clear ey0 ey1 ey2 ey3 ey4 ey5
            have bwy := bWy.trans ((ext_below WWy y).mono bWy.size)
            have zwy := bwy.size
            have zey := (ext_below WWy y).size
            go_wp2_with fail
            go_roundw
            case rel =>
              refine ⟨k + 1, by go_num, by omega, ?_, hb.trans (bwy.mono zr)⟩
              intro j hj hj2
              rcases Nat.lt_or_ge j k with h | h
              · exact HN.out j h hj2
              · obtain rfl : j = k := by omega
                rw [HX.out, HY.out, HXY.out]
            case measure => simp [intOf]; omega
          · have hq : (((adBit a (k : Int) : Nat) : Int) != ((adBit b (k : Int) : Nat) : Int)) = true := by rw [bne_iff_ne]; omega
            have HXY := Lib.hid hxy; clear hxy
            generalize hx : adBit a (k : Int) = x0 at *
            generalize hy : adBit b (k : Int) = y0 at *
            have HX := Lib.hid hx; have HY := Lib.hid hy; clear hx hy
            go_wp2_with fail
            go_name_world WWy hWWy
            have ey0 : ∀ Y, (ext WWy Y).cell? ⟨w.heap.size, 0, none⟩ = some (.bool true) := by subst hWWy; intro Y; exact (ext_cell _ Y (by first | omega | (simp; done) | (simp; omega))).trans (by first | (simp (disch := first | omega | (simp; omega)) [World.cell?_alloc_past, *]; done) | (simp (disch := first | omega | (simp; omega)) [World.cell?_setCell_far, World.cell?_alloc_past, *]; done) | (simp (disch := first | omega | (simp; omega)) [World.cell?_alloc_past, *]; rfl) | (simp (disch := first | omega | (simp; omega)) [World.cell?_setCell_far, World.cell?_alloc_past, *]; rfl) | (simp [go_sem, *]; done) | (simp (disch := first | omega | (simp; omega) | (simp [go_sem, *]; done)) [go_sem, World.cell?_setCell_far, World.cell?_alloc_past, *]; done))
            have ey1 : ∀ Y, (ext WWy Y).cell? ⟨w.heap.size, 1, none⟩ = some (.int .u64 a.hi) := by subst hWWy; intro Y; exact (ext_cell _ Y (by first | omega | (simp; done) | (simp; omega))).trans (by first | (simp (disch := first | omega | (simp; omega)) [World.cell?_alloc_past, *]; done) | (simp (disch := first | omega | (simp; omega)) [World.cell?_setCell_far, World.cell?_alloc_past, *]; done) | (simp (disch := first | omega | (simp; omega)) [World.cell?_alloc_past, *]; rfl) | (simp (disch := first | omega | (simp; omega)) [World.cell?_setCell_far, World.cell?_alloc_past, *]; rfl) | (simp [go_sem, *]; done) | (simp (disch := first | omega | (simp; omega) | (simp [go_sem, *]; done)) [go_sem, World.cell?_setCell_far, World.cell?_alloc_past, *]; done))
            have ey2 : ∀ Y, (ext WWy Y).cell? ⟨w.heap.size, 2, none⟩ = some (.int .u64 a.lo) := by subst hWWy; intro Y; exact (ext_cell _ Y (by first | omega | (simp; done) | (simp; omega))).trans (by first | (simp (disch := first | omega | (simp; omega)) [World.cell?_alloc_past, *]; done) | (simp (disch := first | omega | (simp; omega)) [World.cell?_setCell_far, World.cell?_alloc_past, *]; done) | (simp (disch := first | omega | (simp; omega)) [World.cell?_alloc_past, *]; rfl) | (simp (disch := first | omega | (simp; omega)) [World.cell?_setCell_far, World.cell?_alloc_past, *]; rfl) | (simp [go_sem, *]; done) | (simp (disch := first | omega | (simp; omega) | (simp [go_sem, *]; done)) [go_sem, World.cell?_setCell_far, World.cell?_alloc_past, *]; done))
            have ey3 : ∀ Y, (ext WWy Y).cell? ⟨w.heap.size + 1, 0, none⟩ = some (.bool true) := by subst hWWy; intro Y; exact (ext_cell _ Y (by first | omega | (simp; done) | (simp; omega))).trans (by first | (simp (disch := first | omega | (simp; omega)) [World.cell?_alloc_past, *]; done) | (simp (disch := first | omega | (simp; omega)) [World.cell?_setCell_far, World.cell?_alloc_past, *]; done) | (simp (disch := first | omega | (simp; omega)) [World.cell?_alloc_past, *]; rfl) | (simp (disch := first | omega | (simp; omega)) [World.cell?_setCell_far, World.cell?_alloc_past, *]; rfl) | (simp [go_sem, *]; done) | (simp (disch := first | omega | (simp; omega) | (simp [go_sem, *]; done)) [go_sem, World.cell?_setCell_far, World.cell?_alloc_past, *]; done))
            have ey4 : ∀ Y, (ext WWy Y).cell? ⟨w.heap.size + 1, 1, none⟩ = some (.int .u64 b.hi) := by subst hWWy; intro Y; exact (ext_cell _ Y (by first | omega | (simp; done) | (simp; omega))).trans (by first | (simp (disch := first | omega | (simp; omega)) [World.cell?_alloc_past, *]; done) | (simp (disch := first | omega | (simp; omega)) [World.cell?_setCell_far, World.cell?_alloc_past, *]; done) | (simp (disch := first | omega | (simp; omega)) [World.cell?_alloc_past, *]; rfl) | (simp (disch := first | omega | (simp; omega)) [World.cell?_setCell_far, World.cell?_alloc_past, *]; rfl) | (simp [go_sem, *]; done) | (simp (disch := first | omega | (simp; omega) | (simp [go_sem, *]; done)) [go_sem, World.cell?_setCell_far, World.cell?_alloc_past, *]; done))
            have ey5 : ∀ Y, (ext WWy Y).cell? ⟨w.heap.size + 1, 2, none⟩ = some (.int .u64 b.lo) := by subst hWWy; intro Y; exact (ext_cell _ Y (by first | omega | (simp; done) | (simp; omega))).trans (by first | (simp (disch := first | omega | (simp; omega)) [World.cell?_alloc_past, *]; done) | (simp (disch := first | omega | (simp; omega)) [World.cell?_setCell_far, World.cell?_alloc_past, *]; done) | (simp (disch := first | omega | (simp; omega)) [World.cell?_alloc_past, *]; rfl) | (simp (disch := first | omega | (simp; omega)) [World.cell?_setCell_far, World.cell?_alloc_past, *]; rfl) | (simp [go_sem, *]; done) | (simp (disch := first | omega | (simp; omega) | (simp [go_sem, *]; done)) [go_sem, World.cell?_setCell_far, World.cell?_alloc_past, *]; done))
            have bWy : Below wr.heap.size wr WWy := by subst hWWy; (repeat (first | assumption | exact Below.refl _ _ | refine Below.setCell ?_ (by first | omega | (simp; done) | (simp; omega)) _ | refine Below.alloc ?_ (by first | omega | (simp; done) | (simp; omega)) _ | refine Below.drew ?_ | (refine Below.trans ?_ (Below.mono (by assumption) (by first | omega | (simp; done) | (simp; omega))))))
            have lWy0 : w.heap.size < WWy.heap.size := by subst hWWy; first | omega | (simp; done) | (simp; omega)
            have lWy1 : w.heap.size + 1 < WWy.heap.size := by subst hWWy; first | omega | (simp; done) | (simp; omega)
            clear hWWy
            refine wp_region_ext (by kernel_rfl) (by kernel_rfl) ?_
            repeat (go_big_quiet_step ((first | (go_at_call 91; with_reducible exact qe (HBk.out _)) | (go_at_call 91; with_reducible exact qe (HCk.out _)))))
            refine wpQuiet_nil ?_
            intro _ hw'
            obtain ⟨y, hw''⟩ := hw'
            subst hw''
            have py0 := ey0 y
            have py1 := ey1 y
            have py2 := ey2 y
            have py3 := ey3 y
            have py4 := ey4 y
            have py5 := ey5 y
            clear ey0 ey1 ey2 ey3 ey4 ey5
            have bwy := bWy.trans ((ext_below WWy y).mono bWy.size)
            have zwy := bwy.size
            have zey := (ext_below WWy y).size
            go_wp2_with fail
            go_ret
            refine ⟨ret_bool ?_, bww.trans (bwy.mono (by omega))⟩
            have hs := HSAME.out
            cases hd : decide (grOf a = grOf b) with
            | false => rfl
            | true =>
              rw [hd, sameK_iff] at hs
              exact absurd (hs k (by omega)) (by rw [HX.out, HY.out]; exact HXY.out)
        · have hdl : decide ((k : Int) < 32) = false := decide_eq_false (by omega)
          have hdl2 : decide (k < 32) = false := decide_eq_false hlt
          go_wp2_with fail
          go_ret
          refine ⟨ret_bool ?_, bww⟩
          rw [← HSAME.out]
          exact ((sameK_iff a b _).2 (fun j hj => HN.out j (by omega) (by omega))).symm
    | false =>
      have hg : grBits a = 16 := by unfold grBits; rw [if_neg (by rw [hv]; simp)]
      rw [hg] at hsame
      have HSAME := Lib.hid hsame; clear hsame hg
      rw [hv] at hRa hBi
      have hvb := hvv.symm.trans hv
      rw [hvb] at hRb hBj ⊢
      have HRa := Lib.hid hRa; have HRb := Lib.hid hRb; have HBi := Lib.hid hBi; have HBj := Lib.hid hBj
      clear hRa hRb hBi hBj hvv
      go_enter Try.func41, Try.ntmps41
      go_wp2_with (first | (go_at_call 37; (with_reducible refine (HRa.out _).mono ?_); rintro e w1 ⟨rfl, b1⟩; obtain ⟨c1, f1⟩ := bcell b1; have z1 := b1.size; (try simp at z1); have d1a := fun o => c1 (w.heap.size) o (by first | omega | (simp; done) | (simp; omega)); have d1b := fun o => c1 (w.heap.size + 1) o (by first | omega | (simp; done) | (simp; omega)); clear c1 f1) | (go_at_call 37; (with_reducible refine (HRb.out _).mono ?_); rintro e w2 ⟨rfl, b2⟩; obtain ⟨c2, f2⟩ := bcell b2; have z2 := b2.size; (try simp at z2); have d2a := fun o => c2 (w.heap.size) o (by first | omega | (simp; done) | (simp; omega)); have d2b := fun o => c2 (w.heap.size + 1) o (by first | omega | (simp; done) | (simp; omega)); clear c2 f2))
      go_name_world WWx hWWx
      have ex0 : WWx.cell? ⟨w.heap.size, 0, none⟩ = some (.bool false) := by subst hWWx; (first | (simp (disch := first | omega | (simp; omega)) [World.cell?_alloc_past, World.frozen?_alloc_past, *]; done) | (simp (disch := first | omega | (simp; omega)) [World.cell?_setCell_far, World.cell?_alloc_past, *]; done) | (simp (disch := first | omega | (simp; omega)) [World.cell?_alloc_past, World.frozen?_alloc_past, *]; rfl) | (simp (disch := first | omega | (simp; omega)) [World.cell?_setCell_far, World.cell?_alloc_past, *]; rfl) | (simp [go_sem, *]; done) | (simp (disch := first | omega | (simp; omega) | (simp [go_sem, *]; done)) [go_sem, World.cell?_setCell_far, World.cell?_alloc_past, World.frozen?_alloc_past, *]; done))
      have ex1 : WWx.cell? ⟨w.heap.size, 1, none⟩ = some (.int .u64 a.hi) := by subst hWWx; (first | (simp (disch := first | omega | (simp; omega)) [World.cell?_alloc_past, World.frozen?_alloc_past, *]; done) | (simp (disch := first | omega | (simp; omega)) [World.cell?_setCell_far, World.cell?_alloc_past, *]; done) | (simp (disch := first | omega | (simp; omega)) [World.cell?_alloc_past, World.frozen?_alloc_past, *]; rfl) | (simp (disch := first | omega | (simp; omega)) [World.cell?_setCell_far, World.cell?_alloc_past, *]; rfl) | (simp [go_sem, *]; done) | (simp (disch := first | omega | (simp; omega) | (simp [go_sem, *]; done)) [go_sem, World.cell?_setCell_far, World.cell?_alloc_past, World.frozen?_alloc_past, *]; done))
      have ex2 : WWx.cell? ⟨w.heap.size, 2, none⟩ = some (.int .u64 a.lo) := by subst hWWx; (first | (simp (disch := first | omega | (simp; omega)) [World.cell?_alloc_past, World.frozen?_alloc_past, *]; done) | (simp (disch := first | omega | (simp; omega)) [World.cell?_setCell_far, World.cell?_alloc_past, *]; done) | (simp (disch := first | omega | (simp; omega)) [World.cell?_alloc_past, World.frozen?_alloc_past, *]; rfl) | (simp (disch := first | omega | (simp; omega)) [World.cell?_setCell_far, World.cell?_alloc_past, *]; rfl) | (simp [go_sem, *]; done) | (simp (disch := first | omega | (simp; omega) | (simp [go_sem, *]; done)) [go_sem, World.cell?_setCell_far, World.cell?_alloc_past, World.frozen?_alloc_past, *]; done))
      have ex3 : WWx.cell? ⟨w.heap.size + 1, 0, none⟩ = some (.bool false) := by subst hWWx; (first | (simp (disch := first | omega | (simp; omega)) [World.cell?_alloc_past, World.frozen?_alloc_past, *]; done) | (simp (disch := first | omega | (simp; omega)) [World.cell?_setCell_far, World.cell?_alloc_past, *]; done) | (simp (disch := first | omega | (simp; omega)) [World.cell?_alloc_past, World.frozen?_alloc_past, *]; rfl) | (simp (disch := first | omega | (simp; omega)) [World.cell?_setCell_far, World.cell?_alloc_past, *]; rfl) | (simp [go_sem, *]; done) | (simp (disch := first | omega | (simp; omega) | (simp [go_sem, *]; done)) [go_sem, World.cell?_setCell_far, World.cell?_alloc_past, World.frozen?_alloc_past, *]; done))
      have ex4 : WWx.cell? ⟨w.heap.size + 1, 1, none⟩ = some (.int .u64 b.hi) := by subst hWWx; (first | (simp (disch := first | omega | (simp; omega)) [World.cell?_alloc_past, World.frozen?_alloc_past, *]; done) | (simp (disch := first | omega | (simp; omega)) [World.cell?_setCell_far, World.cell?_alloc_past, *]; done) | (simp (disch := first | omega | (simp; omega)) [World.cell?_alloc_past, World.frozen?_alloc_past, *]; rfl) | (simp (disch := first | omega | (simp; omega)) [World.cell?_setCell_far, World.cell?_alloc_past, *]; rfl) | (simp [go_sem, *]; done) | (simp (disch := first | omega | (simp; omega) | (simp [go_sem, *]; done)) [go_sem, World.cell?_setCell_far, World.cell?_alloc_past, World.frozen?_alloc_past, *]; done))
      have ex5 : WWx.cell? ⟨w.heap.size + 1, 2, none⟩ = some (.int .u64 b.lo) := by subst hWWx; (first | (simp (disch := first | omega | (simp; omega)) [World.cell?_alloc_past, World.frozen?_alloc_past, *]; done) | (simp (disch := first | omega | (simp; omega)) [World.cell?_setCell_far, World.cell?_alloc_past, *]; done) | (simp (disch := first | omega | (simp; omega)) [World.cell?_alloc_past, World.frozen?_alloc_past, *]; rfl) | (simp (disch := first | omega | (simp; omega)) [World.cell?_setCell_far, World.cell?_alloc_past, *]; rfl) | (simp [go_sem, *]; done) | (simp (disch := first | omega | (simp; omega) | (simp [go_sem, *]; done)) [go_sem, World.cell?_setCell_far, World.cell?_alloc_past, World.frozen?_alloc_past, *]; done))
      have bwx : Below w.heap.size w WWx := by subst hWWx; (repeat (first | assumption | exact Below.refl _ _ | refine Below.setCell ?_ (by first | omega | (simp; done) | (simp; omega)) _ | refine Below.alloc ?_ (by first | omega | (simp; done) | (simp; omega)) _ | refine Below.drew ?_ | (refine Below.trans ?_ (Below.mono (by assumption) (by first | omega | (simp; done) | (simp; omega))))))
      have zwx : _ := bwx.size
      have lWx0 : w.heap.size < WWx.heap.size := by subst hWWx; first | omega | (simp; done) | (simp; omega)
      have lWx1 : w.heap.size + 1 < WWx.heap.size := by subst hWWx; first | omega | (simp; done) | (simp; omega)
      clear hWWx
      try clear b1
      try clear b2
      try clear d1a
      try clear d1b
      try clear d2a
      try clear d2b
      clear z1 z2
      go_loopw [5] (fun i wr => ∃ k : Nat, i = .int .i64 k ∧ k ≤ 32 ∧ Hid (∀ j : Nat, j < k → j < 16 → adBit a (j : Int) = adBit b (j : Int)) ∧ Below WWx.heap.size WWx wr) (fun i _ => 32 - (intOf i).toNat)
      case atStart => exact ⟨0, rfl, by omega, (by intro j hj; omega : ∀ j : Nat, j < 0 → j < 16 → adBit a (j : Int) = adBit b (j : Int)), Below.refl _ _⟩
      case round =>
        obtain ⟨k, rfl, hk, HN, hb⟩ := hrel
        have p0 := keep hb (by omega) ex0
        have p1 := keep hb (by omega) ex1
        have p2 := keep hb (by omega) ex2
        have p3 := keep hb (by omega) ex3
        have p4 := keep hb (by omega) ex4
        have p5 := keep hb (by omega) ex5
        have zr := hb.size
        have bww := bwx.trans (hb.mono zwx)
        have lr : w.heap.size + 1 < wr.heap.size := by omega
        clear ex0 ex1 ex2 ex3 ex4 ex5
        by_cases hlt : k < 32
        · have hdl : decide ((k : Int) < 32) = true := decide_eq_true (by omega)
          have hdl2 : decide (k < 32) = true := decide_eq_true hlt
          have HBk := Lib.hid (fun w => HBi.out k w)
          have HCk := Lib.hid (fun w => HBj.out k w)
          by_cases h16 : k < 16
          · have hd3 : decide ((k : Int) < 16) = true := decide_eq_true (by omega)
            have hd4 : decide (k < 16) = true := decide_eq_true h16
            by_cases hxy : adBit a (k : Int) = adBit b (k : Int)
            · have hq : (((adBit a (k : Int) : Nat) : Int) != ((adBit b (k : Int) : Nat) : Int)) = false := by rw [hxy]; simp
              have HXY := Lib.hid hxy; clear hxy
              generalize hx : adBit a (k : Int) = x0 at *
              generalize hy : adBit b (k : Int) = y0 at *
              have HX := Lib.hid hx; have HY := Lib.hid hy; clear hx hy
              go_wp2_with fail
              go_name_world WWy hWWy
              have ey0 : ∀ Y, (ext WWy Y).cell? ⟨w.heap.size, 0, none⟩ = some (.bool false) := by subst hWWy; intro Y; exact (ext_cell _ Y (by first | omega | (simp; done) | (simp; omega))).trans (by first | (simp (disch := first | omega | (simp; omega)) [World.cell?_alloc_past, *]; done) | (simp (disch := first | omega | (simp; omega)) [World.cell?_setCell_far, World.cell?_alloc_past, *]; done) | (simp (disch := first | omega | (simp; omega)) [World.cell?_alloc_past, *]; rfl) | (simp (disch := first | omega | (simp; omega)) [World.cell?_setCell_far, World.cell?_alloc_past, *]; rfl) | (simp [go_sem, *]; done) | (simp (disch := first | omega | (simp; omega) | (simp [go_sem, *]; done)) [go_sem, World.cell?_setCell_far, World.cell?_alloc_past, *]; done))
              have ey1 : ∀ Y, (ext WWy Y).cell? ⟨w.heap.size, 1, none⟩ = some (.int .u64 a.hi) := by subst hWWy; intro Y; exact (ext_cell _ Y (by first | omega | (simp; done) | (simp; omega))).trans (by first | (simp (disch := first | omega | (simp; omega)) [World.cell?_alloc_past, *]; done) | (simp (disch := first | omega | (simp; omega)) [World.cell?_setCell_far, World.cell?_alloc_past, *]; done) | (simp (disch := first | omega | (simp; omega)) [World.cell?_alloc_past, *]; rfl) | (simp (disch := first | omega | (simp; omega)) [World.cell?_setCell_far, World.cell?_alloc_past, *]; rfl) | (simp [go_sem, *]; done) | (simp (disch := first | omega | (simp; omega) | (simp [go_sem, *]; done)) [go_sem, World.cell?_setCell_far, World.cell?_alloc_past, *]; done))
              have ey2 : ∀ Y, (ext WWy Y).cell? ⟨w.heap.size, 2, none⟩ = some (.int .u64 a.lo) := by subst hWWy; intro Y; exact (ext_cell _ Y (by first | omega | (simp; done) | (simp; omega))).trans (by first | (simp (disch := first | omega | (simp; omega)) [World.cell?_alloc_past, *]; done) | (simp (disch := first | omega | (simp; omega)) [World.cell?_setCell_far, World.cell?_alloc_past, *]; done) | (simp (disch := first | omega | (simp; omega)) [World.cell?_alloc_past, *]; rfl) | (simp (disch := first | omega | (simp; omega)) [World.cell?_setCell_far, World.cell?_alloc_past, *]; rfl) | (simp [go_sem, *]; done) | (simp (disch := first | omega | (simp; omega) | (simp [go_sem, *]; done)) [go_sem, World.cell?_setCell_far, World.cell?_alloc_past, *]; done))
              have ey3 : ∀ Y, (ext WWy Y).cell? ⟨w.heap.size + 1, 0, none⟩ = some (.bool false) := by subst hWWy; intro Y; exact (ext_cell _ Y (by first | omega | (simp; done) | (simp; omega))).trans (by first | (simp (disch := first | omega | (simp; omega)) [World.cell?_alloc_past, *]; done) | (simp (disch := first | omega | (simp; omega)) [World.cell?_setCell_far, World.cell?_alloc_past, *]; done) | (simp (disch := first | omega | (simp; omega)) [World.cell?_alloc_past, *]; rfl) | (simp (disch := first | omega | (simp; omega)) [World.cell?_setCell_far, World.cell?_alloc_past, *]; rfl) | (simp [go_sem, *]; done) | (simp (disch := first | omega | (simp; omega) | (simp [go_sem, *]; done)) [go_sem, World.cell?_setCell_far, World.cell?_alloc_past, *]; done))
              have ey4 : ∀ Y, (ext WWy Y).cell? ⟨w.heap.size + 1, 1, none⟩ = some (.int .u64 b.hi) := by subst hWWy; intro Y; exact (ext_cell _ Y (by first | omega | (simp; done) | (simp; omega))).trans (by first | (simp (disch := first | omega | (simp; omega)) [World.cell?_alloc_past, *]; done) | (simp (disch := first | omega | (simp; omega)) [World.cell?_setCell_far, World.cell?_alloc_past, *]; done) | (simp (disch := first | omega | (simp; omega)) [World.cell?_alloc_past, *]; rfl) | (simp (disch := first | omega | (simp; omega)) [World.cell?_setCell_far, World.cell?_alloc_past, *]; rfl) | (simp [go_sem, *]; done) | (simp (disch := first | omega | (simp; omega) | (simp [go_sem, *]; done)) [go_sem, World.cell?_setCell_far, World.cell?_alloc_past, *]; done))
              have ey5 : ∀ Y, (ext WWy Y).cell? ⟨w.heap.size + 1, 2, none⟩ = some (.int .u64 b.lo) := by subst hWWy; intro Y; exact (ext_cell _ Y (by first | omega | (simp; done) | (simp; omega))).trans (by first | (simp (disch := first | omega | (simp; omega)) [World.cell?_alloc_past, *]; done) | (simp (disch := first | omega | (simp; omega)) [World.cell?_setCell_far, World.cell?_alloc_past, *]; done) | (simp (disch := first | omega | (simp; omega)) [World.cell?_alloc_past, *]; rfl) | (simp (disch := first | omega | (simp; omega)) [World.cell?_setCell_far, World.cell?_alloc_past, *]; rfl) | (simp [go_sem, *]; done) | (simp (disch := first | omega | (simp; omega) | (simp [go_sem, *]; done)) [go_sem, World.cell?_setCell_far, World.cell?_alloc_past, *]; done))
              have bWy : Below wr.heap.size wr WWy := by subst hWWy; (repeat (first | assumption | exact Below.refl _ _ | refine Below.setCell ?_ (by first | omega | (simp; done) | (simp; omega)) _ | refine Below.alloc ?_ (by first | omega | (simp; done) | (simp; omega)) _ | refine Below.drew ?_ | (refine Below.trans ?_ (Below.mono (by assumption) (by first | omega | (simp; done) | (simp; omega))))))
              have lWy0 : w.heap.size < WWy.heap.size := by subst hWWy; first | omega | (simp; done) | (simp; omega)
              have lWy1 : w.heap.size + 1 < WWy.heap.size := by subst hWWy; first | omega | (simp; done) | (simp; omega)
              clear hWWy
              refine wp_region_ext (by kernel_rfl) (by kernel_rfl) ?_
              repeat (go_big_quiet_step ((first | (go_at_call 91; with_reducible exact qe (HBk.out _)) | (go_at_call 91; with_reducible exact qe (HCk.out _)))))
              refine wpQuiet_nil ?_
              intro _ hw'
              obtain ⟨y, hw''⟩ := hw'
              subst hw''
              have py0 := ey0 y
              have py1 := ey1 y
              have py2 := ey2 y
              have py3 := ey3 y
              have py4 := ey4 y
              have py5 := ey5 y
              clear ey0 ey1 ey2 ey3 ey4 ey5
              have bwy := bWy.trans ((ext_below WWy y).mono bWy.size)
              have zwy := bwy.size
              have zey := (ext_below WWy y).size
              go_wp2_with fail
              go_roundw
              case rel =>
                refine ⟨k + 1, by go_num, by omega, ?_, hb.trans (bwy.mono zr)⟩
                intro j hj hj2
                rcases Nat.lt_or_ge j k with h | h
                · exact HN.out j h hj2
                · obtain rfl : j = k := by omega
                  rw [HX.out, HY.out, HXY.out]
              case measure => simp [intOf]; omega
            · have hq : (((adBit a (k : Int) : Nat) : Int) != ((adBit b (k : Int) : Nat) : Int)) = true := by rw [bne_iff_ne]; omega
              have HXY := Lib.hid hxy; clear hxy
              generalize hx : adBit a (k : Int) = x0 at *
              generalize hy : adBit b (k : Int) = y0 at *
              have HX := Lib.hid hx; have HY := Lib.hid hy; clear hx hy
              go_wp2_with fail
              go_name_world WWy hWWy
              have ey0 : ∀ Y, (ext WWy Y).cell? ⟨w.heap.size, 0, none⟩ = some (.bool false) := by subst hWWy; intro Y; exact (ext_cell _ Y (by first | omega | (simp; done) | (simp; omega))).trans (by first | (simp (disch := first | omega | (simp; omega)) [World.cell?_alloc_past, *]; done) | (simp (disch := first | omega | (simp; omega)) [World.cell?_setCell_far, World.cell?_alloc_past, *]; done) | (simp (disch := first | omega | (simp; omega)) [World.cell?_alloc_past, *]; rfl) | (simp (disch := first | omega | (simp; omega)) [World.cell?_setCell_far, World.cell?_alloc_past, *]; rfl) | (simp [go_sem, *]; done) | (simp (disch := first | omega | (simp; omega) | (simp [go_sem, *]; done)) [go_sem, World.cell?_setCell_far, World.cell?_alloc_past, *]; done))
              have ey1 : ∀ Y, (ext WWy Y).cell? ⟨w.heap.size, 1, none⟩ = some (.int .u64 a.hi) := by subst hWWy; intro Y; exact (ext_cell _ Y (by first | omega | (simp; done) | (simp; omega))).trans (by first | (simp (disch := first | omega | (simp; omega)) [World.cell?_alloc_past, *]; done) | (simp (disch := first | omega | (simp; omega)) [World.cell?_setCell_far, World.cell?_alloc_past, *]; done) | (simp (disch := first | omega | (simp; omega)) [World.cell?_alloc_past, *]; rfl) | (simp (disch := first | omega | (simp; omega)) [World.cell?_setCell_far, World.cell?_alloc_past, *]; rfl) | (simp [go_sem, *]; done) | (simp (disch := first | omega | (simp; omega) | (simp [go_sem, *]; done)) [go_sem, World.cell?_setCell_far, World.cell?_alloc_past, *]; done))
              have ey2 : ∀ Y, (ext WWy Y).cell? ⟨w.heap.size, 2, none⟩ = some (.int .u64 a.lo) := by subst hWWy; intro Y; exact (ext_cell _ Y (by first | omega | (simp; done) | (simp; omega))).trans (by first | (simp (disch := first | omega | (simp; omega)) [World.cell?_alloc_past, *]; done) | (simp (disch := first | omega | (simp; omega)) [World.cell?_setCell_far, World.cell?_alloc_past, *]; done) | (simp (disch := first | omega | (simp; omega)) [World.cell?_alloc_past, *]; rfl) | (simp (disch := first | omega | (simp; omega)) [World.cell?_setCell_far, World.cell?_alloc_past, *]; rfl) | (simp [go_sem, *]; done) | (simp (disch := first | omega | (simp; omega) | (simp [go_sem, *]; done)) [go_sem, World.cell?_setCell_far, World.cell?_alloc_past, *]; done))
              have ey3 : ∀ Y, (ext WWy Y).cell? ⟨w.heap.size + 1, 0, none⟩ = some (.bool false) := by subst hWWy; intro Y; exact (ext_cell _ Y (by first | omega | (simp; done) | (simp; omega))).trans (by first | (simp (disch := first | omega | (simp; omega)) [World.cell?_alloc_past, *]; done) | (simp (disch := first | omega | (simp; omega)) [World.cell?_setCell_far, World.cell?_alloc_past, *]; done) | (simp (disch := first | omega | (simp; omega)) [World.cell?_alloc_past, *]; rfl) | (simp (disch := first | omega | (simp; omega)) [World.cell?_setCell_far, World.cell?_alloc_past, *]; rfl) | (simp [go_sem, *]; done) | (simp (disch := first | omega | (simp; omega) | (simp [go_sem, *]; done)) [go_sem, World.cell?_setCell_far, World.cell?_alloc_past, *]; done))
              have ey4 : ∀ Y, (ext WWy Y).cell? ⟨w.heap.size + 1, 1, none⟩ = some (.int .u64 b.hi) := by subst hWWy; intro Y; exact (ext_cell _ Y (by first | omega | (simp; done) | (simp; omega))).trans (by first | (simp (disch := first | omega | (simp; omega)) [World.cell?_alloc_past, *]; done) | (simp (disch := first | omega | (simp; omega)) [World.cell?_setCell_far, World.cell?_alloc_past, *]; done) | (simp (disch := first | omega | (simp; omega)) [World.cell?_alloc_past, *]; rfl) | (simp (disch := first | omega | (simp; omega)) [World.cell?_setCell_far, World.cell?_alloc_past, *]; rfl) | (simp [go_sem, *]; done) | (simp (disch := first | omega | (simp; omega) | (simp [go_sem, *]; done)) [go_sem, World.cell?_setCell_far, World.cell?_alloc_past, *]; done))
              have ey5 : ∀ Y, (ext WWy Y).cell? ⟨w.heap.size + 1, 2, none⟩ = some (.int .u64 b.lo) := by subst hWWy; intro Y; exact (ext_cell _ Y (by first | omega | (simp; done) | (simp; omega))).trans (by first | (simp (disch := first | omega | (simp; omega)) [World.cell?_alloc_past, *]; done) | (simp (disch := first | omega | (simp; omega)) [World.cell?_setCell_far, World.cell?_alloc_past, *]; done) | (simp (disch := first | omega | (simp; omega)) [World.cell?_alloc_past, *]; rfl) | (simp (disch := first | omega | (simp; omega)) [World.cell?_setCell_far, World.cell?_alloc_past, *]; rfl) | (simp [go_sem, *]; done) | (simp (disch := first | omega | (simp; omega) | (simp [go_sem, *]; done)) [go_sem, World.cell?_setCell_far, World.cell?_alloc_past, *]; done))
              have bWy : Below wr.heap.size wr WWy := by subst hWWy; (repeat (first | assumption | exact Below.refl _ _ | refine Below.setCell ?_ (by first | omega | (simp; done) | (simp; omega)) _ | refine Below.alloc ?_ (by first | omega | (simp; done) | (simp; omega)) _ | refine Below.drew ?_ | (refine Below.trans ?_ (Below.mono (by assumption) (by first | omega | (simp; done) | (simp; omega))))))
              have lWy0 : w.heap.size < WWy.heap.size := by subst hWWy; first | omega | (simp; done) | (simp; omega)
              have lWy1 : w.heap.size + 1 < WWy.heap.size := by subst hWWy; first | omega | (simp; done) | (simp; omega)
              clear hWWy
              refine wp_region_ext (by kernel_rfl) (by kernel_rfl) ?_
              repeat (go_big_quiet_step ((first | (go_at_call 91; with_reducible exact qe (HBk.out _)) | (go_at_call 91; with_reducible exact qe (HCk.out _)))))
              refine wpQuiet_nil ?_
              intro _ hw'
              obtain ⟨y, hw''⟩ := hw'
              subst hw''
              have py0 := ey0 y
              have py1 := ey1 y
              have py2 := ey2 y
              have py3 := ey3 y
              have py4 := ey4 y
              have py5 := ey5 y
              clear ey0 ey1 ey2 ey3 ey4 ey5
              have bwy := bWy.trans ((ext_below WWy y).mono bWy.size)
              have zwy := bwy.size
              have zey := (ext_below WWy y).size
              go_wp2_with fail
              go_ret
              refine ⟨ret_bool ?_, bww.trans (bwy.mono (by omega))⟩
              have hs := HSAME.out
              cases hd : decide (grOf a = grOf b) with
              | false => rfl
              | true =>
                rw [hd, sameK_iff] at hs
                exact absurd (hs k (by omega)) (by rw [HX.out, HY.out]; exact HXY.out)
          · have hd3 : decide ((k : Int) < 16) = false := decide_eq_false (by omega)
            have hd4 : decide (k < 16) = false := decide_eq_false h16
            go_wp2_with fail
            go_name_world WWy hWWy
            have ey0 : ∀ Y, (ext WWy Y).cell? ⟨w.heap.size, 0, none⟩ = some (.bool false) := by subst hWWy; intro Y; exact (ext_cell _ Y (by first | omega | (simp; done) | (simp; omega))).trans (by first | (simp (disch := first | omega | (simp; omega)) [World.cell?_alloc_past, *]; done) | (simp (disch := first | omega | (simp; omega)) [World.cell?_setCell_far, World.cell?_alloc_past, *]; done) | (simp (disch := first | omega | (simp; omega)) [World.cell?_alloc_past, *]; rfl) | (simp (disch := first | omega | (simp; omega)) [World.cell?_setCell_far, World.cell?_alloc_past, *]; rfl) | (simp [go_sem, *]; done) | (simp (disch := first | omega | (simp; omega) | (simp [go_sem, *]; done)) [go_sem, World.cell?_setCell_far, World.cell?_alloc_past, *]; done))
            have ey1 : ∀ Y, (ext WWy Y).cell? ⟨w.heap.size, 1, none⟩ = some (.int .u64 a.hi) := by subst hWWy; intro Y; exact (ext_cell _ Y (by first | omega | (simp; done) | (simp; omega))).trans (by first | (simp (disch := first | omega | (simp; omega)) [World.cell?_alloc_past, *]; done) | (simp (disch := first | omega | (simp; omega)) [World.cell?_setCell_far, World.cell?_alloc_past, *]; done) | (simp (disch := first | omega | (simp; omega)) [World.cell?_alloc_past, *]; rfl) | (simp (disch := first | omega | (simp; omega)) [World.cell?_setCell_far, World.cell?_alloc_past, *]; rfl) | (simp [go_sem, *]; done) | (simp (disch := first | omega | (simp; omega) | (simp [go_sem, *]; done)) [go_sem, World.cell?_setCell_far, World.cell?_alloc_past, *]; done))
            have ey2 : ∀ Y, (ext WWy Y).cell? ⟨w.heap.size, 2, none⟩ = some (.int .u64 a.lo) := by subst hWWy; intro Y; exact (ext_cell _ Y (by first | omega | (simp; done) | (simp; omega))).trans (by first | (simp (disch := first | omega | (simp; omega)) [World.cell?_alloc_past, *]; done) | (simp (disch := first | omega | (simp; omega)) [World.cell?_setCell_far, World.cell?_alloc_past, *]; done) | (simp (disch := first | omega | (simp; omega)) [World.cell?_alloc_past, *]; rfl) | (simp (disch := first | omega | (simp; omega)) [World.cell?_setCell_far, World.cell?_alloc_past, *]; rfl) | (simp [go_sem, *]; done) | (simp (disch := first | omega | (simp; omega) | (simp [go_sem, *]; done)) [go_sem, World.cell?_setCell_far, World.cell?_alloc_past, *]; done))
            have ey3 : ∀ Y, (ext WWy Y).cell? ⟨w.heap.size + 1, 0, none⟩ = some (.bool false) := by subst hWWy; intro Y; exact (ext_cell _ Y (by first | omega | (simp; done) | (simp; omega))).trans (by first | (simp (disch := first | omega | (simp; omega)) [World.cell?_alloc_past, *]; done) | (simp (disch := first | omega | (simp; omega)) [World.cell?_setCell_far, World.cell?_alloc_past, *]; done) | (simp (disch := first | omega | (simp; omega)) [World.cell?_alloc_past, *]; rfl) | (simp (disch := first | omega | (simp; omega)) [World.cell?_setCell_far, World.cell?_alloc_past, *]; rfl) | (simp [go_sem, *]; done) | (simp (disch := first | omega | (simp; omega) | (simp [go_sem, *]; done)) [go_sem, World.cell?_setCell_far, World.cell?_alloc_past, *]; done))
            have ey4 : ∀ Y, (ext WWy Y).cell? ⟨w.heap.size + 1, 1, none⟩ = some (.int .u64 b.hi) := by subst hWWy; intro Y; exact (ext_cell _ Y (by first | omega | (simp; done) | (simp; omega))).trans (by first | (simp (disch := first | omega | (simp; omega)) [World.cell?_alloc_past, *]; done) | (simp (disch := first | omega | (simp; omega)) [World.cell?_setCell_far, World.cell?_alloc_past, *]; done) | (simp (disch := first | omega | (simp; omega)) [World.cell?_alloc_past, *]; rfl) | (simp (disch := first | omega | (simp; omega)) [World.cell?_setCell_far, World.cell?_alloc_past, *]; rfl) | (simp [go_sem, *]; done) | (simp (disch := first | omega | (simp; omega) | (simp [go_sem, *]; done)) [go_sem, World.cell?_setCell_far, World.cell?_alloc_past, *]; done))
            have ey5 : ∀ Y, (ext WWy Y).cell? ⟨w.heap.size + 1, 2, none⟩ = some (.int .u64 b.lo) := by subst hWWy; intro Y; exact (ext_cell _ Y (by first | omega | (simp; done) | (simp; omega))).trans (by first | (simp (disch := first | omega | (simp; omega)) [World.cell?_alloc_past, *]; done) | (simp (disch := first | omega | (simp; omega)) [World.cell?_setCell_far, World.cell?_alloc_past, *]; done) | (simp (disch := first | omega | (simp; omega)) [World.cell?_alloc_past, *]; rfl) | (simp (disch := first | omega | (simp; omega)) [World.cell?_setCell_far, World.cell?_alloc_past, *]; rfl) | (simp [go_sem, *]; done) | (simp (disch := first | omega | (simp; omega) | (simp [go_sem, *]; done)) [go_sem, World.cell?_setCell_far, World.cell?_alloc_past, *]; done))
            have bWy : Below wr.heap.size wr WWy := by subst hWWy; (repeat (first | assumption | exact Below.refl _ _ | refine Below.setCell ?_ (by first | omega | (simp; done) | (simp; omega)) _ | refine Below.alloc ?_ (by first | omega | (simp; done) | (simp; omega)) _ | refine Below.drew ?_ | (refine Below.trans ?_ (Below.mono (by assumption) (by first | omega | (simp; done) | (simp; omega))))))
            have lWy0 : w.heap.size < WWy.heap.size := by subst hWWy; first | omega | (simp; done) | (simp; omega)
            have lWy1 : w.heap.size + 1 < WWy.heap.size := by subst hWWy; first | omega | (simp; done) | (simp; omega)
            clear hWWy
            refine wp_region_ext (by kernel_rfl) (by kernel_rfl) ?_
            repeat (go_big_quiet_step ((first | (go_at_call 91; with_reducible exact qe (HBk.out _)) | (go_at_call 91; with_reducible exact qe (HCk.out _)))))
            refine wpQuiet_nil ?_
            intro _ hw'
            obtain ⟨y, hw''⟩ := hw'
            subst hw''
            have py0 := ey0 y
            have py1 := ey1 y
            have py2 := ey2 y
            have py3 := ey3 y
            have py4 := ey4 y
            have py5 := ey5 y
            clear ey0 ey1 ey2 ey3 ey4 ey5
            have bwy := bWy.trans ((ext_below WWy y).mono bWy.size)
            have zwy := bwy.size
            have zey := (ext_below WWy y).size
            go_wp2_with fail
            go_roundw
            case rel =>
              refine ⟨k + 1, by go_num, by omega, ?_, hb.trans (bwy.mono zr)⟩
              intro j hj hj2
              exact HN.out j (by omega) hj2
            case measure => simp [intOf]; omega
        · have hdl : decide ((k : Int) < 32) = false := decide_eq_false (by omega)
          have hdl2 : decide (k < 32) = false := decide_eq_false hlt
          go_wp2_with fail
          go_ret
          refine ⟨ret_bool ?_, bww⟩
          rw [← HSAME.out]
          exact ((sameK_iff a b _).2 (fun j hj => HN.out j (by omega) (by omega))).symm
  · have hz : decide (grOf a = grOf b) = false := decide_eq_false (fun h => hvv (by rw [← h6a ha, ← h6b hb, h]))
    rw [hz]
    have hq : (a.v6 != b.v6) = true := by rw [bne_iff_ne]; exact hvv
    have hq2 : (a.v6 == b.v6) = false := by rw [beq_eq_false_iff_ne]; exact hvv
    have HRa := Lib.hid hRa; have HRb := Lib.hid hRb; clear hRa hRb hBi hBj hsame h6a h6b hz
    go_enter Try.func41, Try.ntmps41
    go_wp2_with (first | (go_at_call 37; (with_reducible refine (HRa.out _).mono ?_); rintro e w1 ⟨rfl, b1⟩; obtain ⟨c1, f1⟩ := bcell b1; have z1 := b1.size; (try simp at z1); have d1a := fun o => c1 (w.heap.size) o (by first | omega | (simp; done) | (simp; omega)); have d1b := fun o => c1 (w.heap.size + 1) o (by first | omega | (simp; done) | (simp; omega)); clear c1 f1) | (go_at_call 37; (with_reducible refine (HRb.out _).mono ?_); rintro e w2 ⟨rfl, b2⟩; obtain ⟨c2, f2⟩ := bcell b2; have z2 := b2.size; (try simp at z2); have d2a := fun o => c2 (w.heap.size) o (by first | omega | (simp; done) | (simp; omega)); have d2b := fun o => c2 (w.heap.size + 1) o (by first | omega | (simp; done) | (simp; omega)); clear c2 f2))
    go_ret
    refine ⟨rfl, ?_⟩
    (repeat (first | assumption | exact Below.refl _ _ | refine Below.setCell ?_ (by first | omega | (simp; done) | (simp; omega)) _ | refine Below.alloc ?_ (by first | omega | (simp; done) | (simp; omega)) _ | refine Below.drew ?_ | (refine Below.trans ?_ (Below.mono (by assumption) (by first | omega | (simp; done) | (simp; omega))))))
end Go.Proofs.Ytecegljipjofmaa
