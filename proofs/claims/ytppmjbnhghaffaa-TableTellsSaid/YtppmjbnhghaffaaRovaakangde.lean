/- Texts put together: Has. No condition. -/
import Derived.Test.YtppmjbnhghaffaaRqvsekrkbfl
namespace Go.Proofs.Ytppmjbnhghaffaa
open Go.RowKit
set_option linter.unusedSimpArgs false
set_option linter.unusedVariables false

set_option maxRecDepth 100000 in
set_option maxHeartbeats 4000000 in
theorem refNtHas_any (n : Nt) (a : Ad) (fn : n.ad.fits) (fa : a.fits) (w : World) : Calls Try.prog 115 #[.agg #[.bool n.ad.v6, .int .u64 n.ad.hi, .int .u64 n.ad.lo, .int .i64 n.bits], .agg #[.bool a.v6, .int .u64 a.hi, .int .u64 a.lo]] w fun e w' => e = .returned (.bool (ntHas n a)) ∧ Below w.heap.size w w' := by
  have hN := fun w => refNtRight_any n fn w
  have hR := fun w => refAdRight_any a fa w
  have hBn := fun i w => refAdBit_any n.ad fn i w
  have hBa := fun i w => refAdBit_any a fa i w
  unfold ntHas
  cases hn : ntRight n with
  | false =>
    rw [hn] at hN
    have HN := Lib.hid hN; have HR := Lib.hid hR; clear hN hR hBn hBa
    go_enter Try.func115, Try.ntmps115
    go_wp2_with (first | (go_at_call 149; (with_reducible refine (HN.out _).mono ?_); rintro e w1 ⟨rfl, b1⟩; obtain ⟨c1, f1⟩ := bcell b1; have z1 := b1.size; (try simp at z1); have l1a : w.heap.size < w1.heap.size := (by omega); have n1a := Nat.ne_of_lt l1a; have d1a := fun o => c1 (w.heap.size) o (by first | omega | (simp; done) | (simp; omega)); have l1b : w.heap.size + 1 < w1.heap.size := (by omega); have n1b := Nat.ne_of_lt l1b; have d1b := fun o => c1 (w.heap.size + 1) o (by first | omega | (simp; done) | (simp; omega)); clear c1 f1) | (go_at_call 140; (with_reducible refine (HR.out _).mono ?_); rintro e w2 ⟨rfl, b2⟩; obtain ⟨c2, f2⟩ := bcell b2; have z2 := b2.size; (try simp at z2); have l2a : w.heap.size < w2.heap.size := (by omega); have n2a := Nat.ne_of_lt l2a; have d2a := fun o => c2 (w.heap.size) o (by first | omega | (simp; done) | (simp; omega)); have l2b : w.heap.size + 1 < w2.heap.size := (by omega); have n2b := Nat.ne_of_lt l2b; have d2b := fun o => c2 (w.heap.size + 1) o (by first | omega | (simp; done) | (simp; omega)); clear c2 f2))
    go_ret
    refine ⟨rfl, ?_⟩
    (repeat (first | with_reducible assumption | with_reducible exact Below.refl _ _ | with_reducible refine Below.setCell ?_ (by first | omega | (simp; done) | (simp; omega)) _ | with_reducible refine Below.alloc ?_ (by first | omega | (simp; done) | (simp; omega)) _ | with_reducible refine Below.drew ?_ | (with_reducible refine Below.trans ?_ (Below.mono (by with_reducible assumption) (by first | omega | (simp; done) | (simp; omega)))) | (refine Below.trans ?_ (Below.mono (by assumption) (by first | omega | (simp; done) | (simp; omega))))))
  | true =>
    rw [hn] at hN
    cases ha : adRight a with
    | false =>
      rw [ha] at hR
      have HN := Lib.hid hN; have HR := Lib.hid hR; clear hN hR hBn hBa
      go_enter Try.func115, Try.ntmps115
      go_wp2_with (first | (go_at_call 149; (with_reducible refine (HN.out _).mono ?_); rintro e w1 ⟨rfl, b1⟩; obtain ⟨c1, f1⟩ := bcell b1; have z1 := b1.size; (try simp at z1); have l1a : w.heap.size < w1.heap.size := (by omega); have n1a := Nat.ne_of_lt l1a; have d1a := fun o => c1 (w.heap.size) o (by first | omega | (simp; done) | (simp; omega)); have l1b : w.heap.size + 1 < w1.heap.size := (by omega); have n1b := Nat.ne_of_lt l1b; have d1b := fun o => c1 (w.heap.size + 1) o (by first | omega | (simp; done) | (simp; omega)); clear c1 f1) | (go_at_call 140; (with_reducible refine (HR.out _).mono ?_); rintro e w2 ⟨rfl, b2⟩; obtain ⟨c2, f2⟩ := bcell b2; have z2 := b2.size; (try simp at z2); have l2a : w.heap.size < w2.heap.size := (by omega); have n2a := Nat.ne_of_lt l2a; have d2a := fun o => c2 (w.heap.size) o (by first | omega | (simp; done) | (simp; omega)); have l2b : w.heap.size + 1 < w2.heap.size := (by omega); have n2b := Nat.ne_of_lt l2b; have d2b := fun o => c2 (w.heap.size + 1) o (by first | omega | (simp; done) | (simp; omega)); clear c2 f2))
      go_ret
      refine ⟨rfl, ?_⟩
      (repeat (first | with_reducible assumption | with_reducible exact Below.refl _ _ | with_reducible refine Below.setCell ?_ (by first | omega | (simp; done) | (simp; omega)) _ | with_reducible refine Below.alloc ?_ (by first | omega | (simp; done) | (simp; omega)) _ | with_reducible refine Below.drew ?_ | (with_reducible refine Below.trans ?_ (Below.mono (by with_reducible assumption) (by first | omega | (simp; done) | (simp; omega)))) | (refine Below.trans ?_ (Below.mono (by assumption) (by first | omega | (simp; done) | (simp; omega))))))
    | true =>
      rw [ha] at hR
      have HN := Lib.hid hN; have HR := Lib.hid hR; have HBn := Lib.hid hBn; have HBa := Lib.hid hBa; clear hN hR hBn hBa
      obtain ⟨r1, r2, r3, r4⟩ := (ntRight_iff n).1 hn
      by_cases hv : n.ad.v6 = a.v6
      · have hsame := sameK_mask n.ad a n.bits fn fa r1 ha hv r2 r3 r4
        have hq : (n.ad.v6 == a.v6) = true := by rw [beq_iff_eq]; exact hv
        have hq2 : (n.ad.v6 != a.v6) = false := by rw [bne_eq_false_iff_eq]; exact hv
        rw [decide_eq_true hv]
        have HSAME := Lib.hid hsame
        clear hsame hv r4 r1
        obtain ⟨m, hm⟩ : ∃ m : Nat, n.bits = m := ⟨n.bits.toNat, by omega⟩
        have hmn : n.bits.toNat = m := by omega
        have hnn := adBits_nn n.ad
        have hm9 : m ≤ 128 := by omega
        clear hnn
        rw [hmn] at HSAME
        generalize decide (adMask a n.bits = n.ad) = res at *
        have HM := Lib.hid hm; clear hmn hm
        go_enter Try.func115, Try.ntmps115
        go_wp2_with (first | (go_at_call 149; (with_reducible refine (HN.out _).mono ?_); rintro e w1 ⟨rfl, b1⟩; obtain ⟨c1, f1⟩ := bcell b1; have z1 := b1.size; (try simp at z1); have l1a : w.heap.size < w1.heap.size := (by omega); have n1a := Nat.ne_of_lt l1a; have d1a := fun o => c1 (w.heap.size) o (by first | omega | (simp; done) | (simp; omega)); have l1b : w.heap.size + 1 < w1.heap.size := (by omega); have n1b := Nat.ne_of_lt l1b; have d1b := fun o => c1 (w.heap.size + 1) o (by first | omega | (simp; done) | (simp; omega)); clear c1 f1) | (go_at_call 140; (with_reducible refine (HR.out _).mono ?_); rintro e w2 ⟨rfl, b2⟩; obtain ⟨c2, f2⟩ := bcell b2; have z2 := b2.size; (try simp at z2); have l2a : w.heap.size < w2.heap.size := (by omega); have n2a := Nat.ne_of_lt l2a; have d2a := fun o => c2 (w.heap.size) o (by first | omega | (simp; done) | (simp; omega)); have l2b : w.heap.size + 1 < w2.heap.size := (by omega); have n2b := Nat.ne_of_lt l2b; have d2b := fun o => c2 (w.heap.size + 1) o (by first | omega | (simp; done) | (simp; omega)); clear c2 f2))
        go_name_world WWx hWWx
        have ex0 : WWx.cell? ⟨w.heap.size, 0, none⟩ = some (.bool n.ad.v6) := by subst hWWx; (first | (simp (disch := first | omega | (simp; omega)) [World.cell?_alloc_past, World.frozen?_alloc_past, *]; done) | (simp (disch := first | omega | (simp; omega)) [World.cell?_setCell_far, World.cell?_alloc_past, *]; done) | (simp (disch := first | omega | (simp; omega)) [World.cell?_alloc_past, World.frozen?_alloc_past, *]; rfl) | (simp (disch := first | omega | (simp; omega)) [World.cell?_setCell_far, World.cell?_alloc_past, *]; rfl) | (simp [go_sem, *]; done) | (simp (disch := first | omega | (simp; omega) | (simp [go_sem, *]; done)) [go_sem, World.cell?_setCell_far, World.cell?_alloc_past, World.frozen?_alloc_past, *]; done))
        have ex1 : WWx.cell? ⟨w.heap.size, 1, none⟩ = some (.int .u64 n.ad.hi) := by subst hWWx; (first | (simp (disch := first | omega | (simp; omega)) [World.cell?_alloc_past, World.frozen?_alloc_past, *]; done) | (simp (disch := first | omega | (simp; omega)) [World.cell?_setCell_far, World.cell?_alloc_past, *]; done) | (simp (disch := first | omega | (simp; omega)) [World.cell?_alloc_past, World.frozen?_alloc_past, *]; rfl) | (simp (disch := first | omega | (simp; omega)) [World.cell?_setCell_far, World.cell?_alloc_past, *]; rfl) | (simp [go_sem, *]; done) | (simp (disch := first | omega | (simp; omega) | (simp [go_sem, *]; done)) [go_sem, World.cell?_setCell_far, World.cell?_alloc_past, World.frozen?_alloc_past, *]; done))
        have ex2 : WWx.cell? ⟨w.heap.size, 2, none⟩ = some (.int .u64 n.ad.lo) := by subst hWWx; (first | (simp (disch := first | omega | (simp; omega)) [World.cell?_alloc_past, World.frozen?_alloc_past, *]; done) | (simp (disch := first | omega | (simp; omega)) [World.cell?_setCell_far, World.cell?_alloc_past, *]; done) | (simp (disch := first | omega | (simp; omega)) [World.cell?_alloc_past, World.frozen?_alloc_past, *]; rfl) | (simp (disch := first | omega | (simp; omega)) [World.cell?_setCell_far, World.cell?_alloc_past, *]; rfl) | (simp [go_sem, *]; done) | (simp (disch := first | omega | (simp; omega) | (simp [go_sem, *]; done)) [go_sem, World.cell?_setCell_far, World.cell?_alloc_past, World.frozen?_alloc_past, *]; done))
        have ex3 : WWx.cell? ⟨w.heap.size, 3, none⟩ = some (.int .i64 n.bits) := by subst hWWx; (first | (simp (disch := first | omega | (simp; omega)) [World.cell?_alloc_past, World.frozen?_alloc_past, *]; done) | (simp (disch := first | omega | (simp; omega)) [World.cell?_setCell_far, World.cell?_alloc_past, *]; done) | (simp (disch := first | omega | (simp; omega)) [World.cell?_alloc_past, World.frozen?_alloc_past, *]; rfl) | (simp (disch := first | omega | (simp; omega)) [World.cell?_setCell_far, World.cell?_alloc_past, *]; rfl) | (simp [go_sem, *]; done) | (simp (disch := first | omega | (simp; omega) | (simp [go_sem, *]; done)) [go_sem, World.cell?_setCell_far, World.cell?_alloc_past, World.frozen?_alloc_past, *]; done))
        have ex4 : WWx.cell? ⟨w.heap.size + 1, 0, none⟩ = some (.bool a.v6) := by subst hWWx; (first | (simp (disch := first | omega | (simp; omega)) [World.cell?_alloc_past, World.frozen?_alloc_past, *]; done) | (simp (disch := first | omega | (simp; omega)) [World.cell?_setCell_far, World.cell?_alloc_past, *]; done) | (simp (disch := first | omega | (simp; omega)) [World.cell?_alloc_past, World.frozen?_alloc_past, *]; rfl) | (simp (disch := first | omega | (simp; omega)) [World.cell?_setCell_far, World.cell?_alloc_past, *]; rfl) | (simp [go_sem, *]; done) | (simp (disch := first | omega | (simp; omega) | (simp [go_sem, *]; done)) [go_sem, World.cell?_setCell_far, World.cell?_alloc_past, World.frozen?_alloc_past, *]; done))
        have ex5 : WWx.cell? ⟨w.heap.size + 1, 1, none⟩ = some (.int .u64 a.hi) := by subst hWWx; (first | (simp (disch := first | omega | (simp; omega)) [World.cell?_alloc_past, World.frozen?_alloc_past, *]; done) | (simp (disch := first | omega | (simp; omega)) [World.cell?_setCell_far, World.cell?_alloc_past, *]; done) | (simp (disch := first | omega | (simp; omega)) [World.cell?_alloc_past, World.frozen?_alloc_past, *]; rfl) | (simp (disch := first | omega | (simp; omega)) [World.cell?_setCell_far, World.cell?_alloc_past, *]; rfl) | (simp [go_sem, *]; done) | (simp (disch := first | omega | (simp; omega) | (simp [go_sem, *]; done)) [go_sem, World.cell?_setCell_far, World.cell?_alloc_past, World.frozen?_alloc_past, *]; done))
        have ex6 : WWx.cell? ⟨w.heap.size + 1, 2, none⟩ = some (.int .u64 a.lo) := by subst hWWx; (first | (simp (disch := first | omega | (simp; omega)) [World.cell?_alloc_past, World.frozen?_alloc_past, *]; done) | (simp (disch := first | omega | (simp; omega)) [World.cell?_setCell_far, World.cell?_alloc_past, *]; done) | (simp (disch := first | omega | (simp; omega)) [World.cell?_alloc_past, World.frozen?_alloc_past, *]; rfl) | (simp (disch := first | omega | (simp; omega)) [World.cell?_setCell_far, World.cell?_alloc_past, *]; rfl) | (simp [go_sem, *]; done) | (simp (disch := first | omega | (simp; omega) | (simp [go_sem, *]; done)) [go_sem, World.cell?_setCell_far, World.cell?_alloc_past, World.frozen?_alloc_past, *]; done))
        have bwx : Below w.heap.size w WWx := by subst hWWx; (repeat (first | assumption | exact Below.refl _ _ | refine Below.setCell ?_ (by first | omega | (simp; done) | (simp; omega)) _ | refine Below.alloc ?_ (by first | omega | (simp; done) | (simp; omega)) _ | refine Below.drew ?_ | (refine Below.trans ?_ (Below.mono (by assumption) (by first | omega | (simp; done) | (simp; omega))))))
        have zwx : _ := bwx.size
        have lWx0 : w.heap.size < WWx.heap.size := by subst hWWx; first | omega | (simp; done) | (simp; omega)
        have lWx1 : w.heap.size + 1 < WWx.heap.size := by subst hWWx; first | omega | (simp; done) | (simp; omega)
        clear hWWx
        try clear b1
        try clear b2
        try clear d1a
        try clear d1b
        try clear d2a
        try clear d2b
        clear z1 z2
        rw [HM.out] at ex3
        go_loopw [5] (fun i wr => ∃ k : Nat, i = .int .i64 k ∧ k ≤ m ∧ Hid (∀ j : Nat, j < k → adBit n.ad (j : Int) = adBit a (j : Int)) ∧ Below WWx.heap.size WWx wr) (fun i _ => m - (intOf i).toNat)
        case atStart => exact ⟨0, rfl, by omega, (by intro j hj; omega : ∀ j : Nat, j < 0 → adBit n.ad (j : Int) = adBit a (j : Int)), Below.refl _ _⟩
        case round =>
          obtain ⟨k, rfl, hk, HS, hb⟩ := hrel
          have p0 := keep hb (by omega) ex0
          have p1 := keep hb (by omega) ex1
          have p2 := keep hb (by omega) ex2
          have p3 := keep hb (by omega) ex3
          have p4 := keep hb (by omega) ex4
          have p5 := keep hb (by omega) ex5
          have p6 := keep hb (by omega) ex6
          have zr := hb.size
          have bww := bwx.trans (hb.mono zwx)
          have lr : w.heap.size + 1 < wr.heap.size := by omega
          clear ex0 ex1 ex2 ex3 ex4 ex5 ex6
          by_cases hlt : k < m
          · have hdl : decide ((k : Int) < m) = true := decide_eq_true (by omega)
            have HBk := Lib.hid (fun w => HBn.out k w)
            have HCk := Lib.hid (fun w => HBa.out k w)
            have hki : (k : Int) < m := by omega
            by_cases hxy : adBit n.ad (k : Int) = adBit a (k : Int)
            · have hq : (((adBit n.ad (k : Int) : Nat) : Int) != ((adBit a (k : Int) : Nat) : Int)) = false := by rw [hxy]; simp
              have HXY := Lib.hid hxy; clear hxy
              generalize hx : adBit n.ad (k : Int) = x0 at *
              generalize hy : adBit a (k : Int) = y0 at *
              have HX := Lib.hid hx; have HY := Lib.hid hy; clear hx hy
              go_wp2_with fail
              go_name_world WWy hWWy
              have ey0 : ∀ Y, (ext WWy Y).cell? ⟨w.heap.size, 0, none⟩ = some (.bool n.ad.v6) := by subst hWWy; intro Y; exact (ext_cell _ Y (by first | omega | (simp; done) | (simp; omega))).trans (by first | (simp (disch := first | omega | (simp; omega)) [World.cell?_alloc_past, *]; done) | (simp (disch := first | omega | (simp; omega)) [World.cell?_setCell_far, World.cell?_alloc_past, *]; done) | (simp (disch := first | omega | (simp; omega)) [World.cell?_alloc_past, *]; rfl) | (simp (disch := first | omega | (simp; omega)) [World.cell?_setCell_far, World.cell?_alloc_past, *]; rfl) | (simp [go_sem, *]; done) | (simp (disch := first | omega | (simp; omega) | (simp [go_sem, *]; done)) [go_sem, World.cell?_setCell_far, World.cell?_alloc_past, *]; done))
              have ey1 : ∀ Y, (ext WWy Y).cell? ⟨w.heap.size, 1, none⟩ = some (.int .u64 n.ad.hi) := by subst hWWy; intro Y; exact (ext_cell _ Y (by first | omega | (simp; done) | (simp; omega))).trans (by first | (simp (disch := first | omega | (simp; omega)) [World.cell?_alloc_past, *]; done) | (simp (disch := first | omega | (simp; omega)) [World.cell?_setCell_far, World.cell?_alloc_past, *]; done) | (simp (disch := first | omega | (simp; omega)) [World.cell?_alloc_past, *]; rfl) | (simp (disch := first | omega | (simp; omega)) [World.cell?_setCell_far, World.cell?_alloc_past, *]; rfl) | (simp [go_sem, *]; done) | (simp (disch := first | omega | (simp; omega) | (simp [go_sem, *]; done)) [go_sem, World.cell?_setCell_far, World.cell?_alloc_past, *]; done))
              have ey2 : ∀ Y, (ext WWy Y).cell? ⟨w.heap.size, 2, none⟩ = some (.int .u64 n.ad.lo) := by subst hWWy; intro Y; exact (ext_cell _ Y (by first | omega | (simp; done) | (simp; omega))).trans (by first | (simp (disch := first | omega | (simp; omega)) [World.cell?_alloc_past, *]; done) | (simp (disch := first | omega | (simp; omega)) [World.cell?_setCell_far, World.cell?_alloc_past, *]; done) | (simp (disch := first | omega | (simp; omega)) [World.cell?_alloc_past, *]; rfl) | (simp (disch := first | omega | (simp; omega)) [World.cell?_setCell_far, World.cell?_alloc_past, *]; rfl) | (simp [go_sem, *]; done) | (simp (disch := first | omega | (simp; omega) | (simp [go_sem, *]; done)) [go_sem, World.cell?_setCell_far, World.cell?_alloc_past, *]; done))
              have ey3 : ∀ Y, (ext WWy Y).cell? ⟨w.heap.size, 3, none⟩ = some (.int .i64 m) := by subst hWWy; intro Y; exact (ext_cell _ Y (by first | omega | (simp; done) | (simp; omega))).trans (by first | (simp (disch := first | omega | (simp; omega)) [World.cell?_alloc_past, *]; done) | (simp (disch := first | omega | (simp; omega)) [World.cell?_setCell_far, World.cell?_alloc_past, *]; done) | (simp (disch := first | omega | (simp; omega)) [World.cell?_alloc_past, *]; rfl) | (simp (disch := first | omega | (simp; omega)) [World.cell?_setCell_far, World.cell?_alloc_past, *]; rfl) | (simp [go_sem, *]; done) | (simp (disch := first | omega | (simp; omega) | (simp [go_sem, *]; done)) [go_sem, World.cell?_setCell_far, World.cell?_alloc_past, *]; done))
              have ey4 : ∀ Y, (ext WWy Y).cell? ⟨w.heap.size + 1, 0, none⟩ = some (.bool a.v6) := by subst hWWy; intro Y; exact (ext_cell _ Y (by first | omega | (simp; done) | (simp; omega))).trans (by first | (simp (disch := first | omega | (simp; omega)) [World.cell?_alloc_past, *]; done) | (simp (disch := first | omega | (simp; omega)) [World.cell?_setCell_far, World.cell?_alloc_past, *]; done) | (simp (disch := first | omega | (simp; omega)) [World.cell?_alloc_past, *]; rfl) | (simp (disch := first | omega | (simp; omega)) [World.cell?_setCell_far, World.cell?_alloc_past, *]; rfl) | (simp [go_sem, *]; done) | (simp (disch := first | omega | (simp; omega) | (simp [go_sem, *]; done)) [go_sem, World.cell?_setCell_far, World.cell?_alloc_past, *]; done))
              have ey5 : ∀ Y, (ext WWy Y).cell? ⟨w.heap.size + 1, 1, none⟩ = some (.int .u64 a.hi) := by subst hWWy; intro Y; exact (ext_cell _ Y (by first | omega | (simp; done) | (simp; omega))).trans (by first | (simp (disch := first | omega | (simp; omega)) [World.cell?_alloc_past, *]; done) | (simp (disch := first | omega | (simp; omega)) [World.cell?_setCell_far, World.cell?_alloc_past, *]; done) | (simp (disch := first | omega | (simp; omega)) [World.cell?_alloc_past, *]; rfl) | (simp (disch := first | omega | (simp; omega)) [World.cell?_setCell_far, World.cell?_alloc_past, *]; rfl) | (simp [go_sem, *]; done) | (simp (disch := first | omega | (simp; omega) | (simp [go_sem, *]; done)) [go_sem, World.cell?_setCell_far, World.cell?_alloc_past, *]; done))
              have ey6 : ∀ Y, (ext WWy Y).cell? ⟨w.heap.size + 1, 2, none⟩ = some (.int .u64 a.lo) := by subst hWWy; intro Y; exact (ext_cell _ Y (by first | omega | (simp; done) | (simp; omega))).trans (by first | (simp (disch := first | omega | (simp; omega)) [World.cell?_alloc_past, *]; done) | (simp (disch := first | omega | (simp; omega)) [World.cell?_setCell_far, World.cell?_alloc_past, *]; done) | (simp (disch := first | omega | (simp; omega)) [World.cell?_alloc_past, *]; rfl) | (simp (disch := first | omega | (simp; omega)) [World.cell?_setCell_far, World.cell?_alloc_past, *]; rfl) | (simp [go_sem, *]; done) | (simp (disch := first | omega | (simp; omega) | (simp [go_sem, *]; done)) [go_sem, World.cell?_setCell_far, World.cell?_alloc_past, *]; done))
              have bWy : Below wr.heap.size wr WWy := by subst hWWy; (repeat (first | assumption | exact Below.refl _ _ | refine Below.setCell ?_ (by first | omega | (simp; done) | (simp; omega)) _ | refine Below.alloc ?_ (by first | omega | (simp; done) | (simp; omega)) _ | refine Below.drew ?_ | (refine Below.trans ?_ (Below.mono (by assumption) (by first | omega | (simp; done) | (simp; omega))))))
              have lWy0 : w.heap.size < WWy.heap.size := by subst hWWy; first | omega | (simp; done) | (simp; omega)
              have lWy1 : w.heap.size + 1 < WWy.heap.size := by subst hWWy; first | omega | (simp; done) | (simp; omega)
              clear hWWy
              try simp only [List.append_eq, List.cons_append, List.nil_append]
              refine wp_region_ext (by kernel_rfl) (by kernel_rfl) ?_
              repeat (go_big_quiet_step ((first | (go_at_call 150; with_reducible exact qe (HBk.out _)) | (go_at_call 150; with_reducible exact qe (HCk.out _)))))
              refine wpQuiet_nil ?_
              intro _ hw'
              obtain ⟨y, hw''⟩ := hw'
              subst hw''
              have py0 := ey0 y
              have py1 := ey1 y
              have py2 := ey2 y
              have py3 := ey3 y
              have py4 := ey4 y
              have py5 := ey5 y
              have py6 := ey6 y
              clear ey0 ey1 ey2 ey3 ey4 ey5 ey6
              have bwy := bWy.trans ((ext_below WWy y).mono bWy.size)
              have zwy := bwy.size
              have zey := (ext_below WWy y).size
              go_wp2_with fail
              go_roundw
              case rel =>
                refine ⟨k + 1, by go_num, by omega, ?_, hb.trans (bwy.mono zr)⟩
                intro j hj
                rcases Nat.lt_or_ge j k with h | h
                · exact HS.out j h
                · obtain rfl : j = k := by omega
                  rw [HX.out, HY.out, HXY.out]
              case measure => simp [intOf]; omega
            · have hq : (((adBit n.ad (k : Int) : Nat) : Int) != ((adBit a (k : Int) : Nat) : Int)) = true := by rw [bne_iff_ne]; omega
              have HXY := Lib.hid hxy; clear hxy
              generalize hx : adBit n.ad (k : Int) = x0 at *
              generalize hy : adBit a (k : Int) = y0 at *
              have HX := Lib.hid hx; have HY := Lib.hid hy; clear hx hy
              go_wp2_with fail
              go_name_world WWy hWWy
              have ey0 : ∀ Y, (ext WWy Y).cell? ⟨w.heap.size, 0, none⟩ = some (.bool n.ad.v6) := by subst hWWy; intro Y; exact (ext_cell _ Y (by first | omega | (simp; done) | (simp; omega))).trans (by first | (simp (disch := first | omega | (simp; omega)) [World.cell?_alloc_past, *]; done) | (simp (disch := first | omega | (simp; omega)) [World.cell?_setCell_far, World.cell?_alloc_past, *]; done) | (simp (disch := first | omega | (simp; omega)) [World.cell?_alloc_past, *]; rfl) | (simp (disch := first | omega | (simp; omega)) [World.cell?_setCell_far, World.cell?_alloc_past, *]; rfl) | (simp [go_sem, *]; done) | (simp (disch := first | omega | (simp; omega) | (simp [go_sem, *]; done)) [go_sem, World.cell?_setCell_far, World.cell?_alloc_past, *]; done))
              have ey1 : ∀ Y, (ext WWy Y).cell? ⟨w.heap.size, 1, none⟩ = some (.int .u64 n.ad.hi) := by subst hWWy; intro Y; exact (ext_cell _ Y (by first | omega | (simp; done) | (simp; omega))).trans (by first | (simp (disch := first | omega | (simp; omega)) [World.cell?_alloc_past, *]; done) | (simp (disch := first | omega | (simp; omega)) [World.cell?_setCell_far, World.cell?_alloc_past, *]; done) | (simp (disch := first | omega | (simp; omega)) [World.cell?_alloc_past, *]; rfl) | (simp (disch := first | omega | (simp; omega)) [World.cell?_setCell_far, World.cell?_alloc_past, *]; rfl) | (simp [go_sem, *]; done) | (simp (disch := first | omega | (simp; omega) | (simp [go_sem, *]; done)) [go_sem, World.cell?_setCell_far, World.cell?_alloc_past, *]; done))
              have ey2 : ∀ Y, (ext WWy Y).cell? ⟨w.heap.size, 2, none⟩ = some (.int .u64 n.ad.lo) := by subst hWWy; intro Y; exact (ext_cell _ Y (by first | omega | (simp; done) | (simp; omega))).trans (by first | (simp (disch := first | omega | (simp; omega)) [World.cell?_alloc_past, *]; done) | (simp (disch := first | omega | (simp; omega)) [World.cell?_setCell_far, World.cell?_alloc_past, *]; done) | (simp (disch := first | omega | (simp; omega)) [World.cell?_alloc_past, *]; rfl) | (simp (disch := first | omega | (simp; omega)) [World.cell?_setCell_far, World.cell?_alloc_past, *]; rfl) | (simp [go_sem, *]; done) | (simp (disch := first | omega | (simp; omega) | (simp [go_sem, *]; done)) [go_sem, World.cell?_setCell_far, World.cell?_alloc_past, *]; done))
              have ey3 : ∀ Y, (ext WWy Y).cell? ⟨w.heap.size, 3, none⟩ = some (.int .i64 m) := by subst hWWy; intro Y; exact (ext_cell _ Y (by first | omega | (simp; done) | (simp; omega))).trans (by first | (simp (disch := first | omega | (simp; omega)) [World.cell?_alloc_past, *]; done) | (simp (disch := first | omega | (simp; omega)) [World.cell?_setCell_far, World.cell?_alloc_past, *]; done) | (simp (disch := first | omega | (simp; omega)) [World.cell?_alloc_past, *]; rfl) | (simp (disch := first | omega | (simp; omega)) [World.cell?_setCell_far, World.cell?_alloc_past, *]; rfl) | (simp [go_sem, *]; done) | (simp (disch := first | omega | (simp; omega) | (simp [go_sem, *]; done)) [go_sem, World.cell?_setCell_far, World.cell?_alloc_past, *]; done))
              have ey4 : ∀ Y, (ext WWy Y).cell? ⟨w.heap.size + 1, 0, none⟩ = some (.bool a.v6) := by subst hWWy; intro Y; exact (ext_cell _ Y (by first | omega | (simp; done) | (simp; omega))).trans (by first | (simp (disch := first | omega | (simp; omega)) [World.cell?_alloc_past, *]; done) | (simp (disch := first | omega | (simp; omega)) [World.cell?_setCell_far, World.cell?_alloc_past, *]; done) | (simp (disch := first | omega | (simp; omega)) [World.cell?_alloc_past, *]; rfl) | (simp (disch := first | omega | (simp; omega)) [World.cell?_setCell_far, World.cell?_alloc_past, *]; rfl) | (simp [go_sem, *]; done) | (simp (disch := first | omega | (simp; omega) | (simp [go_sem, *]; done)) [go_sem, World.cell?_setCell_far, World.cell?_alloc_past, *]; done))
              have ey5 : ∀ Y, (ext WWy Y).cell? ⟨w.heap.size + 1, 1, none⟩ = some (.int .u64 a.hi) := by subst hWWy; intro Y; exact (ext_cell _ Y (by first | omega | (simp; done) | (simp; omega))).trans (by first | (simp (disch := first | omega | (simp; omega)) [World.cell?_alloc_past, *]; done) | (simp (disch := first | omega | (simp; omega)) [World.cell?_setCell_far, World.cell?_alloc_past, *]; done) | (simp (disch := first | omega | (simp; omega)) [World.cell?_alloc_past, *]; rfl) | (simp (disch := first | omega | (simp; omega)) [World.cell?_setCell_far, World.cell?_alloc_past, *]; rfl) | (simp [go_sem, *]; done) | (simp (disch := first | omega | (simp; omega) | (simp [go_sem, *]; done)) [go_sem, World.cell?_setCell_far, World.cell?_alloc_past, *]; done))
              have ey6 : ∀ Y, (ext WWy Y).cell? ⟨w.heap.size + 1, 2, none⟩ = some (.int .u64 a.lo) := by subst hWWy; intro Y; exact (ext_cell _ Y (by first | omega | (simp; done) | (simp; omega))).trans (by first | (simp (disch := first | omega | (simp; omega)) [World.cell?_alloc_past, *]; done) | (simp (disch := first | omega | (simp; omega)) [World.cell?_setCell_far, World.cell?_alloc_past, *]; done) | (simp (disch := first | omega | (simp; omega)) [World.cell?_alloc_past, *]; rfl) | (simp (disch := first | omega | (simp; omega)) [World.cell?_setCell_far, World.cell?_alloc_past, *]; rfl) | (simp [go_sem, *]; done) | (simp (disch := first | omega | (simp; omega) | (simp [go_sem, *]; done)) [go_sem, World.cell?_setCell_far, World.cell?_alloc_past, *]; done))
              have bWy : Below wr.heap.size wr WWy := by subst hWWy; (repeat (first | assumption | exact Below.refl _ _ | refine Below.setCell ?_ (by first | omega | (simp; done) | (simp; omega)) _ | refine Below.alloc ?_ (by first | omega | (simp; done) | (simp; omega)) _ | refine Below.drew ?_ | (refine Below.trans ?_ (Below.mono (by assumption) (by first | omega | (simp; done) | (simp; omega))))))
              have lWy0 : w.heap.size < WWy.heap.size := by subst hWWy; first | omega | (simp; done) | (simp; omega)
              have lWy1 : w.heap.size + 1 < WWy.heap.size := by subst hWWy; first | omega | (simp; done) | (simp; omega)
              clear hWWy
              try simp only [List.append_eq, List.cons_append, List.nil_append]
              refine wp_region_ext (by kernel_rfl) (by kernel_rfl) ?_
              repeat (go_big_quiet_step ((first | (go_at_call 150; with_reducible exact qe (HBk.out _)) | (go_at_call 150; with_reducible exact qe (HCk.out _)))))
              refine wpQuiet_nil ?_
              intro _ hw'
              obtain ⟨y, hw''⟩ := hw'
              subst hw''
              have py0 := ey0 y
              have py1 := ey1 y
              have py2 := ey2 y
              have py3 := ey3 y
              have py4 := ey4 y
              have py5 := ey5 y
              have py6 := ey6 y
              clear ey0 ey1 ey2 ey3 ey4 ey5 ey6
              have bwy := bWy.trans ((ext_below WWy y).mono bWy.size)
              have zwy := bwy.size
              have zey := (ext_below WWy y).size
              go_wp2_with fail
              go_ret
              refine ⟨ret_bool ?_, bww.trans (bwy.mono (by omega))⟩
              have hs := HSAME.out
              cases res with
              | false => rfl
              | true =>
                rw [sameK_iff] at hs
                exact absurd (hs k (by omega)) (by rw [HX.out, HY.out]; exact HXY.out)
          · obtain rfl : k = m := by omega
            go_wp2_with fail
            go_ret
            refine ⟨ret_bool ?_, bww⟩
            rw [← HSAME.out]
            exact ((sameK_iff _ _ _).2 HS.out).symm
      · have hq : (n.ad.v6 == a.v6) = false := by rw [beq_eq_false_iff_ne]; exact hv
        have hq2 : (n.ad.v6 != a.v6) = true := by rw [bne_iff_ne]; exact hv
        rw [decide_eq_false hv]
        clear hv r4 r1
        go_enter Try.func115, Try.ntmps115
        go_wp2_with (first | (go_at_call 149; (with_reducible refine (HN.out _).mono ?_); rintro e w1 ⟨rfl, b1⟩; obtain ⟨c1, f1⟩ := bcell b1; have z1 := b1.size; (try simp at z1); have l1a : w.heap.size < w1.heap.size := (by omega); have n1a := Nat.ne_of_lt l1a; have d1a := fun o => c1 (w.heap.size) o (by first | omega | (simp; done) | (simp; omega)); have l1b : w.heap.size + 1 < w1.heap.size := (by omega); have n1b := Nat.ne_of_lt l1b; have d1b := fun o => c1 (w.heap.size + 1) o (by first | omega | (simp; done) | (simp; omega)); clear c1 f1) | (go_at_call 140; (with_reducible refine (HR.out _).mono ?_); rintro e w2 ⟨rfl, b2⟩; obtain ⟨c2, f2⟩ := bcell b2; have z2 := b2.size; (try simp at z2); have l2a : w.heap.size < w2.heap.size := (by omega); have n2a := Nat.ne_of_lt l2a; have d2a := fun o => c2 (w.heap.size) o (by first | omega | (simp; done) | (simp; omega)); have l2b : w.heap.size + 1 < w2.heap.size := (by omega); have n2b := Nat.ne_of_lt l2b; have d2b := fun o => c2 (w.heap.size + 1) o (by first | omega | (simp; done) | (simp; omega)); clear c2 f2))
        go_ret
        refine ⟨rfl, ?_⟩
        (repeat (first | with_reducible assumption | with_reducible exact Below.refl _ _ | with_reducible refine Below.setCell ?_ (by first | omega | (simp; done) | (simp; omega)) _ | with_reducible refine Below.alloc ?_ (by first | omega | (simp; done) | (simp; omega)) _ | with_reducible refine Below.drew ?_ | (with_reducible refine Below.trans ?_ (Below.mono (by with_reducible assumption) (by first | omega | (simp; done) | (simp; omega)))) | (refine Below.trans ?_ (Below.mono (by assumption) (by first | omega | (simp; done) | (simp; omega))))))
end Go.Proofs.Ytppmjbnhghaffaa
