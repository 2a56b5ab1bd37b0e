/- Texts put together: End. No condition. -/
import Derived.Test.YtnohkfbapibmdaaGreatRddevppyjxn
import Derived.Test.YtnohkfbapibmdaaGreatRjgcfepyuoq
namespace Go.Proofs.YtnohkfbapibmdaaGreat
open Go.RowKit
set_option linter.unusedSimpArgs false
set_option linter.unusedVariables false

set_option maxRecDepth 100000 in
set_option maxHeartbeats 4000000 in
theorem enRight_any (e : En) (hf : e.ad.fits) (w : World) : Calls Tryz.prog 51 #[.agg #[.bool e.ad.v6, .int .u64 e.ad.hi, .int .u64 e.ad.lo, .int .i64 e.port]] w fun r w' => r = .returned (.bool (enRight e)) ∧ Below w.heap.size w w' := by
  have hR := fun w => adRight_any e.ad hf w
  unfold enRight
  cases hr : adRight e.ad with
  | false =>
    rw [hr] at hR
    have HR := Lib.hid hR; clear hR
    go_enter Tryz.func51, Tryz.ntmps51
    go_wp2_with (go_at_call 53; (with_reducible refine (HR.out _).mono ?_); rintro e w1 ⟨rfl, b1⟩; obtain ⟨c1, f1⟩ := bcell b1; have z1 := b1.size; (try simp at z1); have d1a := fun o => c1 (w.heap.size) o (by first | omega | (simp; done) | (simp; omega)); clear c1 f1)
    go_ret
    refine ⟨rfl, ?_⟩
    (repeat (first | assumption | exact Below.refl _ _ | refine Below.setCell ?_ (by first | omega | (simp; done) | (simp; omega)) _ | refine Below.alloc ?_ (by first | omega | (simp; done) | (simp; omega)) _ | refine Below.drew ?_ | (refine Below.trans ?_ (Below.mono (by assumption) (by first | omega | (simp; done) | (simp; omega))))))
  | true =>
    rw [hr] at hR
    have HR := Lib.hid hR; clear hR hr
    rcases Int.lt_or_le e.port 1 with h1 | h1
    · have d1 : decide (1 ≤ e.port) = false := decide_eq_false (by omega)
      rw [d1]
      go_enter Tryz.func51, Tryz.ntmps51
      go_wp2_with (go_at_call 53; (with_reducible refine (HR.out _).mono ?_); rintro e w1 ⟨rfl, b1⟩; obtain ⟨c1, f1⟩ := bcell b1; have z1 := b1.size; (try simp at z1); have d1a := fun o => c1 (w.heap.size) o (by first | omega | (simp; done) | (simp; omega)); clear c1 f1)
      go_ret
      refine ⟨rfl, ?_⟩
      (repeat (first | assumption | exact Below.refl _ _ | refine Below.setCell ?_ (by first | omega | (simp; done) | (simp; omega)) _ | refine Below.alloc ?_ (by first | omega | (simp; done) | (simp; omega)) _ | refine Below.drew ?_ | (refine Below.trans ?_ (Below.mono (by assumption) (by first | omega | (simp; done) | (simp; omega))))))
    have d1 : decide (1 ≤ e.port) = true := decide_eq_true h1
    rw [d1]
    rcases Int.lt_or_le 65535 e.port with h2 | h2
    · have d2 : decide (e.port ≤ 65535) = false := decide_eq_false (by omega)
      rw [d2]
      go_enter Tryz.func51, Tryz.ntmps51
      go_wp2_with (go_at_call 53; (with_reducible refine (HR.out _).mono ?_); rintro e w1 ⟨rfl, b1⟩; obtain ⟨c1, f1⟩ := bcell b1; have z1 := b1.size; (try simp at z1); have d1a := fun o => c1 (w.heap.size) o (by first | omega | (simp; done) | (simp; omega)); clear c1 f1)
      go_ret
      refine ⟨rfl, ?_⟩
      (repeat (first | assumption | exact Below.refl _ _ | refine Below.setCell ?_ (by first | omega | (simp; done) | (simp; omega)) _ | refine Below.alloc ?_ (by first | omega | (simp; done) | (simp; omega)) _ | refine Below.drew ?_ | (refine Below.trans ?_ (Below.mono (by assumption) (by first | omega | (simp; done) | (simp; omega))))))
    · have d2 : decide (e.port ≤ 65535) = true := decide_eq_true h2
      rw [d2]
      go_enter Tryz.func51, Tryz.ntmps51
      go_wp2_with (go_at_call 53; (with_reducible refine (HR.out _).mono ?_); rintro e w1 ⟨rfl, b1⟩; obtain ⟨c1, f1⟩ := bcell b1; have z1 := b1.size; (try simp at z1); have d1a := fun o => c1 (w.heap.size) o (by first | omega | (simp; done) | (simp; omega)); clear c1 f1)
      go_ret
      refine ⟨rfl, ?_⟩
      (repeat (first | assumption | exact Below.refl _ _ | refine Below.setCell ?_ (by first | omega | (simp; done) | (simp; omega)) _ | refine Below.alloc ?_ (by first | omega | (simp; done) | (simp; omega)) _ | refine Below.drew ?_ | (refine Below.trans ?_ (Below.mono (by assumption) (by first | omega | (simp; done) | (simp; omega))))))
set_option maxRecDepth 100000 in
set_option maxHeartbeats 4000000 in
theorem refEnRight_any (e : En) (hf : e.ad.fits) (w : World) : Calls Tryz.prog 26 #[.agg #[.bool e.ad.v6, .int .u64 e.ad.hi, .int .u64 e.ad.lo, .int .i64 e.port]] w fun r w' => r = .returned (.bool (enRight e)) ∧ Below w.heap.size w w' := by
  have hR := fun w => refAdRight_any e.ad hf w
  unfold enRight
  cases hr : adRight e.ad with
  | false =>
    rw [hr] at hR
    have HR := Lib.hid hR; clear hR
    go_enter Tryz.func26, Tryz.ntmps26
    go_wp2_with (go_at_call 28; (with_reducible refine (HR.out _).mono ?_); rintro e w1 ⟨rfl, b1⟩; obtain ⟨c1, f1⟩ := bcell b1; have z1 := b1.size; (try simp at z1); have d1a := fun o => c1 (w.heap.size) o (by first | omega | (simp; done) | (simp; omega)); clear c1 f1)
    go_ret
    refine ⟨rfl, ?_⟩
    (repeat (first | assumption | exact Below.refl _ _ | refine Below.setCell ?_ (by first | omega | (simp; done) | (simp; omega)) _ | refine Below.alloc ?_ (by first | omega | (simp; done) | (simp; omega)) _ | refine Below.drew ?_ | (refine Below.trans ?_ (Below.mono (by assumption) (by first | omega | (simp; done) | (simp; omega))))))
  | true =>
    rw [hr] at hR
    have HR := Lib.hid hR; clear hR hr
    rcases Int.lt_or_le 0 e.port with h1 | h1
    · have d1 : decide (1 ≤ e.port) = true := decide_eq_true (by omega)
      have d3 : decide (0 < e.port) = true := decide_eq_true h1
      rw [d1]
      rcases Int.lt_or_le e.port 65536 with h2 | h2
      · have d2 : decide (e.port ≤ 65535) = true := decide_eq_true (by omega)
        have d4 : decide (e.port < 65536) = true := decide_eq_true h2
        rw [d2]
        go_enter Tryz.func26, Tryz.ntmps26
        go_wp2_with (go_at_call 28; (with_reducible refine (HR.out _).mono ?_); rintro e w1 ⟨rfl, b1⟩; obtain ⟨c1, f1⟩ := bcell b1; have z1 := b1.size; (try simp at z1); have d1a := fun o => c1 (w.heap.size) o (by first | omega | (simp; done) | (simp; omega)); clear c1 f1)
        go_ret
        refine ⟨rfl, ?_⟩
        (repeat (first | assumption | exact Below.refl _ _ | refine Below.setCell ?_ (by first | omega | (simp; done) | (simp; omega)) _ | refine Below.alloc ?_ (by first | omega | (simp; done) | (simp; omega)) _ | refine Below.drew ?_ | (refine Below.trans ?_ (Below.mono (by assumption) (by first | omega | (simp; done) | (simp; omega))))))
      · have d2 : decide (e.port ≤ 65535) = false := decide_eq_false (by omega)
        have d4 : decide (e.port < 65536) = false := decide_eq_false (by omega)
        rw [d2]
        go_enter Tryz.func26, Tryz.ntmps26
        go_wp2_with (go_at_call 28; (with_reducible refine (HR.out _).mono ?_); rintro e w1 ⟨rfl, b1⟩; obtain ⟨c1, f1⟩ := bcell b1; have z1 := b1.size; (try simp at z1); have d1a := fun o => c1 (w.heap.size) o (by first | omega | (simp; done) | (simp; omega)); clear c1 f1)
        go_ret
        refine ⟨rfl, ?_⟩
        (repeat (first | assumption | exact Below.refl _ _ | refine Below.setCell ?_ (by first | omega | (simp; done) | (simp; omega)) _ | refine Below.alloc ?_ (by first | omega | (simp; done) | (simp; omega)) _ | refine Below.drew ?_ | (refine Below.trans ?_ (Below.mono (by assumption) (by first | omega | (simp; done) | (simp; omega))))))
    · have d1 : decide (1 ≤ e.port) = false := decide_eq_false (by omega)
      have d3 : decide (0 < e.port) = false := decide_eq_false (by omega)
      rw [d1]
      go_enter Tryz.func26, Tryz.ntmps26
      go_wp2_with (go_at_call 28; (with_reducible refine (HR.out _).mono ?_); rintro e w1 ⟨rfl, b1⟩; obtain ⟨c1, f1⟩ := bcell b1; have z1 := b1.size; (try simp at z1); have d1a := fun o => c1 (w.heap.size) o (by first | omega | (simp; done) | (simp; omega)); clear c1 f1)
      go_ret
      refine ⟨rfl, ?_⟩
      (repeat (first | assumption | exact Below.refl _ _ | refine Below.setCell ?_ (by first | omega | (simp; done) | (simp; omega)) _ | refine Below.alloc ?_ (by first | omega | (simp; done) | (simp; omega)) _ | refine Below.drew ?_ | (refine Below.trans ?_ (Below.mono (by assumption) (by first | omega | (simp; done) | (simp; omega))))))
theorem enText_bad (e : En) (h : enRight e = false) : enText e = [45] := by unfold enText; rw [if_neg (by rw [h]; simp)]
set_option maxRecDepth 100000 in
set_option maxHeartbeats 4000000 in
theorem enText_any (e : En) (hf : e.ad.fits) (w : World) : Calls Tryz.prog 57 #[.agg #[.bool e.ad.v6, .int .u64 e.ad.hi, .int .u64 e.ad.lo, .int .i64 e.port]] w fun r w' => r = .returned (.string (bs (enText e))) ∧ Below w.heap.size w w' := by
  have hR := fun w => enRight_any e hf w
  cases hr : enRight e with
  | false =>
    rw [enText_bad e hr]
    rw [hr] at hR
    have HR := Lib.hid hR; clear hR
    go_enter Tryz.func57, Tryz.ntmps57
    go_wp2_with (go_at_call 51; (with_reducible refine (HR.out _).mono ?_); rintro e w1 ⟨rfl, b1⟩; obtain ⟨c1, f1⟩ := bcell b1; have z1 := b1.size; (try simp at z1); have d1a := fun o => c1 (w.heap.size) o (by first | omega | (simp; done) | (simp; omega)); clear c1 f1)
    go_ret
    refine ⟨rfl, ?_⟩
    (repeat (first | assumption | exact Below.refl _ _ | refine Below.setCell ?_ (by first | omega | (simp; done) | (simp; omega)) _ | refine Below.alloc ?_ (by first | omega | (simp; done) | (simp; omega)) _ | refine Below.drew ?_ | (refine Below.trans ?_ (Below.mono (by assumption) (by first | omega | (simp; done) | (simp; omega))))))
  | true =>
    rw [hr] at hR
    obtain ⟨r1, r2, r3⟩ := (enRight_iff e).1 hr
    have hT := fun w => adText_any e.ad hf w
    have hD := fun w => decText_any e.port (by omega) (by omega) w
    have htl := adText_len e.ad hf
    have hdl := decText_len e.port (by omega) (by omega)
    have hte : enText e = (if e.ad.v6 = true then 91 :: (adText e.ad ++ [93]) else adText e.ad) ++ 58 :: decText e.port := by unfold enText; rw [if_pos hr]
    generalize enText e = te at *
    generalize adText e.ad = t at *
    generalize decText e.port = d at *
    rw [← bs_size] at htl hdl
    cases hv : e.ad.v6 with
    | true =>
      have hres : bs [91] ++ bs t ++ bs [93] ++ bs [58] ++ bs d = bs te := by rw [hte, if_pos hv]; simp only [bs_append]; simp
      have s1 : ¬ 9223372036854775807 < (bs [91]).size + (bs t).size := by rw [bs_size [91]]; simp only [List.length_cons, List.length_nil]; omega
      have s2 : ¬ 9223372036854775807 < (bs [91] ++ bs t).size + (bs [93]).size := by simp only [ByteArray.size_append, bs_size [91], bs_size [93], List.length_cons, List.length_nil]; omega
      have s3 : ¬ 9223372036854775807 < (bs [91] ++ bs t ++ bs [93]).size + (bs [58]).size := by simp only [ByteArray.size_append, bs_size [91], bs_size [93], bs_size [58], List.length_cons, List.length_nil]; omega
      have s4 : ¬ 9223372036854775807 < (bs [91] ++ bs t ++ bs [93] ++ bs [58]).size + (bs d).size := by simp only [ByteArray.size_append, bs_size [91], bs_size [93], bs_size [58], List.length_cons, List.length_nil]; omega
      rw [hv] at hR hT
      have HR := Lib.hid hR; have HT := Lib.hid hT; have HD := Lib.hid hD; have HRES := Lib.hid hres
      clear hR hT hD hr hres hte
      go_enter Tryz.func57, Tryz.ntmps57
      go_wp2_with (first | (go_at_call 51; (with_reducible refine (HR.out _).mono ?_); rintro e w1 ⟨rfl, b1⟩; obtain ⟨c1, f1⟩ := bcell b1; have z1 := b1.size; (try simp at z1); have d1a := fun o => c1 (w.heap.size) o (by first | omega | (simp; done) | (simp; omega)); clear c1 f1) | (go_at_call 60; (with_reducible refine (HT.out _).mono ?_); rintro e w2 ⟨rfl, b2⟩; obtain ⟨c2, f2⟩ := bcell b2; have z2 := b2.size; (try simp at z2); have d2a := fun o => c2 (w.heap.size) o (by first | omega | (simp; done) | (simp; omega)); clear c2 f2) | (go_at_call 61; (with_reducible refine (HD.out _).mono ?_); rintro e w3 ⟨rfl, b3⟩; obtain ⟨c3, f3⟩ := bcell b3; have z3 := b3.size; (try simp at z3); clear c3 f3))
      go_ret
      refine ⟨ret_str HRES.out, ?_⟩
      (repeat (first | assumption | exact Below.refl _ _ | refine Below.setCell ?_ (by first | omega | (simp; done) | (simp; omega)) _ | refine Below.alloc ?_ (by first | omega | (simp; done) | (simp; omega)) _ | refine Below.drew ?_ | (refine Below.trans ?_ (Below.mono (by assumption) (by first | omega | (simp; done) | (simp; omega))))))
    | false =>
      have hres : bs t ++ bs [58] ++ bs d = bs te := by rw [hte, if_neg (by rw [hv]; simp)]; simp only [bs_append]; simp
      have s1 : ¬ 9223372036854775807 < (bs t).size + (bs [58]).size := by rw [bs_size [58]]; simp only [List.length_cons, List.length_nil]; omega
      have s2 : ¬ 9223372036854775807 < (bs t ++ bs [58]).size + (bs d).size := by simp only [ByteArray.size_append, bs_size [58], List.length_cons, List.length_nil]; omega
      rw [hv] at hR hT
      have HR := Lib.hid hR; have HT := Lib.hid hT; have HD := Lib.hid hD; have HRES := Lib.hid hres
      clear hR hT hD hr hres hte
      go_enter Tryz.func57, Tryz.ntmps57
      go_wp2_with (first | (go_at_call 51; (with_reducible refine (HR.out _).mono ?_); rintro e w1 ⟨rfl, b1⟩; obtain ⟨c1, f1⟩ := bcell b1; have z1 := b1.size; (try simp at z1); have d1a := fun o => c1 (w.heap.size) o (by first | omega | (simp; done) | (simp; omega)); clear c1 f1) | (go_at_call 60; (with_reducible refine (HT.out _).mono ?_); rintro e w2 ⟨rfl, b2⟩; obtain ⟨c2, f2⟩ := bcell b2; have z2 := b2.size; (try simp at z2); have d2a := fun o => c2 (w.heap.size) o (by first | omega | (simp; done) | (simp; omega)); clear c2 f2) | (go_at_call 61; (with_reducible refine (HD.out _).mono ?_); rintro e w3 ⟨rfl, b3⟩; obtain ⟨c3, f3⟩ := bcell b3; have z3 := b3.size; (try simp at z3); clear c3 f3))
      go_ret
      refine ⟨ret_str HRES.out, ?_⟩
      (repeat (first | assumption | exact Below.refl _ _ | refine Below.setCell ?_ (by first | omega | (simp; done) | (simp; omega)) _ | refine Below.alloc ?_ (by first | omega | (simp; done) | (simp; omega)) _ | refine Below.drew ?_ | (refine Below.trans ?_ (Below.mono (by assumption) (by first | omega | (simp; done) | (simp; omega))))))
set_option maxRecDepth 100000 in
set_option maxHeartbeats 4000000 in
theorem refEnText_any (e : En) (hf : e.ad.fits) (w : World) : Calls Tryz.prog 32 #[.agg #[.bool e.ad.v6, .int .u64 e.ad.hi, .int .u64 e.ad.lo, .int .i64 e.port]] w fun r w' => r = .returned (.string (bs (enText e))) ∧ Below w.heap.size w w' := by
  have hR := fun w => refEnRight_any e hf w
  cases hr : enRight e with
  | false =>
    rw [enText_bad e hr]
    rw [hr] at hR
    have HR := Lib.hid hR; clear hR
    go_enter Tryz.func32, Tryz.ntmps32
    go_wp2_with (go_at_call 26; (with_reducible refine (HR.out _).mono ?_); rintro e w1 ⟨rfl, b1⟩; obtain ⟨c1, f1⟩ := bcell b1; have z1 := b1.size; (try simp at z1); have d1a := fun o => c1 (w.heap.size) o (by first | omega | (simp; done) | (simp; omega)); clear c1 f1)
    go_ret
    refine ⟨rfl, ?_⟩
    (repeat (first | assumption | exact Below.refl _ _ | refine Below.setCell ?_ (by first | omega | (simp; done) | (simp; omega)) _ | refine Below.alloc ?_ (by first | omega | (simp; done) | (simp; omega)) _ | refine Below.drew ?_ | (refine Below.trans ?_ (Below.mono (by assumption) (by first | omega | (simp; done) | (simp; omega))))))
  | true =>
    rw [hr] at hR
    obtain ⟨r1, r2, r3⟩ := (enRight_iff e).1 hr
    have hT := fun w => refAdText_any e.ad hf w
    have hD := fun w => refText_any e.port (by omega) (by omega) w
    have htl := adText_len e.ad hf
    have hdl := decText_len e.port (by omega) (by omega)
    have hte : enText e = (if e.ad.v6 = true then 91 :: (adText e.ad ++ [93]) else adText e.ad) ++ 58 :: decText e.port := by unfold enText; rw [if_pos hr]
    generalize enText e = te at *
    generalize adText e.ad = t at *
    generalize decText e.port = d at *
    rw [← bs_size] at htl hdl
    cases hv : e.ad.v6 with
    | true =>
      have hres : bs [91] ++ bs t ++ bs [93, 58] ++ bs d = bs te := by rw [hte, if_pos hv]; simp only [bs_append]; simp
      have s1 : ¬ 9223372036854775807 < (bs [91]).size + (bs t).size := by rw [bs_size [91]]; simp only [List.length_cons, List.length_nil]; omega
      have s2 : ¬ 9223372036854775807 < (bs [91] ++ bs t).size + (bs [93, 58]).size := by simp only [ByteArray.size_append, bs_size [91], bs_size [93, 58], List.length_cons, List.length_nil]; omega
      have s4 : ¬ 9223372036854775807 < (bs [91] ++ bs t ++ bs [93, 58]).size + (bs d).size := by simp only [ByteArray.size_append, bs_size [91], bs_size [93, 58], List.length_cons, List.length_nil]; omega
      rw [hv] at hR hT
      have HR := Lib.hid hR; have HT := Lib.hid hT; have HD := Lib.hid hD; have HRES := Lib.hid hres
      clear hR hT hD hr hres hte
      go_enter Tryz.func32, Tryz.ntmps32
      go_wp2_with (first | (go_at_call 26; (with_reducible refine (HR.out _).mono ?_); rintro e w1 ⟨rfl, b1⟩; obtain ⟨c1, f1⟩ := bcell b1; have z1 := b1.size; (try simp at z1); have d1a := fun o => c1 (w.heap.size) o (by first | omega | (simp; done) | (simp; omega)); clear c1 f1))
      go_name_world WWx hWWx
      have ex0 : ∀ Y, (ext WWx Y).cell? ⟨w.heap.size, 0, none⟩ = some (.bool true) := by subst hWWx; intro Y; exact (ext_cell _ Y (by first | omega | (simp; done) | (simp; omega))).trans (by first | (simp (disch := first | omega | (simp; omega)) [World.cell?_alloc_past, *]; done) | (simp (disch := first | omega | (simp; omega)) [World.cell?_setCell_far, World.cell?_alloc_past, *]; done) | (simp (disch := first | omega | (simp; omega)) [World.cell?_alloc_past, *]; rfl) | (simp (disch := first | omega | (simp; omega)) [World.cell?_setCell_far, World.cell?_alloc_past, *]; rfl) | (simp [go_sem, *]; done) | (simp (disch := first | omega | (simp; omega) | (simp [go_sem, *]; done)) [go_sem, World.cell?_setCell_far, World.cell?_alloc_past, *]; done))
      have ex1 : ∀ Y, (ext WWx Y).cell? ⟨w.heap.size, 1, none⟩ = some (.int .u64 e.ad.hi) := by subst hWWx; intro Y; exact (ext_cell _ Y (by first | omega | (simp; done) | (simp; omega))).trans (by first | (simp (disch := first | omega | (simp; omega)) [World.cell?_alloc_past, *]; done) | (simp (disch := first | omega | (simp; omega)) [World.cell?_setCell_far, World.cell?_alloc_past, *]; done) | (simp (disch := first | omega | (simp; omega)) [World.cell?_alloc_past, *]; rfl) | (simp (disch := first | omega | (simp; omega)) [World.cell?_setCell_far, World.cell?_alloc_past, *]; rfl) | (simp [go_sem, *]; done) | (simp (disch := first | omega | (simp; omega) | (simp [go_sem, *]; done)) [go_sem, World.cell?_setCell_far, World.cell?_alloc_past, *]; done))
      have ex2 : ∀ Y, (ext WWx Y).cell? ⟨w.heap.size, 2, none⟩ = some (.int .u64 e.ad.lo) := by subst hWWx; intro Y; exact (ext_cell _ Y (by first | omega | (simp; done) | (simp; omega))).trans (by first | (simp (disch := first | omega | (simp; omega)) [World.cell?_alloc_past, *]; done) | (simp (disch := first | omega | (simp; omega)) [World.cell?_setCell_far, World.cell?_alloc_past, *]; done) | (simp (disch := first | omega | (simp; omega)) [World.cell?_alloc_past, *]; rfl) | (simp (disch := first | omega | (simp; omega)) [World.cell?_setCell_far, World.cell?_alloc_past, *]; rfl) | (simp [go_sem, *]; done) | (simp (disch := first | omega | (simp; omega) | (simp [go_sem, *]; done)) [go_sem, World.cell?_setCell_far, World.cell?_alloc_past, *]; done))
      have ex3 : ∀ Y, (ext WWx Y).cell? ⟨w.heap.size, 3, none⟩ = some (.int .i64 e.port) := by subst hWWx; intro Y; exact (ext_cell _ Y (by first | omega | (simp; done) | (simp; omega))).trans (by first | (simp (disch := first | omega | (simp; omega)) [World.cell?_alloc_past, *]; done) | (simp (disch := first | omega | (simp; omega)) [World.cell?_setCell_far, World.cell?_alloc_past, *]; done) | (simp (disch := first | omega | (simp; omega)) [World.cell?_alloc_past, *]; rfl) | (simp (disch := first | omega | (simp; omega)) [World.cell?_setCell_far, World.cell?_alloc_past, *]; rfl) | (simp [go_sem, *]; done) | (simp (disch := first | omega | (simp; omega) | (simp [go_sem, *]; done)) [go_sem, World.cell?_setCell_far, World.cell?_alloc_past, *]; done))
      have bWx : Below w.heap.size w WWx := by subst hWWx; (repeat (first | assumption | exact Below.refl _ _ | refine Below.setCell ?_ (by first | omega | (simp; done) | (simp; omega)) _ | refine Below.alloc ?_ (by first | omega | (simp; done) | (simp; omega)) _ | refine Below.drew ?_ | (refine Below.trans ?_ (Below.mono (by assumption) (by first | omega | (simp; done) | (simp; omega))))))
      have lWx0 : w.heap.size < WWx.heap.size := by subst hWWx; first | omega | (simp; done) | (simp; omega)
      clear hWWx
      try simp only [List.append_eq, List.cons_append, List.nil_append]
      refine wp_region_ext (by kernel_rfl) (by kernel_rfl) ?_
      repeat (go_big_quiet_step ((first | (go_at_call 35; with_reducible exact qe (HT.out _)) | (go_at_call 36; with_reducible exact qe (HD.out _)))))
      refine wpQuiet_nil ?_
      intro _ hw'
      obtain ⟨x, hw''⟩ := hw'
      subst hw''
      have px0 := ex0 x
      have px1 := ex1 x
      have px2 := ex2 x
      have px3 := ex3 x
      clear ex0 ex1 ex2 ex3
      have bwx := bWx.trans ((ext_below WWx x).mono bWx.size)
      have zwx := bwx.size
      have zex := (ext_below WWx x).size
      go_wp2_with fail
      go_ret
      exact ⟨ret_str HRES.out, bwx⟩
    | false =>
      have hres : bs t ++ bs [58] ++ bs d = bs te := by rw [hte, if_neg (by rw [hv]; simp)]; simp only [bs_append]; simp
      have s1 : ¬ 9223372036854775807 < (bs t).size + (bs [58]).size := by rw [bs_size [58]]; simp only [List.length_cons, List.length_nil]; omega
      have s2 : ¬ 9223372036854775807 < (bs t ++ bs [58]).size + (bs d).size := by simp only [ByteArray.size_append, bs_size [58], List.length_cons, List.length_nil]; omega
      rw [hv] at hR hT
      have HR := Lib.hid hR; have HT := Lib.hid hT; have HD := Lib.hid hD; have HRES := Lib.hid hres
      clear hR hT hD hr hres hte
      go_enter Tryz.func32, Tryz.ntmps32
      go_wp2_with (first | (go_at_call 26; (with_reducible refine (HR.out _).mono ?_); rintro e w1 ⟨rfl, b1⟩; obtain ⟨c1, f1⟩ := bcell b1; have z1 := b1.size; (try simp at z1); have d1a := fun o => c1 (w.heap.size) o (by first | omega | (simp; done) | (simp; omega)); clear c1 f1))
      go_name_world WWx hWWx
      have ex0 : ∀ Y, (ext WWx Y).cell? ⟨w.heap.size, 0, none⟩ = some (.bool false) := by subst hWWx; intro Y; exact (ext_cell _ Y (by first | omega | (simp; done) | (simp; omega))).trans (by first | (simp (disch := first | omega | (simp; omega)) [World.cell?_alloc_past, *]; done) | (simp (disch := first | omega | (simp; omega)) [World.cell?_setCell_far, World.cell?_alloc_past, *]; done) | (simp (disch := first | omega | (simp; omega)) [World.cell?_alloc_past, *]; rfl) | (simp (disch := first | omega | (simp; omega)) [World.cell?_setCell_far, World.cell?_alloc_past, *]; rfl) | (simp [go_sem, *]; done) | (simp (disch := first | omega | (simp; omega) | (simp [go_sem, *]; done)) [go_sem, World.cell?_setCell_far, World.cell?_alloc_past, *]; done))
      have ex1 : ∀ Y, (ext WWx Y).cell? ⟨w.heap.size, 1, none⟩ = some (.int .u64 e.ad.hi) := by subst hWWx; intro Y; exact (ext_cell _ Y (by first | omega | (simp; done) | (simp; omega))).trans (by first | (simp (disch := first | omega | (simp; omega)) [World.cell?_alloc_past, *]; done) | (simp (disch := first | omega | (simp; omega)) [World.cell?_setCell_far, World.cell?_alloc_past, *]; done) | (simp (disch := first | omega | (simp; omega)) [World.cell?_alloc_past, *]; rfl) | (simp (disch := first | omega | (simp; omega)) [World.cell?_setCell_far, World.cell?_alloc_past, *]; rfl) | (simp [go_sem, *]; done) | (simp (disch := first | omega | (simp; omega) | (simp [go_sem, *]; done)) [go_sem, World.cell?_setCell_far, World.cell?_alloc_past, *]; done))
      have ex2 : ∀ Y, (ext WWx Y).cell? ⟨w.heap.size, 2, none⟩ = some (.int .u64 e.ad.lo) := by subst hWWx; intro Y; exact (ext_cell _ Y (by first | omega | (simp; done) | (simp; omega))).trans (by first | (simp (disch := first | omega | (simp; omega)) [World.cell?_alloc_past, *]; done) | (simp (disch := first | omega | (simp; omega)) [World.cell?_setCell_far, World.cell?_alloc_past, *]; done) | (simp (disch := first | omega | (simp; omega)) [World.cell?_alloc_past, *]; rfl) | (simp (disch := first | omega | (simp; omega)) [World.cell?_setCell_far, World.cell?_alloc_past, *]; rfl) | (simp [go_sem, *]; done) | (simp (disch := first | omega | (simp; omega) | (simp [go_sem, *]; done)) [go_sem, World.cell?_setCell_far, World.cell?_alloc_past, *]; done))
      have ex3 : ∀ Y, (ext WWx Y).cell? ⟨w.heap.size, 3, none⟩ = some (.int .i64 e.port) := by subst hWWx; intro Y; exact (ext_cell _ Y (by first | omega | (simp; done) | (simp; omega))).trans (by first | (simp (disch := first | omega | (simp; omega)) [World.cell?_alloc_past, *]; done) | (simp (disch := first | omega | (simp; omega)) [World.cell?_setCell_far, World.cell?_alloc_past, *]; done) | (simp (disch := first | omega | (simp; omega)) [World.cell?_alloc_past, *]; rfl) | (simp (disch := first | omega | (simp; omega)) [World.cell?_setCell_far, World.cell?_alloc_past, *]; rfl) | (simp [go_sem, *]; done) | (simp (disch := first | omega | (simp; omega) | (simp [go_sem, *]; done)) [go_sem, World.cell?_setCell_far, World.cell?_alloc_past, *]; done))
      have bWx : Below w.heap.size w WWx := by subst hWWx; (repeat (first | assumption | exact Below.refl _ _ | refine Below.setCell ?_ (by first | omega | (simp; done) | (simp; omega)) _ | refine Below.alloc ?_ (by first | omega | (simp; done) | (simp; omega)) _ | refine Below.drew ?_ | (refine Below.trans ?_ (Below.mono (by assumption) (by first | omega | (simp; done) | (simp; omega))))))
      have lWx0 : w.heap.size < WWx.heap.size := by subst hWWx; first | omega | (simp; done) | (simp; omega)
      clear hWWx
      try simp only [List.append_eq, List.cons_append, List.nil_append]
      refine wp_region_ext (by kernel_rfl) (by kernel_rfl) ?_
      repeat (go_big_quiet_step ((first | (go_at_call 35; with_reducible exact qe (HT.out _)) | (go_at_call 36; with_reducible exact qe (HD.out _)))))
      refine wpQuiet_nil ?_
      intro _ hw'
      obtain ⟨x, hw''⟩ := hw'
      subst hw''
      have px0 := ex0 x
      have px1 := ex1 x
      have px2 := ex2 x
      have px3 := ex3 x
      clear ex0 ex1 ex2 ex3
      have bwx := bWx.trans ((ext_below WWx x).mono bWx.size)
      have zwx := bwx.size
      have zex := (ext_below WWx x).size
      go_wp2_with fail
      go_ret
      exact ⟨ret_str HRES.out, bwx⟩
end Go.Proofs.YtnohkfbapibmdaaGreat
