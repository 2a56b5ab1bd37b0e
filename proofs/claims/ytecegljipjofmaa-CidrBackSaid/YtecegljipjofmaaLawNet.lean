/- The laws of subnets. -/
import Derived.Test.YtecegljipjofmaaNetR
import Derived.Test.YtecegljipjofmaaLawGrp
namespace Go.Proofs.Ytecegljipjofmaa
open Go.RowKit
set_option linter.unusedSimpArgs false
set_option linter.unusedVariables false

theorem a7a : ntParse [49, 48, 46, 49, 46, 50, 46, 51, 47, 56] = (⟨⟨false, 0, 167772160⟩, 8⟩, true) := by decide +kernel
theorem a7b : ntParse [58, 58, 102, 102, 102, 102, 58, 49, 48, 46, 48, 46, 48, 46, 48, 47, 49, 48, 52] = (⟨⟨false, 0, 167772160⟩, 8⟩, true) := by decide +kernel
theorem a7c : ntText ⟨⟨false, 0, 167772160⟩, 8⟩ = [49, 48, 46, 48, 46, 48, 46, 48, 47, 56] := by decide +kernel
theorem a7d : ntHas ⟨⟨false, 0, 167772160⟩, 8⟩ ⟨false, 0, 168364039⟩ = true := by decide +kernel
theorem a7e : ntHas ⟨⟨false, 0, 167772160⟩, 8⟩ ⟨false, 0, 185141255⟩ = false := by decide +kernel
theorem c0 : ((0 : Nat) : Int) = 0 := rfl
set_option maxRecDepth 100000 in
set_option maxHeartbeats 4000000 in
theorem awake07_any (w : World) (hc : Cpu w) : Calls Try.prog 51 #[] w fun e w' => e = .returned (.bool true) ∧ Below w.heap.size w w' := by
  have HC := Lib.hid hc; clear hc
  have h1 : ∀ (w : World) (hc : Cpu w), Calls Try.prog 54 #[.string ⟨#[49, 48, 46, 49, 46, 50, 46, 51, 47, 56]⟩] w (GivesNt w (ntParse [49, 48, 46, 49, 46, 50, 46, 51, 47, 56])) := fun w hc => by
    have := ntParse_any (bs [49, 48, 46, 49, 46, 50, 46, 51, 47, 56]) w (by rw [bs_size]; decide) hc
    rw [bs_data] at this; exact this
  have h2 : ∀ (w : World) (hc : Cpu w), Calls Try.prog 54 #[.string ⟨#[58, 58, 102, 102, 102, 102, 58, 49, 48, 46, 48, 46, 48, 46, 48, 47, 49, 48, 52]⟩] w (GivesNt w (ntParse [58, 58, 102, 102, 102, 102, 58, 49, 48, 46, 48, 46, 48, 46, 48, 47, 49, 48, 52])) := fun w hc => by
    have := ntParse_any (bs [58, 58, 102, 102, 102, 102, 58, 49, 48, 46, 48, 46, 48, 46, 48, 47, 49, 48, 52]) w (by rw [bs_size]; decide) hc
    rw [bs_data] at this; exact this
  have h3 := fun w => ntText_any ⟨⟨false, 0, 167772160⟩, 8⟩ ⟨by decide, by decide⟩ w
  have h4 := fun w => ntHas_any ⟨⟨false, 0, 167772160⟩, 8⟩ ⟨false, 0, 168364039⟩ ⟨by decide, by decide⟩ ⟨by decide, by decide⟩ w
  have h5 := fun w => ntHas_any ⟨⟨false, 0, 167772160⟩, 8⟩ ⟨false, 0, 185141255⟩ ⟨by decide, by decide⟩ ⟨by decide, by decide⟩ w
  have q := fun W => eqlNt ⟨⟨false, 0, 167772160⟩, 8⟩ ⟨⟨false, 0, 167772160⟩, 8⟩ W
  rw [a7a] at h1
  rw [a7b] at h2
  rw [a7c] at h3
  rw [a7d] at h4
  rw [a7e] at h5
  unfold GivesNt at h1 h2
  simp only [decide_true] at q
  simp only [c0, show ((167772160 : Nat) : Int) = 167772160 from rfl, show ((168364039 : Nat) : Int) = 168364039 from rfl, show ((185141255 : Nat) : Int) = 185141255 from rfl] at h1 h2 h3 h4 h5 q
  have H1 := Lib.hid h1; have H2 := Lib.hid h2; have H3 := Lib.hid h3; have H4 := Lib.hid h4; have H5 := Lib.hid h5
  clear h1 h2 h3 h4 h5
  have e4 : ((bs [49, 48, 46, 48, 46, 48, 46, 48, 47, 56]).toList == [49, 48, 46, 48, 46, 48, 46, 48, 47, 56]) = true := by decide +kernel
  go_enter Try.func51, Try.ntmps51
  go_wp2_with (first | (go_at_call 54; (with_reducible refine (H1.out _ (HC.out.below (by (repeat (first | assumption | exact Below.refl _ _ | refine Below.setCell ?_ (by first | omega | (simp; done) | (simp; omega)) _ | refine Below.alloc ?_ (by first | omega | (simp; done) | (simp; omega)) _ | refine Below.drew ?_ | (refine Below.trans ?_ (Below.mono (by assumption) (by first | omega | (simp; done) | (simp; omega))))))))).mono ?_); rintro e w1 ⟨rfl, b1⟩; obtain ⟨c1, f1⟩ := bcell b1; have z1 := b1.size; (try simp at z1); clear c1 f1) | (go_at_call 54; (with_reducible refine (H2.out _ (HC.out.below (by (repeat (first | assumption | exact Below.refl _ _ | refine Below.setCell ?_ (by first | omega | (simp; done) | (simp; omega)) _ | refine Below.alloc ?_ (by first | omega | (simp; done) | (simp; omega)) _ | refine Below.drew ?_ | (refine Below.trans ?_ (Below.mono (by assumption) (by first | omega | (simp; done) | (simp; omega))))))))).mono ?_); rintro e w2 ⟨rfl, b2⟩; obtain ⟨c2, f2⟩ := bcell b2; have z2 := b2.size; (try simp at z2); have l2a : w1.heap.size < w2.heap.size := (by omega); have n2a := Nat.ne_of_lt l2a; have d2a := fun o => c2 (w1.heap.size) o (by first | omega | (simp; done) | (simp; omega)); clear c2 f2) | (go_at_call 62; (with_reducible refine (H3.out _).mono ?_); rintro e w3 ⟨rfl, b3⟩; obtain ⟨c3, f3⟩ := bcell b3; have z3 := b3.size; (try simp at z3); have d3a := fun o => c3 (w1.heap.size) o (by first | omega | (simp; done) | (simp; omega)); clear c3 f3) | (go_at_call 44; (with_reducible refine (H4.out _).mono ?_); rintro e w4 ⟨rfl, b4⟩; obtain ⟨c4, f4⟩ := bcell b4; have z4 := b4.size; (try simp at z4); have d4a := fun o => c4 (w1.heap.size) o (by first | omega | (simp; done) | (simp; omega)); clear c4 f4) | (go_at_call 44; (with_reducible refine (H5.out _).mono ?_); rintro e w5 ⟨rfl, b5⟩; obtain ⟨c5, f5⟩ := bcell b5; have z5 := b5.size; (try simp at z5); have d5a := fun o => c5 (w1.heap.size) o (by first | omega | (simp; done) | (simp; omega)); clear c5 f5))
  go_ret
  refine ⟨rfl, ?_⟩
  (repeat (first | assumption | exact Below.refl _ _ | refine Below.setCell ?_ (by first | omega | (simp; done) | (simp; omega)) _ | refine Below.alloc ?_ (by first | omega | (simp; done) | (simp; omega)) _ | refine Below.drew ?_ | (refine Below.trans ?_ (Below.mono (by assumption) (by first | omega | (simp; done) | (simp; omega))))))
theorem ntText_len (n : Nt) (hf : n.ad.fits) : (ntText n).length ≤ 2000 := by
  unfold ntText
  split
  · rename_i h
    obtain ⟨_, h2, h3, _⟩ := (ntRight_iff n).1 h
    have := adBits_nn n.ad
    have h4 := adText_len n.ad hf
    have h5 := decText_len n.bits (by omega) (by omega)
    rw [List.length_append, List.length_cons]; omega
  · simp
set_option maxRecDepth 100000 in
set_option maxHeartbeats 8000000 in
theorem cidrTells_any (n : Nt) (bits : Int) (hf : n.ad.fits) (s : ByteArray) (w : World) (hc : Cpu w) : Calls Try.prog 10 #[.agg #[.bool n.ad.v6, .int .u64 n.ad.hi, .int .u64 n.ad.lo, .int .i64 n.bits], .int .i64 bits, .string s] w fun e w' => e = .returned (.bool true) ∧ Below w.heap.size w w' := by
  have HC := Lib.hid hc; clear hc
  have HA := Lib.hid (fun w hc => awake07_any w hc)
  by_cases hl : 1000 < (s.size : Int)
  · have hdl : decide (1000 < (s.size : Int)) = true := decide_eq_true hl
    go_enter Try.func10, Try.ntmps10
    go_wp2_with (go_at_call 51; (with_reducible refine (HA.out _ (HC.out.below (by (repeat (first | assumption | exact Below.refl _ _ | refine Below.setCell ?_ (by first | omega | (simp; done) | (simp; omega)) _ | refine Below.alloc ?_ (by first | omega | (simp; done) | (simp; omega)) _ | refine Below.drew ?_ | (refine Below.trans ?_ (Below.mono (by assumption) (by first | omega | (simp; done) | (simp; omega))))))))).mono ?_); rintro e w1 ⟨rfl, b1⟩; obtain ⟨c1, f1⟩ := bcell b1; have z1 := b1.size; (try simp at z1); clear c1 f1)
    go_ret
    refine ⟨rfl, ?_⟩
    (repeat (first | assumption | exact Below.refl _ _ | refine Below.setCell ?_ (by first | omega | (simp; done) | (simp; omega)) _ | refine Below.alloc ?_ (by first | omega | (simp; done) | (simp; omega)) _ | refine Below.drew ?_ | (refine Below.trans ?_ (Below.mono (by assumption) (by first | omega | (simp; done) | (simp; omega))))))
  have hsz : (s.size : Int) ≤ 1000 := by omega
  clear hl
  have h1 := fun w => adMake_any n.ad hf bits w
  have h2 := fun w => refAdMake_any n.ad hf bits w
  have h3 := fun w hc => ntParse_any s w (by omega) hc
  have h4 := fun w => refNtParse_any s w (by omega)
  unfold GivesNt at h1 h2 h3 h4
  have HR := Lib.hid (fun w => ntRight_any n hf w)
  have HR2 := Lib.hid (fun w => refNtRight_any n hf w)
  have HM := Lib.hid (fun w => adMask_any n.ad hf bits w)
  have HM2 := Lib.hid (fun w => refAdMask_any n.ad hf bits w)
  have HF := Lib.hid (fun w => ntFull_any n.ad hf w)
  have HF2 := Lib.hid (fun w => refNtFull_any n.ad hf w)
  have HT := Lib.hid (fun w => ntText_any n hf w)
  have HT2 := Lib.hid (fun w => refNtText_any n hf w)
  generalize adMake n.ad bits = r1 at *
  generalize ntParse s.data.toList = r2 at *
  generalize ntRight n = rt at *
  generalize adMask n.ad bits = m at *
  generalize ntFull n.ad = g at *
  have e1 := str_beq8 (bs (ntText n))
  generalize ntText n = t at *
  obtain ⟨x1, k1⟩ := r1
  obtain ⟨x2, k2⟩ := r2
  simp only at h1 h2 h3 h4
  have H1 := Lib.hid h1; have H2 := Lib.hid h2; have H3 := Lib.hid h3; have H4 := Lib.hid h4; clear h1 h2 h3 h4
  have q1 := fun W => eqlNt x1 x1 W
  have q2 := fun W => eqlNt x2 x2 W
  have q3 := fun W => eqlNt g g W
  have q4 := fun W => eqlAd m m W
  simp only [decide_true] at q1 q2 q3 q4
  have b1 : (rt == rt) = true := by simp
  have b2 : (k1 == k1) = true := by simp
  have b3 : (k2 == k2) = true := by simp
  go_enter Try.func10, Try.ntmps10
  go_wp2_with (first | (go_at_call 52; (with_reducible refine (H1.out _).mono ?_); rintro e w1 ⟨rfl, b1⟩; obtain ⟨c1, f1⟩ := bcell b1; have z1 := b1.size; (try simp at z1); have l1a : w.heap.size < w1.heap.size := (by omega); have n1a := Nat.ne_of_lt l1a; have d1a := fun o => c1 (w.heap.size) o (by first | omega | (simp; done) | (simp; omega)); clear c1 f1) | (go_at_call 53; (with_reducible refine (H2.out _).mono ?_); rintro e w2 ⟨rfl, b2⟩; obtain ⟨c2, f2⟩ := bcell b2; have z2 := b2.size; (try simp at z2); have l2a : w.heap.size < w2.heap.size := (by omega); have n2a := Nat.ne_of_lt l2a; have d2a := fun o => c2 (w.heap.size) o (by first | omega | (simp; done) | (simp; omega)); have l2b : w1.heap.size < w2.heap.size := (by omega); have n2b := Nat.ne_of_lt l2b; have d2b := fun o => c2 (w1.heap.size) o (by first | omega | (simp; done) | (simp; omega)); clear c2 f2) | (go_at_call 54; (with_reducible refine (H3.out _ (HC.out.below (by (repeat (first | assumption | exact Below.refl _ _ | refine Below.setCell ?_ (by first | omega | (simp; done) | (simp; omega)) _ | refine Below.alloc ?_ (by first | omega | (simp; done) | (simp; omega)) _ | refine Below.drew ?_ | (refine Below.trans ?_ (Below.mono (by assumption) (by first | omega | (simp; done) | (simp; omega))))))))).mono ?_); rintro e w3 ⟨rfl, b3⟩; obtain ⟨c3, f3⟩ := bcell b3; have z3 := b3.size; (try simp at z3); have l3a : w.heap.size < w3.heap.size := (by omega); have n3a := Nat.ne_of_lt l3a; have d3a := fun o => c3 (w.heap.size) o (by first | omega | (simp; done) | (simp; omega)); have l3b : w1.heap.size < w3.heap.size := (by omega); have n3b := Nat.ne_of_lt l3b; have d3b := fun o => c3 (w1.heap.size) o (by first | omega | (simp; done) | (simp; omega)); have l3c : w2.heap.size < w3.heap.size := (by omega); have n3c := Nat.ne_of_lt l3c; have d3c := fun o => c3 (w2.heap.size) o (by first | omega | (simp; done) | (simp; omega)); clear c3 f3) | (go_at_call 55; (with_reducible refine (H4.out _).mono ?_); rintro e w4 ⟨rfl, b4⟩; obtain ⟨c4, f4⟩ := bcell b4; have z4 := b4.size; (try simp at z4); have l4a : w.heap.size < w4.heap.size := (by omega); have n4a := Nat.ne_of_lt l4a; have d4a := fun o => c4 (w.heap.size) o (by first | omega | (simp; done) | (simp; omega)); have l4b : w1.heap.size < w4.heap.size := (by omega); have n4b := Nat.ne_of_lt l4b; have d4b := fun o => c4 (w1.heap.size) o (by first | omega | (simp; done) | (simp; omega)); have l4c : w2.heap.size < w4.heap.size := (by omega); have n4c := Nat.ne_of_lt l4c; have d4c := fun o => c4 (w2.heap.size) o (by first | omega | (simp; done) | (simp; omega)); have l4d : w3.heap.size < w4.heap.size := (by omega); have n4d := Nat.ne_of_lt l4d; have d4d := fun o => c4 (w3.heap.size) o (by first | omega | (simp; done) | (simp; omega)); clear c4 f4))
  go_name_world WWx hWWx
  have ex0 : ∀ Y, (ext WWx Y).cell? ⟨w.heap.size, 0, none⟩ = some (.bool n.ad.v6) := by subst hWWx; intro Y; exact (ext_cell _ Y (by first | omega | (simp; done) | (simp; omega))).trans (by first | (simp (disch := first | omega | (simp; omega)) [World.cell?_alloc_past, *]; done) | (simp (disch := first | omega | (simp; omega)) [World.cell?_setCell_far, World.cell?_alloc_past, *]; done) | (simp (disch := first | omega | (simp; omega)) [World.cell?_alloc_past, *]; rfl) | (simp (disch := first | omega | (simp; omega)) [World.cell?_setCell_far, World.cell?_alloc_past, *]; rfl) | (simp [go_sem, *]; done) | (simp (disch := first | omega | (simp; omega) | (simp [go_sem, *]; done)) [go_sem, World.cell?_setCell_far, World.cell?_alloc_past, *]; done))
  have ex1 : ∀ Y, (ext WWx Y).cell? ⟨w.heap.size, 1, none⟩ = some (.int .u64 n.ad.hi) := by subst hWWx; intro Y; exact (ext_cell _ Y (by first | omega | (simp; done) | (simp; omega))).trans (by first | (simp (disch := first | omega | (simp; omega)) [World.cell?_alloc_past, *]; done) | (simp (disch := first | omega | (simp; omega)) [World.cell?_setCell_far, World.cell?_alloc_past, *]; done) | (simp (disch := first | omega | (simp; omega)) [World.cell?_alloc_past, *]; rfl) | (simp (disch := first | omega | (simp; omega)) [World.cell?_setCell_far, World.cell?_alloc_past, *]; rfl) | (simp [go_sem, *]; done) | (simp (disch := first | omega | (simp; omega) | (simp [go_sem, *]; done)) [go_sem, World.cell?_setCell_far, World.cell?_alloc_past, *]; done))
  have ex2 : ∀ Y, (ext WWx Y).cell? ⟨w.heap.size, 2, none⟩ = some (.int .u64 n.ad.lo) := by subst hWWx; intro Y; exact (ext_cell _ Y (by first | omega | (simp; done) | (simp; omega))).trans (by first | (simp (disch := first | omega | (simp; omega)) [World.cell?_alloc_past, *]; done) | (simp (disch := first | omega | (simp; omega)) [World.cell?_setCell_far, World.cell?_alloc_past, *]; done) | (simp (disch := first | omega | (simp; omega)) [World.cell?_alloc_past, *]; rfl) | (simp (disch := first | omega | (simp; omega)) [World.cell?_setCell_far, World.cell?_alloc_past, *]; rfl) | (simp [go_sem, *]; done) | (simp (disch := first | omega | (simp; omega) | (simp [go_sem, *]; done)) [go_sem, World.cell?_setCell_far, World.cell?_alloc_past, *]; done))
  have ex3 : ∀ Y, (ext WWx Y).cell? ⟨w.heap.size, 3, none⟩ = some (.int .i64 n.bits) := by subst hWWx; intro Y; exact (ext_cell _ Y (by first | omega | (simp; done) | (simp; omega))).trans (by first | (simp (disch := first | omega | (simp; omega)) [World.cell?_alloc_past, *]; done) | (simp (disch := first | omega | (simp; omega)) [World.cell?_setCell_far, World.cell?_alloc_past, *]; done) | (simp (disch := first | omega | (simp; omega)) [World.cell?_alloc_past, *]; rfl) | (simp (disch := first | omega | (simp; omega)) [World.cell?_setCell_far, World.cell?_alloc_past, *]; rfl) | (simp [go_sem, *]; done) | (simp (disch := first | omega | (simp; omega) | (simp [go_sem, *]; done)) [go_sem, World.cell?_setCell_far, World.cell?_alloc_past, *]; done))
  have ex4 : ∀ Y, (ext WWx Y).cell? ⟨w1.heap.size, 0, none⟩ = some (.bool x1.ad.v6) := by subst hWWx; intro Y; exact (ext_cell _ Y (by first | omega | (simp; done) | (simp; omega))).trans (by first | (simp (disch := first | omega | (simp; omega)) [World.cell?_alloc_past, *]; done) | (simp (disch := first | omega | (simp; omega)) [World.cell?_setCell_far, World.cell?_alloc_past, *]; done) | (simp (disch := first | omega | (simp; omega)) [World.cell?_alloc_past, *]; rfl) | (simp (disch := first | omega | (simp; omega)) [World.cell?_setCell_far, World.cell?_alloc_past, *]; rfl) | (simp [go_sem, *]; done) | (simp (disch := first | omega | (simp; omega) | (simp [go_sem, *]; done)) [go_sem, World.cell?_setCell_far, World.cell?_alloc_past, *]; done))
  have ex5 : ∀ Y, (ext WWx Y).cell? ⟨w1.heap.size, 1, none⟩ = some (.int .u64 x1.ad.hi) := by subst hWWx; intro Y; exact (ext_cell _ Y (by first | omega | (simp; done) | (simp; omega))).trans (by first | (simp (disch := first | omega | (simp; omega)) [World.cell?_alloc_past, *]; done) | (simp (disch := first | omega | (simp; omega)) [World.cell?_setCell_far, World.cell?_alloc_past, *]; done) | (simp (disch := first | omega | (simp; omega)) [World.cell?_alloc_past, *]; rfl) | (simp (disch := first | omega | (simp; omega)) [World.cell?_setCell_far, World.cell?_alloc_past, *]; rfl) | (simp [go_sem, *]; done) | (simp (disch := first | omega | (simp; omega) | (simp [go_sem, *]; done)) [go_sem, World.cell?_setCell_far, World.cell?_alloc_past, *]; done))
  have ex6 : ∀ Y, (ext WWx Y).cell? ⟨w1.heap.size, 2, none⟩ = some (.int .u64 x1.ad.lo) := by subst hWWx; intro Y; exact (ext_cell _ Y (by first | omega | (simp; done) | (simp; omega))).trans (by first | (simp (disch := first | omega | (simp; omega)) [World.cell?_alloc_past, *]; done) | (simp (disch := first | omega | (simp; omega)) [World.cell?_setCell_far, World.cell?_alloc_past, *]; done) | (simp (disch := first | omega | (simp; omega)) [World.cell?_alloc_past, *]; rfl) | (simp (disch := first | omega | (simp; omega)) [World.cell?_setCell_far, World.cell?_alloc_past, *]; rfl) | (simp [go_sem, *]; done) | (simp (disch := first | omega | (simp; omega) | (simp [go_sem, *]; done)) [go_sem, World.cell?_setCell_far, World.cell?_alloc_past, *]; done))
  have ex7 : ∀ Y, (ext WWx Y).cell? ⟨w1.heap.size, 3, none⟩ = some (.int .i64 x1.bits) := by subst hWWx; intro Y; exact (ext_cell _ Y (by first | omega | (simp; done) | (simp; omega))).trans (by first | (simp (disch := first | omega | (simp; omega)) [World.cell?_alloc_past, *]; done) | (simp (disch := first | omega | (simp; omega)) [World.cell?_setCell_far, World.cell?_alloc_past, *]; done) | (simp (disch := first | omega | (simp; omega)) [World.cell?_alloc_past, *]; rfl) | (simp (disch := first | omega | (simp; omega)) [World.cell?_setCell_far, World.cell?_alloc_past, *]; rfl) | (simp [go_sem, *]; done) | (simp (disch := first | omega | (simp; omega) | (simp [go_sem, *]; done)) [go_sem, World.cell?_setCell_far, World.cell?_alloc_past, *]; done))
  have ex8 : ∀ Y, (ext WWx Y).cell? ⟨w2.heap.size, 0, none⟩ = some (.bool x1.ad.v6) := by subst hWWx; intro Y; exact (ext_cell _ Y (by first | omega | (simp; done) | (simp; omega))).trans (by first | (simp (disch := first | omega | (simp; omega)) [World.cell?_alloc_past, *]; done) | (simp (disch := first | omega | (simp; omega)) [World.cell?_setCell_far, World.cell?_alloc_past, *]; done) | (simp (disch := first | omega | (simp; omega)) [World.cell?_alloc_past, *]; rfl) | (simp (disch := first | omega | (simp; omega)) [World.cell?_setCell_far, World.cell?_alloc_past, *]; rfl) | (simp [go_sem, *]; done) | (simp (disch := first | omega | (simp; omega) | (simp [go_sem, *]; done)) [go_sem, World.cell?_setCell_far, World.cell?_alloc_past, *]; done))
  have ex9 : ∀ Y, (ext WWx Y).cell? ⟨w2.heap.size, 1, none⟩ = some (.int .u64 x1.ad.hi) := by subst hWWx; intro Y; exact (ext_cell _ Y (by first | omega | (simp; done) | (simp; omega))).trans (by first | (simp (disch := first | omega | (simp; omega)) [World.cell?_alloc_past, *]; done) | (simp (disch := first | omega | (simp; omega)) [World.cell?_setCell_far, World.cell?_alloc_past, *]; done) | (simp (disch := first | omega | (simp; omega)) [World.cell?_alloc_past, *]; rfl) | (simp (disch := first | omega | (simp; omega)) [World.cell?_setCell_far, World.cell?_alloc_past, *]; rfl) | (simp [go_sem, *]; done) | (simp (disch := first | omega | (simp; omega) | (simp [go_sem, *]; done)) [go_sem, World.cell?_setCell_far, World.cell?_alloc_past, *]; done))
  have ex10 : ∀ Y, (ext WWx Y).cell? ⟨w2.heap.size, 2, none⟩ = some (.int .u64 x1.ad.lo) := by subst hWWx; intro Y; exact (ext_cell _ Y (by first | omega | (simp; done) | (simp; omega))).trans (by first | (simp (disch := first | omega | (simp; omega)) [World.cell?_alloc_past, *]; done) | (simp (disch := first | omega | (simp; omega)) [World.cell?_setCell_far, World.cell?_alloc_past, *]; done) | (simp (disch := first | omega | (simp; omega)) [World.cell?_alloc_past, *]; rfl) | (simp (disch := first | omega | (simp; omega)) [World.cell?_setCell_far, World.cell?_alloc_past, *]; rfl) | (simp [go_sem, *]; done) | (simp (disch := first | omega | (simp; omega) | (simp [go_sem, *]; done)) [go_sem, World.cell?_setCell_far, World.cell?_alloc_past, *]; done))
  have ex11 : ∀ Y, (ext WWx Y).cell? ⟨w2.heap.size, 3, none⟩ = some (.int .i64 x1.bits) := by subst hWWx; intro Y; exact (ext_cell _ Y (by first | omega | (simp; done) | (simp; omega))).trans (by first | (simp (disch := first | omega | (simp; omega)) [World.cell?_alloc_past, *]; done) | (simp (disch := first | omega | (simp; omega)) [World.cell?_setCell_far, World.cell?_alloc_past, *]; done) | (simp (disch := first | omega | (simp; omega)) [World.cell?_alloc_past, *]; rfl) | (simp (disch := first | omega | (simp; omega)) [World.cell?_setCell_far, World.cell?_alloc_past, *]; rfl) | (simp [go_sem, *]; done) | (simp (disch := first | omega | (simp; omega) | (simp [go_sem, *]; done)) [go_sem, World.cell?_setCell_far, World.cell?_alloc_past, *]; done))
  have ex12 : ∀ Y, (ext WWx Y).cell? ⟨w3.heap.size, 0, none⟩ = some (.bool x2.ad.v6) := by subst hWWx; intro Y; exact (ext_cell _ Y (by first | omega | (simp; done) | (simp; omega))).trans (by first | (simp (disch := first | omega | (simp; omega)) [World.cell?_alloc_past, *]; done) | (simp (disch := first | omega | (simp; omega)) [World.cell?_setCell_far, World.cell?_alloc_past, *]; done) | (simp (disch := first | omega | (simp; omega)) [World.cell?_alloc_past, *]; rfl) | (simp (disch := first | omega | (simp; omega)) [World.cell?_setCell_far, World.cell?_alloc_past, *]; rfl) | (simp [go_sem, *]; done) | (simp (disch := first | omega | (simp; omega) | (simp [go_sem, *]; done)) [go_sem, World.cell?_setCell_far, World.cell?_alloc_past, *]; done))
  have ex13 : ∀ Y, (ext WWx Y).cell? ⟨w3.heap.size, 1, none⟩ = some (.int .u64 x2.ad.hi) := by subst hWWx; intro Y; exact (ext_cell _ Y (by first | omega | (simp; done) | (simp; omega))).trans (by first | (simp (disch := first | omega | (simp; omega)) [World.cell?_alloc_past, *]; done) | (simp (disch := first | omega | (simp; omega)) [World.cell?_setCell_far, World.cell?_alloc_past, *]; done) | (simp (disch := first | omega | (simp; omega)) [World.cell?_alloc_past, *]; rfl) | (simp (disch := first | omega | (simp; omega)) [World.cell?_setCell_far, World.cell?_alloc_past, *]; rfl) | (simp [go_sem, *]; done) | (simp (disch := first | omega | (simp; omega) | (simp [go_sem, *]; done)) [go_sem, World.cell?_setCell_far, World.cell?_alloc_past, *]; done))
  have ex14 : ∀ Y, (ext WWx Y).cell? ⟨w3.heap.size, 2, none⟩ = some (.int .u64 x2.ad.lo) := by subst hWWx; intro Y; exact (ext_cell _ Y (by first | omega | (simp; done) | (simp; omega))).trans (by first | (simp (disch := first | omega | (simp; omega)) [World.cell?_alloc_past, *]; done) | (simp (disch := first | omega | (simp; omega)) [World.cell?_setCell_far, World.cell?_alloc_past, *]; done) | (simp (disch := first | omega | (simp; omega)) [World.cell?_alloc_past, *]; rfl) | (simp (disch := first | omega | (simp; omega)) [World.cell?_setCell_far, World.cell?_alloc_past, *]; rfl) | (simp [go_sem, *]; done) | (simp (disch := first | omega | (simp; omega) | (simp [go_sem, *]; done)) [go_sem, World.cell?_setCell_far, World.cell?_alloc_past, *]; done))
  have ex15 : ∀ Y, (ext WWx Y).cell? ⟨w3.heap.size, 3, none⟩ = some (.int .i64 x2.bits) := by subst hWWx; intro Y; exact (ext_cell _ Y (by first | omega | (simp; done) | (simp; omega))).trans (by first | (simp (disch := first | omega | (simp; omega)) [World.cell?_alloc_past, *]; done) | (simp (disch := first | omega | (simp; omega)) [World.cell?_setCell_far, World.cell?_alloc_past, *]; done) | (simp (disch := first | omega | (simp; omega)) [World.cell?_alloc_past, *]; rfl) | (simp (disch := first | omega | (simp; omega)) [World.cell?_setCell_far, World.cell?_alloc_past, *]; rfl) | (simp [go_sem, *]; done) | (simp (disch := first | omega | (simp; omega) | (simp [go_sem, *]; done)) [go_sem, World.cell?_setCell_far, World.cell?_alloc_past, *]; done))
  have ex16 : ∀ Y, (ext WWx Y).cell? ⟨w4.heap.size, 0, none⟩ = some (.bool x2.ad.v6) := by subst hWWx; intro Y; exact (ext_cell _ Y (by first | omega | (simp; done) | (simp; omega))).trans (by first | (simp (disch := first | omega | (simp; omega)) [World.cell?_alloc_past, *]; done) | (simp (disch := first | omega | (simp; omega)) [World.cell?_setCell_far, World.cell?_alloc_past, *]; done) | (simp (disch := first | omega | (simp; omega)) [World.cell?_alloc_past, *]; rfl) | (simp (disch := first | omega | (simp; omega)) [World.cell?_setCell_far, World.cell?_alloc_past, *]; rfl) | (simp [go_sem, *]; done) | (simp (disch := first | omega | (simp; omega) | (simp [go_sem, *]; done)) [go_sem, World.cell?_setCell_far, World.cell?_alloc_past, *]; done))
  have ex17 : ∀ Y, (ext WWx Y).cell? ⟨w4.heap.size, 1, none⟩ = some (.int .u64 x2.ad.hi) := by subst hWWx; intro Y; exact (ext_cell _ Y (by first | omega | (simp; done) | (simp; omega))).trans (by first | (simp (disch := first | omega | (simp; omega)) [World.cell?_alloc_past, *]; done) | (simp (disch := first | omega | (simp; omega)) [World.cell?_setCell_far, World.cell?_alloc_past, *]; done) | (simp (disch := first | omega | (simp; omega)) [World.cell?_alloc_past, *]; rfl) | (simp (disch := first | omega | (simp; omega)) [World.cell?_setCell_far, World.cell?_alloc_past, *]; rfl) | (simp [go_sem, *]; done) | (simp (disch := first | omega | (simp; omega) | (simp [go_sem, *]; done)) [go_sem, World.cell?_setCell_far, World.cell?_alloc_past, *]; done))
  have ex18 : ∀ Y, (ext WWx Y).cell? ⟨w4.heap.size, 2, none⟩ = some (.int .u64 x2.ad.lo) := by subst hWWx; intro Y; exact (ext_cell _ Y (by first | omega | (simp; done) | (simp; omega))).trans (by first | (simp (disch := first | omega | (simp; omega)) [World.cell?_alloc_past, *]; done) | (simp (disch := first | omega | (simp; omega)) [World.cell?_setCell_far, World.cell?_alloc_past, *]; done) | (simp (disch := first | omega | (simp; omega)) [World.cell?_alloc_past, *]; rfl) | (simp (disch := first | omega | (simp; omega)) [World.cell?_setCell_far, World.cell?_alloc_past, *]; rfl) | (simp [go_sem, *]; done) | (simp (disch := first | omega | (simp; omega) | (simp [go_sem, *]; done)) [go_sem, World.cell?_setCell_far, World.cell?_alloc_past, *]; done))
  have ex19 : ∀ Y, (ext WWx Y).cell? ⟨w4.heap.size, 3, none⟩ = some (.int .i64 x2.bits) := by subst hWWx; intro Y; exact (ext_cell _ Y (by first | omega | (simp; done) | (simp; omega))).trans (by first | (simp (disch := first | omega | (simp; omega)) [World.cell?_alloc_past, *]; done) | (simp (disch := first | omega | (simp; omega)) [World.cell?_setCell_far, World.cell?_alloc_past, *]; done) | (simp (disch := first | omega | (simp; omega)) [World.cell?_alloc_past, *]; rfl) | (simp (disch := first | omega | (simp; omega)) [World.cell?_setCell_far, World.cell?_alloc_past, *]; rfl) | (simp [go_sem, *]; done) | (simp (disch := first | omega | (simp; omega) | (simp [go_sem, *]; done)) [go_sem, World.cell?_setCell_far, World.cell?_alloc_past, *]; done))
  have bWx : Below w.heap.size w WWx := by subst hWWx; (repeat (first | assumption | exact Below.refl _ _ | refine Below.setCell ?_ (by first | omega | (simp; done) | (simp; omega)) _ | refine Below.alloc ?_ (by first | omega | (simp; done) | (simp; omega)) _ | refine Below.drew ?_ | (refine Below.trans ?_ (Below.mono (by assumption) (by first | omega | (simp; done) | (simp; omega))))))
  have lWx0 : w.heap.size < WWx.heap.size := by subst hWWx; first | omega | (simp; done) | (simp; omega)
  have lWx1 : w1.heap.size < WWx.heap.size := by subst hWWx; first | omega | (simp; done) | (simp; omega)
  have lWx2 : w2.heap.size < WWx.heap.size := by subst hWWx; first | omega | (simp; done) | (simp; omega)
  have lWx3 : w3.heap.size < WWx.heap.size := by subst hWWx; first | omega | (simp; done) | (simp; omega)
  have lWx4 : w4.heap.size < WWx.heap.size := by subst hWWx; first | omega | (simp; done) | (simp; omega)
  clear hWWx
  refine wp_region_ext (by kernel_rfl) (by kernel_rfl) ?_
  repeat (go_big_quiet_step ((first | (go_at_call 56; with_reducible exact qe (HR.out _)) | (go_at_call 57; with_reducible exact qe (HR2.out _)) | (go_at_call 58; with_reducible exact qe (HM.out _)) | (go_at_call 59; with_reducible exact qe (HM2.out _)) | (go_at_call 60; with_reducible exact qe (HF.out _)) | (go_at_call 61; with_reducible exact qe (HF2.out _)) | (go_at_call 62; with_reducible exact qe (HT.out _)) | (go_at_call 38; with_reducible exact qe (HT2.out _)) | (go_at_call 51; with_reducible exact qe (HA.out _ (HC.out.below ((bWx.trans ((ext_below _ _).mono bWx.size)))))))))
  refine wpQuiet_nil ?_
  intro _ hw'
  obtain ⟨x, hw''⟩ := hw'
  subst hw''
  have px0 := ex0 x
  have px1 := ex1 x
  have px2 := ex2 x
  have px3 := ex3 x
  have px4 := ex4 x
  have px5 := ex5 x
  have px6 := ex6 x
  have px7 := ex7 x
  have px8 := ex8 x
  have px9 := ex9 x
  have px10 := ex10 x
  have px11 := ex11 x
  have px12 := ex12 x
  have px13 := ex13 x
  have px14 := ex14 x
  have px15 := ex15 x
  have px16 := ex16 x
  have px17 := ex17 x
  have px18 := ex18 x
  have px19 := ex19 x
  clear ex0 ex1 ex2 ex3 ex4 ex5 ex6 ex7 ex8 ex9 ex10 ex11 ex12 ex13 ex14 ex15 ex16 ex17 ex18 ex19
  have bwx := bWx.trans ((ext_below WWx x).mono bWx.size)
  have zwx := bwx.size
  have zex := (ext_below WWx x).size
  go_wp2_with fail
  go_ret
  exact ⟨rfl, bwx⟩
/-- whatever is read of the subnet's own text -/
theorem ntBack_of (n : Nt) (hf : n.ad.fits) : (ntRight n = true ∧ ntParse (ntText n) = (n, true)) ∨ (ntRight n = false ∧ ntParse (ntText n) = zeroN) := by
  cases h : ntRight n with
  | true => exact Or.inl ⟨rfl, ntParse_text n hf h⟩
  | false => exact Or.inr ⟨rfl, by rw [ntText_bad n h, ntParse_nil]⟩
set_option maxRecDepth 100000 in
set_option maxHeartbeats 8000000 in
theorem cidrBack_any (n : Nt) (hf : n.ad.fits) (s : ByteArray) (w : World) (hc : Cpu w) : Calls Try.prog 11 #[.agg #[.bool n.ad.v6, .int .u64 n.ad.hi, .int .u64 n.ad.lo, .int .i64 n.bits], .string s] w fun e w' => e = .returned (.bool true) ∧ Below w.heap.size w w' := by
  have HC := Lib.hid hc; clear hc
  have HA := Lib.hid (fun w hc => awake07_any w hc)
  have hR := fun w => ntRight_any n hf w
  have htl := ntText_len n hf
  have hT := fun w => ntText_any n hf w
  have hP := fun w hc => ntParse_any (bs (ntText n)) w (by rw [bs_size]; omega) hc
  rw [bs_data] at hP
  unfold GivesNt at hP
  have q1 := fun W => neqNt n n W
  simp only [decide_true, Bool.not_true] at q1
  have hback := ntBack_of n hf
  generalize ntText n = t at *
  have HT := Lib.hid hT; clear hT htl
  obtain ⟨m, right, hmr, hm⟩ : ∃ (m : Nt) (right : Bool), ntRight n = right ∧ ntParse t = (m, right) ∧ (right = true → m = n) := by
    rcases hback with ⟨h1, h2⟩ | ⟨h1, h2⟩
    · exact ⟨n, true, h1, h2, fun _ => rfl⟩
    · exact ⟨⟨⟨false, 0, 0⟩, 0⟩, false, h1, h2, fun h => by cases h⟩
  obtain ⟨hm1, hm2⟩ := hm
  rw [hmr] at hR
  rw [hm1] at hP
  simp only at hP
  clear hback hmr hm1
  have hrr : (right != right) = false := by simp
  have HR := Lib.hid hR; have HP := Lib.hid hP; clear hR hP
  by_cases hl : 1000 < (s.size : Int)
  · have hdl : decide (1000 < (s.size : Int)) = true := decide_eq_true hl
    cases right with
    | true =>
      obtain rfl := hm2 rfl
      clear hm2
      go_enter Try.func11, Try.ntmps11
      go_wp2_with (first | (go_at_call 62; (with_reducible refine (HT.out _).mono ?_); rintro e w1 ⟨rfl, b1⟩; obtain ⟨c1, f1⟩ := bcell b1; have z1 := b1.size; (try simp at z1); have l1a : w.heap.size < w1.heap.size := (by omega); have n1a := Nat.ne_of_lt l1a; have d1a := fun o => c1 (w.heap.size) o (by first | omega | (simp; done) | (simp; omega)); clear c1 f1) | (go_at_call 54; (with_reducible refine (HP.out _ (HC.out.below (by (repeat (first | assumption | exact Below.refl _ _ | refine Below.setCell ?_ (by first | omega | (simp; done) | (simp; omega)) _ | refine Below.alloc ?_ (by first | omega | (simp; done) | (simp; omega)) _ | refine Below.drew ?_ | (refine Below.trans ?_ (Below.mono (by assumption) (by first | omega | (simp; done) | (simp; omega))))))))).mono ?_); rintro e w2 ⟨rfl, b2⟩; obtain ⟨c2, f2⟩ := bcell b2; have z2 := b2.size; (try simp at z2); have l2a : w.heap.size < w2.heap.size := (by omega); have n2a := Nat.ne_of_lt l2a; have d2a := fun o => c2 (w.heap.size) o (by first | omega | (simp; done) | (simp; omega)); clear c2 f2) | (go_at_call 56; (with_reducible refine (HR.out _).mono ?_); rintro e w3 ⟨rfl, b3⟩; obtain ⟨c3, f3⟩ := bcell b3; have z3 := b3.size; (try simp at z3); have l3a : w.heap.size < w3.heap.size := (by omega); have n3a := Nat.ne_of_lt l3a; have d3a := fun o => c3 (w.heap.size) o (by first | omega | (simp; done) | (simp; omega)); have l3b : w2.heap.size < w3.heap.size := (by omega); have n3b := Nat.ne_of_lt l3b; have d3b := fun o => c3 (w2.heap.size) o (by first | omega | (simp; done) | (simp; omega)); clear c3 f3) | (go_at_call 51; (with_reducible refine (HA.out _ (HC.out.below (by (repeat (first | assumption | exact Below.refl _ _ | refine Below.setCell ?_ (by first | omega | (simp; done) | (simp; omega)) _ | refine Below.alloc ?_ (by first | omega | (simp; done) | (simp; omega)) _ | refine Below.drew ?_ | (refine Below.trans ?_ (Below.mono (by assumption) (by first | omega | (simp; done) | (simp; omega))))))))).mono ?_); rintro e w8 ⟨rfl, b8⟩; obtain ⟨c8, f8⟩ := bcell b8; have z8 := b8.size; (try simp at z8); clear c8 f8))
      go_ret
      refine ⟨rfl, ?_⟩
      (repeat (first | assumption | exact Below.refl _ _ | refine Below.setCell ?_ (by first | omega | (simp; done) | (simp; omega)) _ | refine Below.alloc ?_ (by first | omega | (simp; done) | (simp; omega)) _ | refine Below.drew ?_ | (refine Below.trans ?_ (Below.mono (by assumption) (by first | omega | (simp; done) | (simp; omega))))))
    | false =>
      clear hm2
      go_enter Try.func11, Try.ntmps11
      go_wp2_with (first | (go_at_call 62; (with_reducible refine (HT.out _).mono ?_); rintro e w1 ⟨rfl, b1⟩; obtain ⟨c1, f1⟩ := bcell b1; have z1 := b1.size; (try simp at z1); have l1a : w.heap.size < w1.heap.size := (by omega); have n1a := Nat.ne_of_lt l1a; have d1a := fun o => c1 (w.heap.size) o (by first | omega | (simp; done) | (simp; omega)); clear c1 f1) | (go_at_call 54; (with_reducible refine (HP.out _ (HC.out.below (by (repeat (first | assumption | exact Below.refl _ _ | refine Below.setCell ?_ (by first | omega | (simp; done) | (simp; omega)) _ | refine Below.alloc ?_ (by first | omega | (simp; done) | (simp; omega)) _ | refine Below.drew ?_ | (refine Below.trans ?_ (Below.mono (by assumption) (by first | omega | (simp; done) | (simp; omega))))))))).mono ?_); rintro e w2 ⟨rfl, b2⟩; obtain ⟨c2, f2⟩ := bcell b2; have z2 := b2.size; (try simp at z2); have l2a : w.heap.size < w2.heap.size := (by omega); have n2a := Nat.ne_of_lt l2a; have d2a := fun o => c2 (w.heap.size) o (by first | omega | (simp; done) | (simp; omega)); clear c2 f2) | (go_at_call 56; (with_reducible refine (HR.out _).mono ?_); rintro e w3 ⟨rfl, b3⟩; obtain ⟨c3, f3⟩ := bcell b3; have z3 := b3.size; (try simp at z3); have l3a : w.heap.size < w3.heap.size := (by omega); have n3a := Nat.ne_of_lt l3a; have d3a := fun o => c3 (w.heap.size) o (by first | omega | (simp; done) | (simp; omega)); have l3b : w2.heap.size < w3.heap.size := (by omega); have n3b := Nat.ne_of_lt l3b; have d3b := fun o => c3 (w2.heap.size) o (by first | omega | (simp; done) | (simp; omega)); clear c3 f3) | (go_at_call 51; (with_reducible refine (HA.out _ (HC.out.below (by (repeat (first | assumption | exact Below.refl _ _ | refine Below.setCell ?_ (by first | omega | (simp; done) | (simp; omega)) _ | refine Below.alloc ?_ (by first | omega | (simp; done) | (simp; omega)) _ | refine Below.drew ?_ | (refine Below.trans ?_ (Below.mono (by assumption) (by first | omega | (simp; done) | (simp; omega))))))))).mono ?_); rintro e w8 ⟨rfl, b8⟩; obtain ⟨c8, f8⟩ := bcell b8; have z8 := b8.size; (try simp at z8); clear c8 f8))
      go_ret
      refine ⟨rfl, ?_⟩
      (repeat (first | assumption | exact Below.refl _ _ | refine Below.setCell ?_ (by first | omega | (simp; done) | (simp; omega)) _ | refine Below.alloc ?_ (by first | omega | (simp; done) | (simp; omega)) _ | refine Below.drew ?_ | (refine Below.trans ?_ (Below.mono (by assumption) (by first | omega | (simp; done) | (simp; omega))))))
  have hsz : (s.size : Int) ≤ 1000 := by omega
  clear hl
  have h2 := fun w hc => ntParse_any s w (by omega) hc
  unfold GivesNt at h2
  have hok := ntParse_ok s.data.toList
  generalize ntParse s.data.toList = r at *
  obtain ⟨x, is⟩ := r
  simp only at h2 hok
  obtain ⟨hxf, hx1, hx2⟩ := hok
  have HP2 := Lib.hid h2; clear h2
  cases is with
  | false =>
    have hz := hx2 rfl
    unfold zeroN at hz
    simp only [Prod.mk.injEq, and_true] at hz
    subst hz
    have q2 := fun W => eqlNt ⟨⟨false, 0, 0⟩, 0⟩ ⟨⟨false, 0, 0⟩, 0⟩ W
    simp only [decide_true, c0] at q2
    clear hx1 hx2 hxf
    simp only [c0] at HP2
    cases right with
    | true =>
      obtain rfl := hm2 rfl
      clear hm2
      go_enter Try.func11, Try.ntmps11
      go_wp2_with (first | (go_at_call 62; (with_reducible refine (HT.out _).mono ?_); rintro e w1 ⟨rfl, b1⟩; obtain ⟨c1, f1⟩ := bcell b1; have z1 := b1.size; (try simp at z1); have l1a : w.heap.size < w1.heap.size := (by omega); have n1a := Nat.ne_of_lt l1a; have d1a := fun o => c1 (w.heap.size) o (by first | omega | (simp; done) | (simp; omega)); clear c1 f1) | (go_at_call 54; (with_reducible refine (HP.out _ (HC.out.below (by (repeat (first | assumption | exact Below.refl _ _ | refine Below.setCell ?_ (by first | omega | (simp; done) | (simp; omega)) _ | refine Below.alloc ?_ (by first | omega | (simp; done) | (simp; omega)) _ | refine Below.drew ?_ | (refine Below.trans ?_ (Below.mono (by assumption) (by first | omega | (simp; done) | (simp; omega))))))))).mono ?_); rintro e w2 ⟨rfl, b2⟩; obtain ⟨c2, f2⟩ := bcell b2; have z2 := b2.size; (try simp at z2); have l2a : w.heap.size < w2.heap.size := (by omega); have n2a := Nat.ne_of_lt l2a; have d2a := fun o => c2 (w.heap.size) o (by first | omega | (simp; done) | (simp; omega)); clear c2 f2) | (go_at_call 56; (with_reducible refine (HR.out _).mono ?_); rintro e w3 ⟨rfl, b3⟩; obtain ⟨c3, f3⟩ := bcell b3; have z3 := b3.size; (try simp at z3); have l3a : w.heap.size < w3.heap.size := (by omega); have n3a := Nat.ne_of_lt l3a; have d3a := fun o => c3 (w.heap.size) o (by first | omega | (simp; done) | (simp; omega)); have l3b : w2.heap.size < w3.heap.size := (by omega); have n3b := Nat.ne_of_lt l3b; have d3b := fun o => c3 (w2.heap.size) o (by first | omega | (simp; done) | (simp; omega)); clear c3 f3) | (go_at_call 51; (with_reducible refine (HA.out _ (HC.out.below (by (repeat (first | assumption | exact Below.refl _ _ | refine Below.setCell ?_ (by first | omega | (simp; done) | (simp; omega)) _ | refine Below.alloc ?_ (by first | omega | (simp; done) | (simp; omega)) _ | refine Below.drew ?_ | (refine Below.trans ?_ (Below.mono (by assumption) (by first | omega | (simp; done) | (simp; omega))))))))).mono ?_); rintro e w8 ⟨rfl, b8⟩; obtain ⟨c8, f8⟩ := bcell b8; have z8 := b8.size; (try simp at z8); clear c8 f8) | (go_at_call 54; (with_reducible refine (HP2.out _ (HC.out.below (by (repeat (first | assumption | exact Below.refl _ _ | refine Below.setCell ?_ (by first | omega | (simp; done) | (simp; omega)) _ | refine Below.alloc ?_ (by first | omega | (simp; done) | (simp; omega)) _ | refine Below.drew ?_ | (refine Below.trans ?_ (Below.mono (by assumption) (by first | omega | (simp; done) | (simp; omega))))))))).mono ?_); rintro e w4 ⟨rfl, b4⟩; obtain ⟨c4, f4⟩ := bcell b4; have z4 := b4.size; (try simp at z4); have l4a : w.heap.size < w4.heap.size := (by omega); have n4a := Nat.ne_of_lt l4a; have d4a := fun o => c4 (w.heap.size) o (by first | omega | (simp; done) | (simp; omega)); have l4b : w2.heap.size < w4.heap.size := (by omega); have n4b := Nat.ne_of_lt l4b; have d4b := fun o => c4 (w2.heap.size) o (by first | omega | (simp; done) | (simp; omega)); clear c4 f4))
      go_ret
      refine ⟨rfl, ?_⟩
      (repeat (first | assumption | exact Below.refl _ _ | refine Below.setCell ?_ (by first | omega | (simp; done) | (simp; omega)) _ | refine Below.alloc ?_ (by first | omega | (simp; done) | (simp; omega)) _ | refine Below.drew ?_ | (refine Below.trans ?_ (Below.mono (by assumption) (by first | omega | (simp; done) | (simp; omega))))))
    | false =>
      clear hm2
      go_enter Try.func11, Try.ntmps11
      go_wp2_with (first | (go_at_call 62; (with_reducible refine (HT.out _).mono ?_); rintro e w1 ⟨rfl, b1⟩; obtain ⟨c1, f1⟩ := bcell b1; have z1 := b1.size; (try simp at z1); have l1a : w.heap.size < w1.heap.size := (by omega); have n1a := Nat.ne_of_lt l1a; have d1a := fun o => c1 (w.heap.size) o (by first | omega | (simp; done) | (simp; omega)); clear c1 f1) | (go_at_call 54; (with_reducible refine (HP.out _ (HC.out.below (by (repeat (first | assumption | exact Below.refl _ _ | refine Below.setCell ?_ (by first | omega | (simp; done) | (simp; omega)) _ | refine Below.alloc ?_ (by first | omega | (simp; done) | (simp; omega)) _ | refine Below.drew ?_ | (refine Below.trans ?_ (Below.mono (by assumption) (by first | omega | (simp; done) | (simp; omega))))))))).mono ?_); rintro e w2 ⟨rfl, b2⟩; obtain ⟨c2, f2⟩ := bcell b2; have z2 := b2.size; (try simp at z2); have l2a : w.heap.size < w2.heap.size := (by omega); have n2a := Nat.ne_of_lt l2a; have d2a := fun o => c2 (w.heap.size) o (by first | omega | (simp; done) | (simp; omega)); clear c2 f2) | (go_at_call 56; (with_reducible refine (HR.out _).mono ?_); rintro e w3 ⟨rfl, b3⟩; obtain ⟨c3, f3⟩ := bcell b3; have z3 := b3.size; (try simp at z3); have l3a : w.heap.size < w3.heap.size := (by omega); have n3a := Nat.ne_of_lt l3a; have d3a := fun o => c3 (w.heap.size) o (by first | omega | (simp; done) | (simp; omega)); have l3b : w2.heap.size < w3.heap.size := (by omega); have n3b := Nat.ne_of_lt l3b; have d3b := fun o => c3 (w2.heap.size) o (by first | omega | (simp; done) | (simp; omega)); clear c3 f3) | (go_at_call 51; (with_reducible refine (HA.out _ (HC.out.below (by (repeat (first | assumption | exact Below.refl _ _ | refine Below.setCell ?_ (by first | omega | (simp; done) | (simp; omega)) _ | refine Below.alloc ?_ (by first | omega | (simp; done) | (simp; omega)) _ | refine Below.drew ?_ | (refine Below.trans ?_ (Below.mono (by assumption) (by first | omega | (simp; done) | (simp; omega))))))))).mono ?_); rintro e w8 ⟨rfl, b8⟩; obtain ⟨c8, f8⟩ := bcell b8; have z8 := b8.size; (try simp at z8); clear c8 f8) | (go_at_call 54; (with_reducible refine (HP2.out _ (HC.out.below (by (repeat (first | assumption | exact Below.refl _ _ | refine Below.setCell ?_ (by first | omega | (simp; done) | (simp; omega)) _ | refine Below.alloc ?_ (by first | omega | (simp; done) | (simp; omega)) _ | refine Below.drew ?_ | (refine Below.trans ?_ (Below.mono (by assumption) (by first | omega | (simp; done) | (simp; omega))))))))).mono ?_); rintro e w4 ⟨rfl, b4⟩; obtain ⟨c4, f4⟩ := bcell b4; have z4 := b4.size; (try simp at z4); have l4a : w.heap.size < w4.heap.size := (by omega); have n4a := Nat.ne_of_lt l4a; have d4a := fun o => c4 (w.heap.size) o (by first | omega | (simp; done) | (simp; omega)); have l4b : w2.heap.size < w4.heap.size := (by omega); have n4b := Nat.ne_of_lt l4b; have d4b := fun o => c4 (w2.heap.size) o (by first | omega | (simp; done) | (simp; omega)); clear c4 f4))
      go_ret
      refine ⟨rfl, ?_⟩
      (repeat (first | assumption | exact Below.refl _ _ | refine Below.setCell ?_ (by first | omega | (simp; done) | (simp; omega)) _ | refine Below.alloc ?_ (by first | omega | (simp; done) | (simp; omega)) _ | refine Below.drew ?_ | (refine Below.trans ?_ (Below.mono (by assumption) (by first | omega | (simp; done) | (simp; omega))))))
  | true =>
    have hxr := hx1 rfl
    clear hx1 hx2
    have h5 := fun w => ntText_any x hxf w
    have hxl := ntText_len x hxf
    have h6 := fun w => refAdParse_any (bs (ntText x)) w (by rw [bs_size]; omega)
    have h7 := fun w => ntRight_any x hxf w
    rw [bs_data] at h6
    rw [hxr] at h7
    unfold GivesAd at h6
    have hb := adParse_ntText x hxr
    generalize adParse (ntText x) = bb at *
    obtain ⟨b, ok⟩ := bb
    simp only at hb h6
    subst hb
    generalize ntText x = tx at *
    have HT2 := Lib.hid h5; have HP3 := Lib.hid h6; have HR2 := Lib.hid h7; clear h5 h6 h7 hxl hxr
    cases right with
    | true =>
      obtain rfl := hm2 rfl
      clear hm2
      go_enter Try.func11, Try.ntmps11
      go_wp2_with (first | (go_at_call 62; (with_reducible refine (HT.out _).mono ?_); rintro e w1 ⟨rfl, b1⟩; obtain ⟨c1, f1⟩ := bcell b1; have z1 := b1.size; (try simp at z1); have l1a : w.heap.size < w1.heap.size := (by omega); have n1a := Nat.ne_of_lt l1a; have d1a := fun o => c1 (w.heap.size) o (by first | omega | (simp; done) | (simp; omega)); clear c1 f1) | (go_at_call 54; (with_reducible refine (HP.out _ (HC.out.below (by (repeat (first | assumption | exact Below.refl _ _ | refine Below.setCell ?_ (by first | omega | (simp; done) | (simp; omega)) _ | refine Below.alloc ?_ (by first | omega | (simp; done) | (simp; omega)) _ | refine Below.drew ?_ | (refine Below.trans ?_ (Below.mono (by assumption) (by first | omega | (simp; done) | (simp; omega))))))))).mono ?_); rintro e w2 ⟨rfl, b2⟩; obtain ⟨c2, f2⟩ := bcell b2; have z2 := b2.size; (try simp at z2); have l2a : w.heap.size < w2.heap.size := (by omega); have n2a := Nat.ne_of_lt l2a; have d2a := fun o => c2 (w.heap.size) o (by first | omega | (simp; done) | (simp; omega)); clear c2 f2) | (go_at_call 56; (with_reducible refine (HR.out _).mono ?_); rintro e w3 ⟨rfl, b3⟩; obtain ⟨c3, f3⟩ := bcell b3; have z3 := b3.size; (try simp at z3); have l3a : w.heap.size < w3.heap.size := (by omega); have n3a := Nat.ne_of_lt l3a; have d3a := fun o => c3 (w.heap.size) o (by first | omega | (simp; done) | (simp; omega)); have l3b : w2.heap.size < w3.heap.size := (by omega); have n3b := Nat.ne_of_lt l3b; have d3b := fun o => c3 (w2.heap.size) o (by first | omega | (simp; done) | (simp; omega)); clear c3 f3) | (go_at_call 51; (with_reducible refine (HA.out _ (HC.out.below (by (repeat (first | assumption | exact Below.refl _ _ | refine Below.setCell ?_ (by first | omega | (simp; done) | (simp; omega)) _ | refine Below.alloc ?_ (by first | omega | (simp; done) | (simp; omega)) _ | refine Below.drew ?_ | (refine Below.trans ?_ (Below.mono (by assumption) (by first | omega | (simp; done) | (simp; omega))))))))).mono ?_); rintro e w8 ⟨rfl, b8⟩; obtain ⟨c8, f8⟩ := bcell b8; have z8 := b8.size; (try simp at z8); clear c8 f8) | (go_at_call 54; (with_reducible refine (HP2.out _ (HC.out.below (by (repeat (first | assumption | exact Below.refl _ _ | refine Below.setCell ?_ (by first | omega | (simp; done) | (simp; omega)) _ | refine Below.alloc ?_ (by first | omega | (simp; done) | (simp; omega)) _ | refine Below.drew ?_ | (refine Below.trans ?_ (Below.mono (by assumption) (by first | omega | (simp; done) | (simp; omega))))))))).mono ?_); rintro e w4 ⟨rfl, b4⟩; obtain ⟨c4, f4⟩ := bcell b4; have z4 := b4.size; (try simp at z4); have l4a : w.heap.size < w4.heap.size := (by omega); have n4a := Nat.ne_of_lt l4a; have d4a := fun o => c4 (w.heap.size) o (by first | omega | (simp; done) | (simp; omega)); have l4b : w2.heap.size < w4.heap.size := (by omega); have n4b := Nat.ne_of_lt l4b; have d4b := fun o => c4 (w2.heap.size) o (by first | omega | (simp; done) | (simp; omega)); clear c4 f4) | (go_at_call 62; (with_reducible refine (HT2.out _).mono ?_); rintro e w5 ⟨rfl, b5⟩; obtain ⟨c5, f5⟩ := bcell b5; have z5 := b5.size; (try simp at z5); have l5a : w.heap.size < w5.heap.size := (by omega); have n5a := Nat.ne_of_lt l5a; have d5a := fun o => c5 (w.heap.size) o (by first | omega | (simp; done) | (simp; omega)); have l5b : w2.heap.size < w5.heap.size := (by omega); have n5b := Nat.ne_of_lt l5b; have d5b := fun o => c5 (w2.heap.size) o (by first | omega | (simp; done) | (simp; omega)); have l5c : w4.heap.size < w5.heap.size := (by omega); have n5c := Nat.ne_of_lt l5c; have d5c := fun o => c5 (w4.heap.size) o (by first | omega | (simp; done) | (simp; omega)); clear c5 f5) | (go_at_call 63; (with_reducible refine (HP3.out _).mono ?_); rintro e w6 ⟨rfl, b6⟩; obtain ⟨c6, f6⟩ := bcell b6; have z6 := b6.size; (try simp at z6); have l6a : w.heap.size < w6.heap.size := (by omega); have n6a := Nat.ne_of_lt l6a; have d6a := fun o => c6 (w.heap.size) o (by first | omega | (simp; done) | (simp; omega)); have l6b : w2.heap.size < w6.heap.size := (by omega); have n6b := Nat.ne_of_lt l6b; have d6b := fun o => c6 (w2.heap.size) o (by first | omega | (simp; done) | (simp; omega)); have l6c : w4.heap.size < w6.heap.size := (by omega); have n6c := Nat.ne_of_lt l6c; have d6c := fun o => c6 (w4.heap.size) o (by first | omega | (simp; done) | (simp; omega)); clear c6 f6) | (go_at_call 56; (with_reducible refine (HR2.out _).mono ?_); rintro e w7 ⟨rfl, b7⟩; obtain ⟨c7, f7⟩ := bcell b7; have z7 := b7.size; (try simp at z7); have l7a : w.heap.size < w7.heap.size := (by omega); have n7a := Nat.ne_of_lt l7a; have d7a := fun o => c7 (w.heap.size) o (by first | omega | (simp; done) | (simp; omega)); clear c7 f7))
      go_ret
      refine ⟨rfl, ?_⟩
      (repeat (first | assumption | exact Below.refl _ _ | refine Below.setCell ?_ (by first | omega | (simp; done) | (simp; omega)) _ | refine Below.alloc ?_ (by first | omega | (simp; done) | (simp; omega)) _ | refine Below.drew ?_ | (refine Below.trans ?_ (Below.mono (by assumption) (by first | omega | (simp; done) | (simp; omega))))))
    | false =>
      clear hm2
      go_enter Try.func11, Try.ntmps11
      go_wp2_with (first | (go_at_call 62; (with_reducible refine (HT.out _).mono ?_); rintro e w1 ⟨rfl, b1⟩; obtain ⟨c1, f1⟩ := bcell b1; have z1 := b1.size; (try simp at z1); have l1a : w.heap.size < w1.heap.size := (by omega); have n1a := Nat.ne_of_lt l1a; have d1a := fun o => c1 (w.heap.size) o (by first | omega | (simp; done) | (simp; omega)); clear c1 f1) | (go_at_call 54; (with_reducible refine (HP.out _ (HC.out.below (by (repeat (first | assumption | exact Below.refl _ _ | refine Below.setCell ?_ (by first | omega | (simp; done) | (simp; omega)) _ | refine Below.alloc ?_ (by first | omega | (simp; done) | (simp; omega)) _ | refine Below.drew ?_ | (refine Below.trans ?_ (Below.mono (by assumption) (by first | omega | (simp; done) | (simp; omega))))))))).mono ?_); rintro e w2 ⟨rfl, b2⟩; obtain ⟨c2, f2⟩ := bcell b2; have z2 := b2.size; (try simp at z2); have l2a : w.heap.size < w2.heap.size := (by omega); have n2a := Nat.ne_of_lt l2a; have d2a := fun o => c2 (w.heap.size) o (by first | omega | (simp; done) | (simp; omega)); clear c2 f2) | (go_at_call 56; (with_reducible refine (HR.out _).mono ?_); rintro e w3 ⟨rfl, b3⟩; obtain ⟨c3, f3⟩ := bcell b3; have z3 := b3.size; (try simp at z3); have l3a : w.heap.size < w3.heap.size := (by omega); have n3a := Nat.ne_of_lt l3a; have d3a := fun o => c3 (w.heap.size) o (by first | omega | (simp; done) | (simp; omega)); have l3b : w2.heap.size < w3.heap.size := (by omega); have n3b := Nat.ne_of_lt l3b; have d3b := fun o => c3 (w2.heap.size) o (by first | omega | (simp; done) | (simp; omega)); clear c3 f3) | (go_at_call 51; (with_reducible refine (HA.out _ (HC.out.below (by (repeat (first | assumption | exact Below.refl _ _ | refine Below.setCell ?_ (by first | omega | (simp; done) | (simp; omega)) _ | refine Below.alloc ?_ (by first | omega | (simp; done) | (simp; omega)) _ | refine Below.drew ?_ | (refine Below.trans ?_ (Below.mono (by assumption) (by first | omega | (simp; done) | (simp; omega))))))))).mono ?_); rintro e w8 ⟨rfl, b8⟩; obtain ⟨c8, f8⟩ := bcell b8; have z8 := b8.size; (try simp at z8); clear c8 f8) | (go_at_call 54; (with_reducible refine (HP2.out _ (HC.out.below (by (repeat (first | assumption | exact Below.refl _ _ | refine Below.setCell ?_ (by first | omega | (simp; done) | (simp; omega)) _ | refine Below.alloc ?_ (by first | omega | (simp; done) | (simp; omega)) _ | refine Below.drew ?_ | (refine Below.trans ?_ (Below.mono (by assumption) (by first | omega | (simp; done) | (simp; omega))))))))).mono ?_); rintro e w4 ⟨rfl, b4⟩; obtain ⟨c4, f4⟩ := bcell b4; have z4 := b4.size; (try simp at z4); have l4a : w.heap.size < w4.heap.size := (by omega); have n4a := Nat.ne_of_lt l4a; have d4a := fun o => c4 (w.heap.size) o (by first | omega | (simp; done) | (simp; omega)); have l4b : w2.heap.size < w4.heap.size := (by omega); have n4b := Nat.ne_of_lt l4b; have d4b := fun o => c4 (w2.heap.size) o (by first | omega | (simp; done) | (simp; omega)); clear c4 f4) | (go_at_call 62; (with_reducible refine (HT2.out _).mono ?_); rintro e w5 ⟨rfl, b5⟩; obtain ⟨c5, f5⟩ := bcell b5; have z5 := b5.size; (try simp at z5); have l5a : w.heap.size < w5.heap.size := (by omega); have n5a := Nat.ne_of_lt l5a; have d5a := fun o => c5 (w.heap.size) o (by first | omega | (simp; done) | (simp; omega)); have l5b : w2.heap.size < w5.heap.size := (by omega); have n5b := Nat.ne_of_lt l5b; have d5b := fun o => c5 (w2.heap.size) o (by first | omega | (simp; done) | (simp; omega)); have l5c : w4.heap.size < w5.heap.size := (by omega); have n5c := Nat.ne_of_lt l5c; have d5c := fun o => c5 (w4.heap.size) o (by first | omega | (simp; done) | (simp; omega)); clear c5 f5) | (go_at_call 63; (with_reducible refine (HP3.out _).mono ?_); rintro e w6 ⟨rfl, b6⟩; obtain ⟨c6, f6⟩ := bcell b6; have z6 := b6.size; (try simp at z6); have l6a : w.heap.size < w6.heap.size := (by omega); have n6a := Nat.ne_of_lt l6a; have d6a := fun o => c6 (w.heap.size) o (by first | omega | (simp; done) | (simp; omega)); have l6b : w2.heap.size < w6.heap.size := (by omega); have n6b := Nat.ne_of_lt l6b; have d6b := fun o => c6 (w2.heap.size) o (by first | omega | (simp; done) | (simp; omega)); have l6c : w4.heap.size < w6.heap.size := (by omega); have n6c := Nat.ne_of_lt l6c; have d6c := fun o => c6 (w4.heap.size) o (by first | omega | (simp; done) | (simp; omega)); clear c6 f6) | (go_at_call 56; (with_reducible refine (HR2.out _).mono ?_); rintro e w7 ⟨rfl, b7⟩; obtain ⟨c7, f7⟩ := bcell b7; have z7 := b7.size; (try simp at z7); have l7a : w.heap.size < w7.heap.size := (by omega); have n7a := Nat.ne_of_lt l7a; have d7a := fun o => c7 (w.heap.size) o (by first | omega | (simp; done) | (simp; omega)); clear c7 f7))
      go_ret
      refine ⟨rfl, ?_⟩
      (repeat (first | assumption | exact Below.refl _ _ | refine Below.setCell ?_ (by first | omega | (simp; done) | (simp; omega)) _ | refine Below.alloc ?_ (by first | omega | (simp; done) | (simp; omega)) _ | refine Below.drew ?_ | (refine Below.trans ?_ (Below.mono (by assumption) (by first | omega | (simp; done) | (simp; omega))))))
end Go.Proofs.Ytecegljipjofmaa
