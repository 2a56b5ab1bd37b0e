/- The laws of peers: what any peer is, written, and what becomes of it. -/
import Derived.Test.YtnohkfbapibmdaaQd4d2a4zlguzl
namespace Go.Proofs.Ytnohkfbapibmdaa
open Go.RowKit
set_option linter.unusedSimpArgs false
set_option linter.unusedVariables false

theorem str_beq17 (s : ByteArray) : (s.toList == s.toList) = true := by simp
theorem c17 : ((0 : Nat) : Int) = 0 := rfl
theorem d17 : ((1 : Nat) : Int) = 1 := rfl
theorem a17a : peNew ⟨⟨false, 0, 1⟩, 80⟩ true 5 = ⟨⟨⟨false, 0, 1⟩, 80⟩, true, 5, 0, 5, 0, 0⟩ := by decide
theorem a17b : pePong ⟨⟨⟨false, 0, 1⟩, 80⟩, true, 5, 0, 5, 0, 0⟩ 30 = ⟨⟨⟨false, 0, 1⟩, 80⟩, true, 5, 0, 5, 30, 0⟩ := by decide
theorem a17c : pePong ⟨⟨⟨false, 0, 1⟩, 80⟩, true, 5, 0, 5, 30, 0⟩ 50 = ⟨⟨⟨false, 0, 1⟩, 80⟩, true, 5, 0, 5, 30, 0⟩ := by decide
theorem a17d : peRight ⟨⟨⟨false, 0, 1⟩, 80⟩, true, 5, 0, 5, 30, 0⟩ = true := by decide +kernel
theorem a17e : peText ⟨⟨⟨false, 0, 1⟩, 80⟩, true, 5, 0, 5, 30, 0⟩ = [105, 110, 32, 48, 46, 48, 46, 48, 46, 49, 58, 56, 48, 32, 115, 105, 110, 99, 101, 32, 53, 32, 112, 111, 105, 110, 116, 115, 32, 48, 32, 112, 105, 110, 103, 32, 51, 48, 32, 119, 111, 114, 107, 32, 48] := by decide +kernel
set_option maxRecDepth 100000 in
set_option maxHeartbeats 8000000 in
theorem awake17_any (w : World) : Calls Try.prog 34 #[] w fun e w' => e = .returned (.bool true) ∧ Below w.heap.size w w' := by
  have h1 := fun w => peNew_any ⟨⟨false, 0, 1⟩, 80⟩ true 5 w
  have h2 := fun w => pePong_any ⟨⟨⟨false, 0, 1⟩, 80⟩, true, 5, 0, 5, 0, 0⟩ 30 w
  have h3 := fun w => pePong_any ⟨⟨⟨false, 0, 1⟩, 80⟩, true, 5, 0, 5, 30, 0⟩ 50 w
  have h4 := fun w => peRight_any ⟨⟨⟨false, 0, 1⟩, 80⟩, true, 5, 0, 5, 30, 0⟩ ⟨by decide, by decide⟩ w
  have h5 := fun w => peText_any ⟨⟨⟨false, 0, 1⟩, 80⟩, true, 5, 0, 5, 30, 0⟩ ⟨⟨⟨by decide, by decide⟩, by decide, by decide⟩, by decide, by decide, by decide, by decide, by decide⟩ w
  rw [a17a] at h1
  rw [a17b] at h2
  rw [a17c] at h3
  rw [a17d] at h4
  rw [a17e] at h5
  simp only [c17, d17] at h1 h2 h3 h4 h5
  have H1 := Lib.hid h1; have H2 := Lib.hid h2; have H3 := Lib.hid h3; have H4 := Lib.hid h4; have H5 := Lib.hid h5
  clear h1 h2 h3 h4 h5
  have e4 : ((bs [105, 110, 32, 48, 46, 48, 46, 48, 46, 49, 58, 56, 48, 32, 115, 105, 110, 99, 101, 32, 53, 32, 112, 111, 105, 110, 116, 115, 32, 48, 32, 112, 105, 110, 103, 32, 51, 48, 32, 119, 111, 114, 107, 32, 48]).toList == [105, 110, 32, 48, 46, 48, 46, 48, 46, 49, 58, 56, 48, 32, 115, 105, 110, 99, 101, 32, 53, 32, 112, 111, 105, 110, 116, 115, 32, 48, 32, 112, 105, 110, 103, 32, 51, 48, 32, 119, 111, 114, 107, 32, 48]) = true := by decide +kernel
  go_enter Try.func34, Try.ntmps34
  go_wp2_with (first | (go_at_call 24; (with_reducible refine (H1.out _).mono ?_); rintro e w1 ⟨rfl, b1⟩; obtain ⟨c1, f1⟩ := bcell b1; have z1 := b1.size; (try simp at z1); clear c1 f1) | (go_at_call 26; (with_reducible refine (H2.out _).mono ?_); rintro e w2 ⟨rfl, b2⟩; obtain ⟨c2, f2⟩ := bcell b2; have z2 := b2.size; (try simp at z2); have d2a := fun o => c2 (w1.heap.size) o (by first | omega | (simp; done) | (simp; omega)); have q2a := fun o => f2 (w1.heap.size) o (by first | omega | (simp; done) | (simp; omega)); clear c2 f2) | (go_at_call 26; (with_reducible refine (H3.out _).mono ?_); rintro e w3 ⟨rfl, b3⟩; obtain ⟨c3, f3⟩ := bcell b3; have z3 := b3.size; (try simp at z3); have d3a := fun o => c3 (w1.heap.size) o (by first | omega | (simp; done) | (simp; omega)); have q3a := fun o => f3 (w1.heap.size) o (by first | omega | (simp; done) | (simp; omega)); clear c3 f3) | (go_at_call 22; (with_reducible refine (H4.out _).mono ?_); rintro e w4 ⟨rfl, b4⟩; obtain ⟨c4, f4⟩ := bcell b4; have z4 := b4.size; (try simp at z4); have d4a := fun o => c4 (w1.heap.size) o (by first | omega | (simp; done) | (simp; omega)); clear c4 f4) | (go_at_call 32; (with_reducible refine (H5.out _).mono ?_); rintro e w5 ⟨rfl, b5⟩; obtain ⟨c5, f5⟩ := bcell b5; have z5 := b5.size; (try simp at z5); have d5a := fun o => c5 (w1.heap.size) o (by first | omega | (simp; done) | (simp; omega)); clear c5 f5))
  go_ret
  refine ⟨rfl, ?_⟩
  (repeat (first | with_reducible assumption | with_reducible exact Below.refl _ _ | with_reducible refine Below.setCell ?_ (by first | omega | (simp; done) | (simp; omega)) _ | with_reducible refine Below.alloc ?_ (by first | omega | (simp; done) | (simp; omega)) _ | with_reducible refine Below.drew ?_ | (with_reducible refine Below.trans ?_ (Below.mono (by with_reducible assumption) (by first | omega | (simp; done) | (simp; omega)))) | (refine Below.trans ?_ (Below.mono (by assumption) (by first | omega | (simp; done) | (simp; omega))))))
set_option maxRecDepth 100000 in
set_option maxHeartbeats 16000000 in
theorem peerTells_any (p : Pe) (hf : p.fits) (n a b : Int) (w : World) : Calls Try.prog 5 #[.agg #[.bool p.en.ad.v6, .int .u64 p.en.ad.hi, .int .u64 p.en.ad.lo, .int .i64 p.en.port, .bool p.came, .int .i64 p.since, .int .i64 p.pts, .int .i64 p.at_, .int .i64 p.ping, .int .i64 p.work], .int .i64 n, .agg #[.int .i64 a, .int .i64 b]] w fun e w' => e = .returned (.bool true) ∧ Below w.heap.size w w' := by
  have HA := Lib.hid (fun w => awake17_any w)
  have h1 := fun w => peRight_any p hf.1.1 w
  have h2 := fun w => refPeRight_any p hf.1.1 w
  have h3 := fun w => peNew_any p.en p.came n w
  have h4 := fun w => refPeNew_any p.en p.came n w
  have h5 := fun w => pePong_any p n w
  have h6 := fun w => refPePong_any p n w
  have h7 := fun w => peWorked_any p n w
  have h8 := fun w => refPeWorked_any p n w
  have h9 := fun w => peBlamed_any p n a b w
  have h10 := fun w => refPeBlamed_any p n a b w
  have HT := Lib.hid (fun w => peText_any p hf w)
  have HT2 := Lib.hid (fun w => refPeText_any p hf w)
  generalize peRight p = rt at *
  generalize peNew p.en p.came n = x1 at *
  generalize pePong p n = x2 at *
  generalize peWorked p n = x3 at *
  generalize peBlamed p n a b = x4 at *
  generalize peText p = t at *
  have e1 := str_beq17 (bs t)
  have H1 := Lib.hid h1; have H2 := Lib.hid h2; have H3 := Lib.hid h3; have H4 := Lib.hid h4; have H5 := Lib.hid h5; have H6 := Lib.hid h6; have H7 := Lib.hid h7; have H8 := Lib.hid h8; have H9 := Lib.hid h9; have H10 := Lib.hid h10
  clear h1 h2 h3 h4 h5 h6 h7 h8 h9 h10
  have q1 := fun W => eqlPe x1 x1 W
  have q2 := fun W => eqlPe x2 x2 W
  have q3 := fun W => eqlPe x3 x3 W
  have q4 := fun W => eqlPe x4 x4 W
  simp only [decide_true] at q1 q2 q3 q4
  have b1 : (rt == rt) = true := by simp
  clear hf
  go_enter Try.func5, Try.ntmps5
  go_wp2_with fail
  go_name_world WWx hWWx
  have ex0 : ∀ Y, (ext WWx Y).cell? ⟨w.heap.size, 0, none⟩ = some (.bool p.en.ad.v6) := by subst hWWx; intro Y; exact (ext_cell _ Y (by first | omega | (simp; done) | (simp; omega))).trans (by first | (simp (disch := first | omega | (simp; omega)) [World.cell?_alloc_past, *]; done) | (simp (disch := first | omega | (simp; omega)) [World.cell?_setCell_far, World.cell?_alloc_past, *]; done) | (simp (disch := first | omega | (simp; omega)) [World.cell?_alloc_past, *]; rfl) | (simp (disch := first | omega | (simp; omega)) [World.cell?_setCell_far, World.cell?_alloc_past, *]; rfl) | (simp [go_sem, *]; done) | (simp (disch := first | omega | (simp; omega) | (simp [go_sem, *]; done)) [go_sem, World.cell?_setCell_far, World.cell?_alloc_past, *]; done))
  have ex1 : ∀ Y, (ext WWx Y).cell? ⟨w.heap.size, 1, none⟩ = some (.int .u64 p.en.ad.hi) := by subst hWWx; intro Y; exact (ext_cell _ Y (by first | omega | (simp; done) | (simp; omega))).trans (by first | (simp (disch := first | omega | (simp; omega)) [World.cell?_alloc_past, *]; done) | (simp (disch := first | omega | (simp; omega)) [World.cell?_setCell_far, World.cell?_alloc_past, *]; done) | (simp (disch := first | omega | (simp; omega)) [World.cell?_alloc_past, *]; rfl) | (simp (disch := first | omega | (simp; omega)) [World.cell?_setCell_far, World.cell?_alloc_past, *]; rfl) | (simp [go_sem, *]; done) | (simp (disch := first | omega | (simp; omega) | (simp [go_sem, *]; done)) [go_sem, World.cell?_setCell_far, World.cell?_alloc_past, *]; done))
  have ex2 : ∀ Y, (ext WWx Y).cell? ⟨w.heap.size, 2, none⟩ = some (.int .u64 p.en.ad.lo) := by subst hWWx; intro Y; exact (ext_cell _ Y (by first | omega | (simp; done) | (simp; omega))).trans (by first | (simp (disch := first | omega | (simp; omega)) [World.cell?_alloc_past, *]; done) | (simp (disch := first | omega | (simp; omega)) [World.cell?_setCell_far, World.cell?_alloc_past, *]; done) | (simp (disch := first | omega | (simp; omega)) [World.cell?_alloc_past, *]; rfl) | (simp (disch := first | omega | (simp; omega)) [World.cell?_setCell_far, World.cell?_alloc_past, *]; rfl) | (simp [go_sem, *]; done) | (simp (disch := first | omega | (simp; omega) | (simp [go_sem, *]; done)) [go_sem, World.cell?_setCell_far, World.cell?_alloc_past, *]; done))
  have ex3 : ∀ Y, (ext WWx Y).cell? ⟨w.heap.size, 3, none⟩ = some (.int .i64 p.en.port) := by subst hWWx; intro Y; exact (ext_cell _ Y (by first | omega | (simp; done) | (simp; omega))).trans (by first | (simp (disch := first | omega | (simp; omega)) [World.cell?_alloc_past, *]; done) | (simp (disch := first | omega | (simp; omega)) [World.cell?_setCell_far, World.cell?_alloc_past, *]; done) | (simp (disch := first | omega | (simp; omega)) [World.cell?_alloc_past, *]; rfl) | (simp (disch := first | omega | (simp; omega)) [World.cell?_setCell_far, World.cell?_alloc_past, *]; rfl) | (simp [go_sem, *]; done) | (simp (disch := first | omega | (simp; omega) | (simp [go_sem, *]; done)) [go_sem, World.cell?_setCell_far, World.cell?_alloc_past, *]; done))
  have ex4 : ∀ Y, (ext WWx Y).cell? ⟨w.heap.size, 4, none⟩ = some (.bool p.came) := by subst hWWx; intro Y; exact (ext_cell _ Y (by first | omega | (simp; done) | (simp; omega))).trans (by first | (simp (disch := first | omega | (simp; omega)) [World.cell?_alloc_past, *]; done) | (simp (disch := first | omega | (simp; omega)) [World.cell?_setCell_far, World.cell?_alloc_past, *]; done) | (simp (disch := first | omega | (simp; omega)) [World.cell?_alloc_past, *]; rfl) | (simp (disch := first | omega | (simp; omega)) [World.cell?_setCell_far, World.cell?_alloc_past, *]; rfl) | (simp [go_sem, *]; done) | (simp (disch := first | omega | (simp; omega) | (simp [go_sem, *]; done)) [go_sem, World.cell?_setCell_far, World.cell?_alloc_past, *]; done))
  have ex5 : ∀ Y, (ext WWx Y).cell? ⟨w.heap.size, 5, none⟩ = some (.int .i64 p.since) := by subst hWWx; intro Y; exact (ext_cell _ Y (by first | omega | (simp; done) | (simp; omega))).trans (by first | (simp (disch := first | omega | (simp; omega)) [World.cell?_alloc_past, *]; done) | (simp (disch := first | omega | (simp; omega)) [World.cell?_setCell_far, World.cell?_alloc_past, *]; done) | (simp (disch := first | omega | (simp; omega)) [World.cell?_alloc_past, *]; rfl) | (simp (disch := first | omega | (simp; omega)) [World.cell?_setCell_far, World.cell?_alloc_past, *]; rfl) | (simp [go_sem, *]; done) | (simp (disch := first | omega | (simp; omega) | (simp [go_sem, *]; done)) [go_sem, World.cell?_setCell_far, World.cell?_alloc_past, *]; done))
  have ex6 : ∀ Y, (ext WWx Y).cell? ⟨w.heap.size, 6, none⟩ = some (.int .i64 p.pts) := by subst hWWx; intro Y; exact (ext_cell _ Y (by first | omega | (simp; done) | (simp; omega))).trans (by first | (simp (disch := first | omega | (simp; omega)) [World.cell?_alloc_past, *]; done) | (simp (disch := first | omega | (simp; omega)) [World.cell?_setCell_far, World.cell?_alloc_past, *]; done) | (simp (disch := first | omega | (simp; omega)) [World.cell?_alloc_past, *]; rfl) | (simp (disch := first | omega | (simp; omega)) [World.cell?_setCell_far, World.cell?_alloc_past, *]; rfl) | (simp [go_sem, *]; done) | (simp (disch := first | omega | (simp; omega) | (simp [go_sem, *]; done)) [go_sem, World.cell?_setCell_far, World.cell?_alloc_past, *]; done))
  have ex7 : ∀ Y, (ext WWx Y).cell? ⟨w.heap.size, 7, none⟩ = some (.int .i64 p.at_) := by subst hWWx; intro Y; exact (ext_cell _ Y (by first | omega | (simp; done) | (simp; omega))).trans (by first | (simp (disch := first | omega | (simp; omega)) [World.cell?_alloc_past, *]; done) | (simp (disch := first | omega | (simp; omega)) [World.cell?_setCell_far, World.cell?_alloc_past, *]; done) | (simp (disch := first | omega | (simp; omega)) [World.cell?_alloc_past, *]; rfl) | (simp (disch := first | omega | (simp; omega)) [World.cell?_setCell_far, World.cell?_alloc_past, *]; rfl) | (simp [go_sem, *]; done) | (simp (disch := first | omega | (simp; omega) | (simp [go_sem, *]; done)) [go_sem, World.cell?_setCell_far, World.cell?_alloc_past, *]; done))
  have ex8 : ∀ Y, (ext WWx Y).cell? ⟨w.heap.size, 8, none⟩ = some (.int .i64 p.ping) := by subst hWWx; intro Y; exact (ext_cell _ Y (by first | omega | (simp; done) | (simp; omega))).trans (by first | (simp (disch := first | omega | (simp; omega)) [World.cell?_alloc_past, *]; done) | (simp (disch := first | omega | (simp; omega)) [World.cell?_setCell_far, World.cell?_alloc_past, *]; done) | (simp (disch := first | omega | (simp; omega)) [World.cell?_alloc_past, *]; rfl) | (simp (disch := first | omega | (simp; omega)) [World.cell?_setCell_far, World.cell?_alloc_past, *]; rfl) | (simp [go_sem, *]; done) | (simp (disch := first | omega | (simp; omega) | (simp [go_sem, *]; done)) [go_sem, World.cell?_setCell_far, World.cell?_alloc_past, *]; done))
  have ex9 : ∀ Y, (ext WWx Y).cell? ⟨w.heap.size, 9, none⟩ = some (.int .i64 p.work) := by subst hWWx; intro Y; exact (ext_cell _ Y (by first | omega | (simp; done) | (simp; omega))).trans (by first | (simp (disch := first | omega | (simp; omega)) [World.cell?_alloc_past, *]; done) | (simp (disch := first | omega | (simp; omega)) [World.cell?_setCell_far, World.cell?_alloc_past, *]; done) | (simp (disch := first | omega | (simp; omega)) [World.cell?_alloc_past, *]; rfl) | (simp (disch := first | omega | (simp; omega)) [World.cell?_setCell_far, World.cell?_alloc_past, *]; rfl) | (simp [go_sem, *]; done) | (simp (disch := first | omega | (simp; omega) | (simp [go_sem, *]; done)) [go_sem, World.cell?_setCell_far, World.cell?_alloc_past, *]; done))
  have ex10 : ∀ Y, (ext WWx Y).cell? ⟨w.heap.size + 1, 0, none⟩ = some (.int .i64 a) := by subst hWWx; intro Y; exact (ext_cell _ Y (by first | omega | (simp; done) | (simp; omega))).trans (by first | (simp (disch := first | omega | (simp; omega)) [World.cell?_alloc_past, *]; done) | (simp (disch := first | omega | (simp; omega)) [World.cell?_setCell_far, World.cell?_alloc_past, *]; done) | (simp (disch := first | omega | (simp; omega)) [World.cell?_alloc_past, *]; rfl) | (simp (disch := first | omega | (simp; omega)) [World.cell?_setCell_far, World.cell?_alloc_past, *]; rfl) | (simp [go_sem, *]; done) | (simp (disch := first | omega | (simp; omega) | (simp [go_sem, *]; done)) [go_sem, World.cell?_setCell_far, World.cell?_alloc_past, *]; done))
  have ex11 : ∀ Y, (ext WWx Y).cell? ⟨w.heap.size + 1, 1, none⟩ = some (.int .i64 b) := by subst hWWx; intro Y; exact (ext_cell _ Y (by first | omega | (simp; done) | (simp; omega))).trans (by first | (simp (disch := first | omega | (simp; omega)) [World.cell?_alloc_past, *]; done) | (simp (disch := first | omega | (simp; omega)) [World.cell?_setCell_far, World.cell?_alloc_past, *]; done) | (simp (disch := first | omega | (simp; omega)) [World.cell?_alloc_past, *]; rfl) | (simp (disch := first | omega | (simp; omega)) [World.cell?_setCell_far, World.cell?_alloc_past, *]; rfl) | (simp [go_sem, *]; done) | (simp (disch := first | omega | (simp; omega) | (simp [go_sem, *]; done)) [go_sem, World.cell?_setCell_far, World.cell?_alloc_past, *]; done))
  have bWx : Below w.heap.size w WWx := by subst hWWx; (repeat (first | assumption | exact Below.refl _ _ | refine Below.setCell ?_ (by first | omega | (simp; done) | (simp; omega)) _ | refine Below.alloc ?_ (by first | omega | (simp; done) | (simp; omega)) _ | refine Below.drew ?_ | (refine Below.trans ?_ (Below.mono (by assumption) (by first | omega | (simp; done) | (simp; omega))))))
  have lWx0 : w.heap.size < WWx.heap.size := by subst hWWx; first | omega | (simp; done) | (simp; omega)
  have lWx1 : w.heap.size + 1 < WWx.heap.size := by subst hWWx; first | omega | (simp; done) | (simp; omega)
  clear hWWx
  try simp only [List.append_eq, List.cons_append, List.nil_append]
  refine wp_region_ext (by kernel_rfl) (by kernel_rfl) ?_
  repeat (go_big_quiet_step ((first | (go_at_call 22; with_reducible exact qe (H1.out _)) | (go_at_call 23; with_reducible exact qe (H2.out _)) | (go_at_call 24; with_reducible exact qe (H3.out _)) | (go_at_call 25; with_reducible exact qe (H4.out _)) | (go_at_call 26; with_reducible exact qe (H5.out _)) | (go_at_call 27; with_reducible exact qe (H6.out _)) | (go_at_call 28; with_reducible exact qe (H7.out _)) | (go_at_call 29; with_reducible exact qe (H8.out _)) | (go_at_call 30; with_reducible exact qe (H9.out _)) | (go_at_call 31; with_reducible exact qe (H10.out _)) | (go_at_call 32; with_reducible exact qe (HT.out _)) | (go_at_call 33; with_reducible exact qe (HT2.out _)) | (go_at_call 34; with_reducible exact qe (HA.out _)))))
  refine wpQuiet_nil ?_
  intro _ hw'
  obtain ⟨x, hw''⟩ := hw'
  subst hw''
  have px0 := ex0 x
  have px1 := ex1 x
  have px2 := ex2 x
  have px3 := ex3 x
  have px4 := ex4 x
  have px5 := ex5 x
  have px6 := ex6 x
  have px7 := ex7 x
  have px8 := ex8 x
  have px9 := ex9 x
  have px10 := ex10 x
  have px11 := ex11 x
  clear ex0 ex1 ex2 ex3 ex4 ex5 ex6 ex7 ex8 ex9 ex10 ex11
  have bwx := bWx.trans ((ext_below WWx x).mono bWx.size)
  have zwx := bwx.size
  have zex := (ext_below WWx x).size
  go_wp2_with fail
  go_ret
  exact ⟨rfl, bwx⟩
end Go.Proofs.Ytnohkfbapibmdaa
