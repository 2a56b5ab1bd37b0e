/- Texts put together: LawSiege, LawSiegeB. No condition. -/
import Derived.Test.YtppmjbnhghaffaaUnl
/- The law of sieges: awake. No condition. -/
namespace Go.Proofs.Ytppmjbnhghaffaa
open Go.RowKit

set_option maxRecDepth 100000 in
set_option maxHeartbeats 16000000 in
theorem awake22_any (w : World) : Calls Try.prog 76 #[] w fun e w' => e = .returned (.bool true) ∧ Below w.heap.size w w' := by
  have AT := Lib.hid (fun (p q : Int) (w : World) => at22_any p q w)
  have f1 : (p22 1 3).fits := p22_fits (by omega) (by omega)
  have f2 : (p22 2 5).fits := p22_fits (by omega) (by omega)
  have f3 : (p22 3 9).fits := p22_fits (by omega) (by omega)
  have f4 : (p22 4 8).fits := p22_fits (by omega) (by omega)
  have hz : ∀ W : World, ReadsL peV 10 W (.slice none 0 0) [] := fun W => ⟨rfl, by simp, Or.inl ⟨rfl, none, 0, rfl⟩⟩
  have H1 : Hid (∀ W, Calls Try.prog 79 #[.slice none 0 0, .agg #[.bool false, .int .u64 0, .int .u64 1, .int .i64 1, .bool true, .int .i64 1, .int .i64 0, .int .i64 0, .int .i64 3, .int .i64 0], .agg #[.int .i64 1, .int .i64 0, .int .i64 1, .int .i64 0, .int .i64 0, .int .u64 7]] W fun e w' => ∃ r, e = .returned (.tuple #[r, .agg #[.bool false, .int .u64 0, .int .u64 0, .int .i64 0], .int .i64 0]) ∧ ReadsL peV 10 w' r [p22 1 3] ∧ Below W.heap.size W w') := fun W => by
    have := arrive_any (.slice none 0 0) [] (by simp) (p22 1 3) t22 t22_fits W (hz W) (by simp)
    rw [a22_1.1, a22_1.2.1, a22_1.2.2] at this; exact this
  have H2 : Hid (∀ (W : World) (r : Value), ReadsL peV 10 W r [p22 1 3] → Calls Try.prog 79 #[r, .agg #[.bool false, .int .u64 0, .int .u64 1, .int .i64 2, .bool true, .int .i64 2, .int .i64 0, .int .i64 0, .int .i64 5, .int .i64 0], .agg #[.int .i64 1, .int .i64 0, .int .i64 1, .int .i64 0, .int .i64 0, .int .u64 7]] W fun e w' => ∃ q, e = .returned (.tuple #[q, .agg #[.bool false, .int .u64 0, .int .u64 0, .int .i64 0], .int .i64 5]) ∧ Below W.heap.size W w') := fun W r hr => by
    have := arrive_any r [p22 1 3] (by simpa using f1) (p22 2 5) t22 t22_fits W hr (by simp)
    rw [a22_2.1, a22_2.2] at this
    exact this.mono fun e w' ⟨q, he, _, hb⟩ => ⟨q, he, hb⟩
  have H3 : Hid (∀ (W : World) (r : Value) (b : Nat), ReadsL peV 10 W r [p22 1 3] → BlockIs W b [.bool false, .int .u64 0, .int .u64 1, .int .i64 3, .bool true, .int .i64 3, .int .i64 0, .int .i64 0, .int .i64 9, .int .i64 0, .bool false, .int .u64 0, .int .u64 1, .int .i64 4, .bool true, .int .i64 4, .int .i64 0, .int .i64 0, .int .i64 8, .int .i64 0] 66 → Calls Try.prog 81 #[r, .slice (some ⟨b, 0, none⟩) 2 2, .agg #[.int .i64 1, .int .i64 0, .int .i64 1, .int .i64 0, .int .i64 0, .int .u64 7]] W fun e w' => ∃ q, e = .returned q ∧ ReadsL peV 10 w' q [p22 1 3] ∧ Below W.heap.size W w') := fun W r b hr hB => by
    have hB' : BlockIs W b ([p22 3 9, p22 4 8].flatMap peV) 66 := hB
    have := run_any r (.slice (some ⟨b, 0, none⟩) 2 2) [p22 1 3] [p22 3 9, p22 4 8] (by simpa using f1) (fun x hx => by simp only [List.mem_cons, List.not_mem_nil, or_false] at hx; rcases hx with rfl | rfl; exact f3; exact f4) t22 t22_fits W hr (reads_blkC hB' (by decide) (by decide) (by decide)) (by decide)
    rw [a22_3] at this; exact this
  have H4 : Hid (∀ (W : World) (r : Value) (b : Nat), ReadsL peV 10 W r [p22 1 3] → BlockIs W b [.bool false, .int .u64 0, .int .u64 1, .int .i64 3, .bool true, .int .i64 3, .int .i64 0, .int .i64 0, .int .i64 9, .int .i64 0] 66 → Calls Try.prog 77 #[r, .slice (some ⟨b, 0, none⟩) 1 1, .int .i64 0, .agg #[.int .i64 1, .int .i64 0, .int .i64 1, .int .i64 0, .int .i64 0, .int .u64 7]] W fun e w' => e = .returned (.bool true) ∧ Below W.heap.size W w') := fun W r b hr hB => by
    have hB' : BlockIs W b ([p22 3 9].flatMap peV) 66 := hB
    have := safe_any r (.slice (some ⟨b, 0, none⟩) 1 1) [p22 1 3] [p22 3 9] (by simpa using f1) (by simpa using f3) 0 (by decide) t22 t22_fits W hr (reads_blkC hB' (by decide) (by decide) (by decide)) (by decide)
    rw [a22_4] at this; exact this
  clear f1 f2 f3 f4 hz
  go_enter Try.func76, Try.ntmps76
  go_upto_region 2 with fail
  go_name_world W0 hW0
  obtain ⟨B, hB⟩ : ∃ B, B = w.heap.size := ⟨_, rfl⟩
  have hS0 : BlockIs W0 B [.int .i64 1, .int .i64 0, .int .i64 1, .int .i64 0, .int .i64 0, .int .u64 7] 105 := by subst hW0 hB; exact BlockIs.newAt' _ _ _ (by simp)
  have b0 : Below w.heap.size w W0 := by subst hW0; (repeat (first | with_reducible assumption | with_reducible exact Below.refl _ _ | with_reducible refine Below.setCell ?_ (by first | omega | (simp; done) | (simp; omega)) _ | with_reducible refine Below.alloc ?_ (by first | omega | (simp; done) | (simp; omega)) _ | with_reducible refine Below.drew ?_ | (with_reducible refine Below.trans ?_ (Below.mono (by with_reducible assumption) (by first | omega | (simp; done) | (simp; omega)))) | (refine Below.trans ?_ (Below.mono (by assumption) (by first | omega | (simp; done) | (simp; omega))))))
  rw [← hB]
  have HS0 := Lib.hid hS0; have HB0 := Lib.hid b0
  have hl0 := hS0.lt
  have n0 : B ≠ W0.heap.size := by omega
  have m0 : W0.heap.size ≠ B := by omega
  have s0 := hS0.cell (i := 0) rfl; have s1 := hS0.cell (i := 1) rfl; have s2 := hS0.cell (i := 2) rfl; have s3 := hS0.cell (i := 3) rfl; have s4 := hS0.cell (i := 4) rfl; have s5 := hS0.cell (i := 5) rfl
  clear hW0 hB hS0 b0
  go_region_held3 (fun w' => w'.cell? ⟨B, 0, none⟩ = some (.int .i64 1) ∧ w'.cell? ⟨B, 1, none⟩ = some (.int .i64 0) ∧ w'.cell? ⟨B, 2, none⟩ = some (.int .i64 1) ∧ w'.cell? ⟨B, 3, none⟩ = some (.int .i64 0) ∧ w'.cell? ⟨B, 4, none⟩ = some (.int .i64 0) ∧ w'.cell? ⟨B, 5, none⟩ = some (.int .u64 7)) (first | go_keep | (simp (disch := omega) [*]; done)) (first | (go_at_call 117; (with_reducible refine ((AT.out 1 3) _).mono ?_); rintro e w1 ⟨rfl, b1⟩; obtain ⟨c1, f1⟩ := bcell b1; have z1 := b1.size; (try simp at z1); have d1 := fun o => c1 B o (by first | omega | (simp; done) | (simp; omega)); clear c1 f1; have n1 : B ≠ w1.heap.size := (by omega); have m1 : w1.heap.size ≠ B := (by omega)) | (go_at_call 79; (with_reducible refine (H1.out _).mono ?_); rintro e w2 ⟨r2, rfl, rd2, b2⟩; obtain ⟨c2, f2⟩ := bcell b2; have z2 := b2.size; (try simp at z2); have d2 := fun o => c2 B o (by first | omega | (simp; done) | (simp; omega)); clear c2 f2; have n2 : B ≠ w2.heap.size := (by omega); have m2 : w2.heap.size ≠ B := (by omega); (first | (have hE2 : BlockIs w2 w1.heap.size [.bool false, .int .u64 0, .int .u64 0, .int .i64 0] 34 := BlockIs.below (BlockIs.newAt' w1 _ _ rfl) b2; have x0 := hE2.cell (i := 0) rfl; have x1 := hE2.cell (i := 1) rfl; have x2 := hE2.cell (i := 2) rfl; have x3 := hE2.cell (i := 3) rfl; have lE := hE2.lt; have fE := hE2.frozen) | (have hE2 : BlockIs w2 W0.heap.size [.bool false, .int .u64 0, .int .u64 0, .int .i64 0] 34 := BlockIs.below (BlockIs.below (BlockIs.drew' (BlockIs.newAt' W0 _ _ rfl)) b1) b2; have x0 := hE2.cell (i := 0) rfl; have x1 := hE2.cell (i := 1) rfl; have x2 := hE2.cell (i := 2) rfl; have x3 := hE2.cell (i := 3) rfl; have lE := hE2.lt; have fE := hE2.frozen) | (have hE2 : BlockIs w2 W0.heap.size [.bool false, .int .u64 0, .int .u64 0, .int .i64 0] 34 := BlockIs.below (BlockIs.below (BlockIs.newAt' W0.drew _ _ rfl) b1) b2; have x0 := hE2.cell (i := 0) rfl; have x1 := hE2.cell (i := 1) rfl; have x2 := hE2.cell (i := 2) rfl; have x3 := hE2.cell (i := 3) rfl; have lE := hE2.lt; have fE := hE2.frozen) | skip)) | fail)
  all_goals
    go_wp2_with fail
    go_name_world W3 hW3
    have hb03 : Below W0.heap.size W0 W3 := by subst hW3; (repeat (first | with_reducible assumption | with_reducible exact Below.refl _ _ | with_reducible refine Below.setCell ?_ (by first | omega | (simp; done) | (simp; omega)) _ | with_reducible refine Below.alloc ?_ (by first | omega | (simp; done) | (simp; omega)) _ | with_reducible refine Below.drew ?_ | (with_reducible refine Below.trans ?_ (Below.mono (by with_reducible assumption) (by first | omega | (simp; done) | (simp; omega)))) | (refine Below.trans ?_ (Below.mono (by assumption) (by first | omega | (simp; done) | (simp; omega))))))
    have hR3 : ReadsL peV 10 W3 r2 [p22 1 3] := by subst hW3; first | exact readsP_end rd2 hE2 _ _ _ _ | exact ReadsL.below rd2 (by (repeat (first | with_reducible assumption | with_reducible exact Below.refl _ _ | with_reducible refine Below.setCell ?_ (by first | omega | (simp; done) | (simp; omega)) _ | with_reducible refine Below.alloc ?_ (by first | omega | (simp; done) | (simp; omega)) _ | with_reducible refine Below.drew ?_ | (with_reducible refine Below.trans ?_ (Below.mono (by with_reducible assumption) (by first | omega | (simp; done) | (simp; omega)))) | (refine Below.trans ?_ (Below.mono (by assumption) (by first | omega | (simp; done) | (simp; omega)))))))
    have HR3 := Lib.hid hR3; have HB3 := Lib.hid (below2 HB0.out hb03)
    have hS3 := HS0.out.below hb03
    have HS3 := Lib.hid hS3
    have hl3 := hS3.lt
    have n3 : B ≠ W3.heap.size := by omega
    have m3 : W3.heap.size ≠ B := by omega
    clear s0 s1 s2 s3 s4 s5 d1 d2 z1 z2 hW3 hb03 hR3 n1 m1 n2 m2
    try clear x0 x1 x2 x3 lE fE hE2
    clear b2 rd2
    clear b1 HB0 HS0 hl0 n0 m0
    have s0 := hS3.cell (i := 0) rfl; have s1 := hS3.cell (i := 1) rfl; have s2 := hS3.cell (i := 2) rfl; have s3 := hS3.cell (i := 3) rfl; have s4 := hS3.cell (i := 4) rfl; have s5 := hS3.cell (i := 5) rfl
    clear hS3
    go_region_held3 (fun w' => w'.cell? ⟨B, 0, none⟩ = some (.int .i64 1) ∧ w'.cell? ⟨B, 1, none⟩ = some (.int .i64 0) ∧ w'.cell? ⟨B, 2, none⟩ = some (.int .i64 1) ∧ w'.cell? ⟨B, 3, none⟩ = some (.int .i64 0) ∧ w'.cell? ⟨B, 4, none⟩ = some (.int .i64 0) ∧ w'.cell? ⟨B, 5, none⟩ = some (.int .u64 7)) (first | go_keep | (simp (disch := omega) [*]; done)) (first | (go_at_call 117; (with_reducible refine ((AT.out 2 5) _).mono ?_); rintro e w1 ⟨rfl, b1⟩; obtain ⟨c1, f1⟩ := bcell b1; have z1 := b1.size; (try simp at z1); have d1 := fun o => c1 B o (by first | omega | (simp; done) | (simp; omega)); clear c1 f1; have n1 : B ≠ w1.heap.size := (by omega); have m1 : w1.heap.size ≠ B := (by omega)) | (go_at_call 79; (with_reducible refine (H2.out _ _ (ReadsL.below HR3.out (by (repeat (first | with_reducible assumption | with_reducible exact Below.refl _ _ | with_reducible refine Below.setCell ?_ (by first | omega | (simp; done) | (simp; omega)) _ | with_reducible refine Below.alloc ?_ (by first | omega | (simp; done) | (simp; omega)) _ | with_reducible refine Below.drew ?_ | (with_reducible refine Below.trans ?_ (Below.mono (by with_reducible assumption) (by first | omega | (simp; done) | (simp; omega)))) | (refine Below.trans ?_ (Below.mono (by assumption) (by first | omega | (simp; done) | (simp; omega))))))))).mono ?_); rintro e w2 ⟨r4, rfl, b2⟩; obtain ⟨c2, f2⟩ := bcell b2; have z2 := b2.size; (try simp at z2); have d2 := fun o => c2 B o (by first | omega | (simp; done) | (simp; omega)); clear c2 f2; have n2 : B ≠ w2.heap.size := (by omega); have m2 : w2.heap.size ≠ B := (by omega); (first | (have hE2 : BlockIs w2 w1.heap.size [.bool false, .int .u64 0, .int .u64 0, .int .i64 0] 34 := BlockIs.below (BlockIs.newAt' w1 _ _ rfl) b2; have x0 := hE2.cell (i := 0) rfl; have x1 := hE2.cell (i := 1) rfl; have x2 := hE2.cell (i := 2) rfl; have x3 := hE2.cell (i := 3) rfl; have lE := hE2.lt; have fE := hE2.frozen) | (have hE2 : BlockIs w2 W3.heap.size [.bool false, .int .u64 0, .int .u64 0, .int .i64 0] 34 := BlockIs.below (BlockIs.below (BlockIs.drew' (BlockIs.newAt' W3 _ _ rfl)) b1) b2; have x0 := hE2.cell (i := 0) rfl; have x1 := hE2.cell (i := 1) rfl; have x2 := hE2.cell (i := 2) rfl; have x3 := hE2.cell (i := 3) rfl; have lE := hE2.lt; have fE := hE2.frozen) | (have hE2 : BlockIs w2 W3.heap.size [.bool false, .int .u64 0, .int .u64 0, .int .i64 0] 34 := BlockIs.below (BlockIs.below (BlockIs.newAt' W3.drew _ _ rfl) b1) b2; have x0 := hE2.cell (i := 0) rfl; have x1 := hE2.cell (i := 1) rfl; have x2 := hE2.cell (i := 2) rfl; have x3 := hE2.cell (i := 3) rfl; have lE := hE2.lt; have fE := hE2.frozen) | skip)) | fail)
    all_goals
      go_wp2_with fail
      go_name_world W4 hW4
      have hb34 : Below W3.heap.size W3 W4 := by subst hW4; (repeat (first | with_reducible assumption | with_reducible exact Below.refl _ _ | with_reducible refine Below.setCell ?_ (by first | omega | (simp; done) | (simp; omega)) _ | with_reducible refine Below.alloc ?_ (by first | omega | (simp; done) | (simp; omega)) _ | with_reducible refine Below.drew ?_ | (with_reducible refine Below.trans ?_ (Below.mono (by with_reducible assumption) (by first | omega | (simp; done) | (simp; omega)))) | (refine Below.trans ?_ (Below.mono (by assumption) (by first | omega | (simp; done) | (simp; omega))))))
      have HR4 := Lib.hid (ReadsL.below HR3.out hb34); have HB4 := Lib.hid (below2 HB3.out hb34)
      have hS4 := HS3.out.below hb34
      have HS4 := Lib.hid hS4
      have hl4 := hS4.lt
      have n4 : B ≠ W4.heap.size := by omega
      have m4 : W4.heap.size ≠ B := by omega
      clear s0 s1 s2 s3 s4 s5 d1 d2 z1 z2 hW4 hb34 n1 m1 n2 m2
      try clear x0 x1 x2 x3 lE fE hE2
      clear b2
      clear b1 HB3 HS3 hl3 n3 m3 HR3
      have s0 := hS4.cell (i := 0) rfl; have s1 := hS4.cell (i := 1) rfl; have s2 := hS4.cell (i := 2) rfl; have s3 := hS4.cell (i := 3) rfl; have s4 := hS4.cell (i := 4) rfl; have s5 := hS4.cell (i := 5) rfl
      clear hS4
      go_region_held3 (fun w' => w'.cell? ⟨B, 0, none⟩ = some (.int .i64 1) ∧ w'.cell? ⟨B, 1, none⟩ = some (.int .i64 0) ∧ w'.cell? ⟨B, 2, none⟩ = some (.int .i64 1) ∧ w'.cell? ⟨B, 3, none⟩ = some (.int .i64 0) ∧ w'.cell? ⟨B, 4, none⟩ = some (.int .i64 0) ∧ w'.cell? ⟨B, 5, none⟩ = some (.int .u64 7)) (first | go_keep | (simp (disch := omega) [*]; done)) (first | (go_at_call 117; (with_reducible refine ((AT.out 3 9) _).mono ?_); rintro e w1 ⟨rfl, b1⟩; obtain ⟨c1, f1⟩ := bcell b1; have z1 := b1.size; (try simp at z1); have d1 := fun o => c1 B o (by first | omega | (simp; done) | (simp; omega)); clear c1 f1; have n1 : B ≠ w1.heap.size := (by omega); have m1 : w1.heap.size ≠ B := (by omega)) | (go_at_call 117; (with_reducible refine ((AT.out 4 8) _).mono ?_); rintro e w2 ⟨rfl, b2⟩; obtain ⟨c2, f2⟩ := bcell b2; have z2 := b2.size; (try simp at z2); have d2 := fun o => c2 B o (by first | omega | (simp; done) | (simp; omega)); clear c2 f2; have n2 : B ≠ w2.heap.size := (by omega); have m2 : w2.heap.size ≠ B := (by omega)) | (go_at_call 81; (with_reducible refine (H3.out _ _ _ (ReadsL.below HR4.out (by (repeat (first | with_reducible assumption | with_reducible exact Below.refl _ _ | with_reducible refine Below.setCell ?_ (by first | omega | (simp; done) | (simp; omega)) _ | with_reducible refine Below.alloc ?_ (by first | omega | (simp; done) | (simp; omega)) _ | with_reducible refine Below.drew ?_ | (with_reducible refine Below.trans ?_ (Below.mono (by with_reducible assumption) (by first | omega | (simp; done) | (simp; omega)))) | (refine Below.trans ?_ (Below.mono (by assumption) (by first | omega | (simp; done) | (simp; omega)))))))) ?_).mono ?_); (exact BlockIs.newAt' _ _ _ rfl); rintro e w3 ⟨r5, rfl, rd5, b3⟩; obtain ⟨hm5, a5, c5, rfl, h5⟩ := pes_open rd5; have H5 := Lib.hid (h5 (by simp)); clear h5; obtain ⟨c3, f3⟩ := bcell b3; have z3 := b3.size; (try simp at z3); have d3 := fun o => c3 B o (by first | omega | (simp; done) | (simp; omega)); clear c3 f3; have n3 : B ≠ w3.heap.size := (by omega); have m3 : w3.heap.size ≠ B := (by omega)) | fail)
      go_wp2_with fail
      go_name_world W5 hW5
      obtain ⟨b5, o5, rfl, hc5, hlt5, hp5⟩ := H5.out
      have y5 : w3.cell? ⟨b5, o5 + 3, none⟩ = some (.int .i64 1) := (hp5 0 (p22 1 3) rfl).2.2.2.1
      have x5 : W5.cell? ⟨b5, o5 + 3, none⟩ = some (.int .i64 1) := by subst hW5; simpa using y5
      have l5 : b5 < W5.heap.size := by subst hW5; simpa using hlt5
      have hb45 : Below W4.heap.size W4 W5 := by subst hW5; (repeat (first | with_reducible assumption | with_reducible exact Below.refl _ _ | with_reducible refine Below.setCell ?_ (by first | omega | (simp; done) | (simp; omega)) _ | with_reducible refine Below.alloc ?_ (by first | omega | (simp; done) | (simp; omega)) _ | with_reducible refine Below.drew ?_ | (with_reducible refine Below.trans ?_ (Below.mono (by with_reducible assumption) (by first | omega | (simp; done) | (simp; omega)))) | (refine Below.trans ?_ (Below.mono (by assumption) (by first | omega | (simp; done) | (simp; omega))))))
      have HR5 := Lib.hid (ReadsL.below HR4.out hb45); have HB5 := Lib.hid (below2 HB4.out hb45)
      have hS5 := HS4.out.below hb45
      have l0 := hS5.lt
      clear s0 s1 s2 s3 s4 s5 d1 d2 d3 z1 z2 z3 hW5 hb45 n1 m1 n2 m2 n3 m3 y5 hp5 hlt5 H5
      clear b3 rd5
      clear b2
      clear b1 HB4 HS4 hl4 n4 m4 HR4
      have s0 := hS5.cell (i := 0) rfl; have s1 := hS5.cell (i := 1) rfl; have s2 := hS5.cell (i := 2) rfl; have s3 := hS5.cell (i := 3) rfl; have s4 := hS5.cell (i := 4) rfl; have s5 := hS5.cell (i := 5) rfl
      clear hS5
      go_region_held3 (fun w' => w'.cell? ⟨B, 0, none⟩ = some (.int .i64 1) ∧ w'.cell? ⟨B, 1, none⟩ = some (.int .i64 0) ∧ w'.cell? ⟨B, 2, none⟩ = some (.int .i64 1) ∧ w'.cell? ⟨B, 3, none⟩ = some (.int .i64 0) ∧ w'.cell? ⟨B, 4, none⟩ = some (.int .i64 0) ∧ w'.cell? ⟨B, 5, none⟩ = some (.int .u64 7) ∧ w'.cell? ⟨b5, o5 + 3, none⟩ = some (.int .i64 1)) (first | go_keep | (simp (disch := omega) [*]; done)) (first | (go_at_call 117; (with_reducible refine ((AT.out 3 9) _).mono ?_); rintro e w1 ⟨rfl, b1⟩; obtain ⟨c1, f1⟩ := bcell b1; have z1 := b1.size; (try simp at z1); have d1 := fun o => c1 B o (by first | omega | (simp; done) | (simp; omega)); have db51 := fun o => c1 b5 o (by first | omega | (simp; done) | (simp; omega)); clear c1 f1; have n1 : B ≠ w1.heap.size := (by omega); have m1 : w1.heap.size ≠ B := (by omega)) | (go_at_call 77; (with_reducible refine (H4.out _ _ _ (ReadsL.below HR5.out (by (repeat (first | with_reducible assumption | with_reducible exact Below.refl _ _ | with_reducible refine Below.setCell ?_ (by first | omega | (simp; done) | (simp; omega)) _ | with_reducible refine Below.alloc ?_ (by first | omega | (simp; done) | (simp; omega)) _ | with_reducible refine Below.drew ?_ | (with_reducible refine Below.trans ?_ (Below.mono (by with_reducible assumption) (by first | omega | (simp; done) | (simp; omega)))) | (refine Below.trans ?_ (Below.mono (by assumption) (by first | omega | (simp; done) | (simp; omega)))))))) ?_).mono ?_); (exact BlockIs.newAt' _ _ _ rfl); rintro e w2 ⟨rfl, b2⟩; obtain ⟨c2, f2⟩ := bcell b2; have z2 := b2.size; (try simp at z2); have d2 := fun o => c2 B o (by first | omega | (simp; done) | (simp; omega)); have db52 := fun o => c2 b5 o (by first | omega | (simp; done) | (simp; omega)); clear c2 f2; have n2 : B ≠ w2.heap.size := (by omega); have m2 : w2.heap.size ≠ B := (by omega)) | fail)
      all_goals
        go_wp2_with fail
        go_ret
        refine ⟨rfl, below2 HB5.out ?_⟩
        (repeat (first | with_reducible assumption | with_reducible exact Below.refl _ _ | with_reducible refine Below.setCell ?_ (by first | omega | (simp; done) | (simp; omega)) _ | with_reducible refine Below.alloc ?_ (by first | omega | (simp; done) | (simp; omega)) _ | with_reducible refine Below.drew ?_ | (with_reducible refine Below.trans ?_ (Below.mono (by with_reducible assumption) (by first | omega | (simp; done) | (simp; omega)))) | (refine Below.trans ?_ (Below.mono (by assumption) (by first | omega | (simp; done) | (simp; omega))))))
end Go.Proofs.Ytppmjbnhghaffaa
/- The law of sieges: told, step by step. No condition. -/
namespace Go.Proofs.Ytppmjbnhghaffaa
open Go.RowKit
set_option linter.unusedSimpArgs false
set_option linter.unusedVariables false

set_option maxRecDepth 100000 in
set_option maxHeartbeats 16000000 in
theorem siegeTells_any (v u : Value) (l news : List Pe) (t : St) (w : World) (h : ReadsL peV 10 w v l) (h2 : ReadsL peV 10 w u news) (hl : ∀ x ∈ l, x.fits) (hm : ∀ x ∈ news, x.fits) (ht : t.fits) :
    Calls Try.prog 12 #[v, u, .agg #[.int .i64 t.most, .int .i64 t.q.group, .int .i64 t.q.ping, .int .i64 t.q.work, .int .i64 t.q.time, .int .u64 t.s]] w fun e w' => e = .returned (.bool true) ∧ Below w.heap.size w w' := by
  have HV := Lib.hid h; have HU := Lib.hid h2
  obtain ⟨hm1, p, c, rfl, h3⟩ := pes_open h
  obtain ⟨hm2, pu, cu, rfl, h32⟩ := pes_open h2
  clear h h2
  have HA := Lib.hid (fun w => awake22_any w)
  rcases Int.lt_or_le 20 (l.length : Int) with hlen | hlen
  · go_enter Try.func12, Try.ntmps12
    go_wp2_with (go_at_call 76; (with_reducible refine (HA.out _).mono ?_); rintro e w2 ⟨rfl, b2⟩; obtain ⟨c2, f2⟩ := bcell b2; have z2 := b2.size; (try simp at z2); clear c2 f2)
    go_ret
    refine ⟨rfl, ?_⟩
    (repeat (first | with_reducible assumption | with_reducible exact Below.refl _ _ | with_reducible refine Below.setCell ?_ (by first | omega | (simp; done) | (simp; omega)) _ | with_reducible refine Below.alloc ?_ (by first | omega | (simp; done) | (simp; omega)) _ | with_reducible refine Below.drew ?_ | (with_reducible refine Below.trans ?_ (Below.mono (by with_reducible assumption) (by first | omega | (simp; done) | (simp; omega)))) | (refine Below.trans ?_ (Below.mono (by assumption) (by first | omega | (simp; done) | (simp; omega))))))
  rcases Int.lt_or_le 20 (news.length : Int) with hlen2 | hlen2
  · go_enter Try.func12, Try.ntmps12
    go_wp2_with (go_at_call 76; (with_reducible refine (HA.out _).mono ?_); rintro e w2 ⟨rfl, b2⟩; obtain ⟨c2, f2⟩ := bcell b2; have z2 := b2.size; (try simp at z2); clear c2 f2)
    go_ret
    refine ⟨rfl, ?_⟩
    (repeat (first | with_reducible assumption | with_reducible exact Below.refl _ _ | with_reducible refine Below.setCell ?_ (by first | omega | (simp; done) | (simp; omega)) _ | with_reducible refine Below.alloc ?_ (by first | omega | (simp; done) | (simp; omega)) _ | with_reducible refine Below.drew ?_ | (with_reducible refine Below.trans ?_ (Below.mono (by with_reducible assumption) (by first | omega | (simp; done) | (simp; omega)))) | (refine Below.trans ?_ (Below.mono (by assumption) (by first | omega | (simp; done) | (simp; omega))))))
  have hn : l.length + news.length ≤ 900000 := by omega
  go_enter Try.func12, Try.ntmps12
  go_upto_region 3 with fail
  go_name_world W0 hW0
  obtain ⟨B, hB⟩ : ∃ B, B = w.heap.size := ⟨_, rfl⟩
  have hS0 : BlockIs W0 B [.int .i64 t.most, .int .i64 t.q.group, .int .i64 t.q.ping, .int .i64 t.q.work, .int .i64 t.q.time, .int .u64 t.s] 105 := by subst hW0 hB; exact BlockIs.newAt' _ _ _ (by simp)
  have b0 : Below w.heap.size w W0 := by subst hW0; (repeat (first | with_reducible assumption | with_reducible exact Below.refl _ _ | with_reducible refine Below.setCell ?_ (by first | omega | (simp; done) | (simp; omega)) _ | with_reducible refine Below.alloc ?_ (by first | omega | (simp; done) | (simp; omega)) _ | with_reducible refine Below.drew ?_ | (with_reducible refine Below.trans ?_ (Below.mono (by with_reducible assumption) (by first | omega | (simp; done) | (simp; omega)))) | (refine Below.trans ?_ (Below.mono (by assumption) (by first | omega | (simp; done) | (simp; omega))))))
  rw [← hB]
  have HS0 := Lib.hid hS0; have HB0 := Lib.hid b0
  clear hW0 hB hS0 b0
  go_wp2_with fail
  go_loopw [7] (fun i' wr => ∃ k : Nat, k ≤ l.length ∧ i' = .int .i64 k ∧ Hid (Below W0.heap.size W0 wr)) (fun i' _ => l.length - (intOf i').toNat)
  case atStart => exact ⟨0, by omega, rfl, Below.refl _ _⟩
  case round =>
    obtain ⟨k, hk, rfl, HB⟩ := hrel
    have hSr := HS0.out.below HB.out
    have HBw := Lib.hid (below2 HB0.out HB.out)
    by_cases hlt : k < l.length
    · have q1 : (0 : Int) ≤ (k : Int) := by omega
      have q2 : (k : Int) < (l.length : Int) := by omega
      have HSf := Lib.hid (fun y => safe_any _ _ l news hl hm k hlt t ht (ext wr y) (ReadsL.below HV.out (below2 HBw.out (ext_below wr y))) (ReadsL.below HU.out (below2 HBw.out (ext_below wr y))) hn)
      have HSr := Lib.hid (fun y => refSafe_any _ _ l news hl hm k hlt t ht (ext wr y) (ReadsL.below HV.out (below2 HBw.out (ext_below wr y))) (ReadsL.below HU.out (below2 HBw.out (ext_below wr y))) hn)
      have es0 := fun y => (ext_cell wr y (p := ⟨B, 0, none⟩) hSr.lt).trans (hSr.cell (i := 0) rfl); have es1 := fun y => (ext_cell wr y (p := ⟨B, 1, none⟩) hSr.lt).trans (hSr.cell (i := 1) rfl); have es2 := fun y => (ext_cell wr y (p := ⟨B, 2, none⟩) hSr.lt).trans (hSr.cell (i := 2) rfl); have es3 := fun y => (ext_cell wr y (p := ⟨B, 3, none⟩) hSr.lt).trans (hSr.cell (i := 3) rfl); have es4 := fun y => (ext_cell wr y (p := ⟨B, 4, none⟩) hSr.lt).trans (hSr.cell (i := 4) rfl); have es5 := fun y => (ext_cell wr y (p := ⟨B, 5, none⟩) hSr.lt).trans (hSr.cell (i := 5) rfl)
      clear hSr h3 h32 hl hm
      generalize sfB l news k t = sb at *
      cases sb
      all_goals
        go_wp2_with fail
        refine wp_region_ext (by kernel_rfl) (by kernel_rfl) ?_
        repeat (go_big_quiet_step ((first | (go_at_call 77; with_reducible exact qe (HSf.out _)) | (go_at_call 78; with_reducible exact qe (HSr.out _)))))
        refine wpQuiet_nil ?_
        first | (intro _ hw'; obtain ⟨gx, hw''⟩ := hw'; subst hw'') | intro gx
        clear es0 es1 es2 es3 es4 es5
        go_wp2_with fail
        go_roundw
        case rel => exact ⟨k + 1, by omega, by go_num, below2 HB.out (ext_below wr gx)⟩
        case measure => simp [intOf]; omega
    · obtain rfl : k = l.length := by omega
      obtain ⟨wo, rfl⟩ : ∃ wo : World, wo = wr := ⟨_, rfl⟩
      have HSo := Lib.hid hSr
      clear hSr hlt HS0 HB0 HB
      go_wp2_with fail
      go_loopw [8, 9] (fun v' i' wr => ∃ k : Nat, k ≤ news.length ∧ i' = .int .i64 k ∧ Hid (ReadsL peV 10 wr v' (siL l (news.take k) t)) ∧ Hid (Below wo.heap.size wo wr)) (fun _ i' _ => news.length - (intOf i').toNat)
      case atStart => exact ⟨0, by omega, rfl, ReadsL.below HV.out HBw.out, Below.refl _ _⟩
      case round =>
        obtain ⟨k, hk, rfl, HR, HB⟩ := hrel
        have hSr := HSo.out.below HB.out
        have HBr := Lib.hid (below2 HBw.out HB.out)
        by_cases hlt : k < news.length
        · obtain ⟨x, hx⟩ : ∃ x, news[k]? = some x := ⟨_, List.getElem?_eq_getElem hlt⟩
          obtain ⟨b, o, rfl, h4, h5, h6⟩ := h32 (by omega)
          have HK := Lib.hid ((h6 k x hx).below HBr.out h5)
          have fx : x.fits := hm x (List.mem_of_getElem? hx)
          have q1 : (0 : Int) ≤ (k : Int) := by omega
          have q2 : (k : Int) < (news.length : Int) := by omega
          have hS := siL_snoc l (news.take k) x t
          rw [← show news.take (k + 1) = news.take k ++ [x] by rw [List.take_add_one, hx, Option.toList_some]] at hS
          have hlenM : (siL l (news.take k) t).length ≤ 999999 := by
            have := run_len (t := t) (news.take k) l
            rw [List.length_take] at this; omega
          have hfM : ∀ y ∈ siL l (news.take k) t, y.fits := run_fits (t := t) (news.take k) l hl (fun y hy => hm y (List.mem_of_mem_take hy))
          have hlb : b < wr.heap.size := Nat.lt_of_lt_of_le h5 HBr.out.size
          clear hx h6
          generalize siL l (news.take k) t = M at *
          obtain ⟨hmq, pq, cq, rfl, -⟩ := pes_open HR.out
          have hA1 := fun W (hW : Below wr.heap.size wr W) => arrive_any _ M hfM x t ht W (ReadsL.below HR.out hW) hlenM
          have hA2 := fun W (hW : Below wr.heap.size wr W) => refArrive_any _ M hfM x t ht W (ReadsL.below HR.out hW) hlenM
          generalize arE M x t = ce at *
          generalize arC M x t = cc at *
          generalize hml : arL M x t = ml at *
          have HA1 := Lib.hid hA1; have HA2 := Lib.hid hA2; have HSN := Lib.hid hS
          have HSr := Lib.hid hSr
          have lB := hSr.lt
          have s0 := hSr.cell (i := 0) rfl; have s1 := hSr.cell (i := 1) rfl; have s2 := hSr.cell (i := 2) rfl; have s3 := hSr.cell (i := 3) rfl; have s4 := hSr.cell (i := 4) rfl; have s5 := hSr.cell (i := 5) rfl
          obtain ⟨k0, k1, k2, k3, k4, k5, k6, k7, k8, k9⟩ := HK.out
          have nBw : B ≠ wr.heap.size := by omega
          have mBw : wr.heap.size ≠ B := by omega
          have nbw : b ≠ wr.heap.size := by omega
          have mbw : wr.heap.size ≠ b := by omega
          clear hA1 hA2 hS hSr h3 h32 hl hm fx hfM hml hlenM
          go_upto_region 12 with fail
          go_region_held3 (fun w' => w'.cell? ⟨B, 0, none⟩ = some (.int .i64 t.most) ∧ w'.cell? ⟨B, 1, none⟩ = some (.int .i64 t.q.group) ∧ w'.cell? ⟨B, 2, none⟩ = some (.int .i64 t.q.ping) ∧ w'.cell? ⟨B, 3, none⟩ = some (.int .i64 t.q.work) ∧ w'.cell? ⟨B, 4, none⟩ = some (.int .i64 t.q.time) ∧ w'.cell? ⟨B, 5, none⟩ = some (.int .u64 t.s) ∧ w'.cell? ⟨b, o + k * 10, none⟩ = some (.bool x.en.ad.v6) ∧ w'.cell? ⟨b, o + k * 10 + 1, none⟩ = some (.int .u64 x.en.ad.hi) ∧ w'.cell? ⟨b, o + k * 10 + 2, none⟩ = some (.int .u64 x.en.ad.lo) ∧ w'.cell? ⟨b, o + k * 10 + 3, none⟩ = some (.int .i64 x.en.port) ∧ w'.cell? ⟨b, o + k * 10 + 4, none⟩ = some (.bool x.came) ∧ w'.cell? ⟨b, o + k * 10 + 5, none⟩ = some (.int .i64 x.since) ∧ w'.cell? ⟨b, o + k * 10 + 6, none⟩ = some (.int .i64 x.pts) ∧ w'.cell? ⟨b, o + k * 10 + 7, none⟩ = some (.int .i64 x.at_) ∧ w'.cell? ⟨b, o + k * 10 + 8, none⟩ = some (.int .i64 x.ping) ∧ w'.cell? ⟨b, o + k * 10 + 9, none⟩ = some (.int .i64 x.work)) (first | go_keep | (simp (disch := omega) [*]; done)) (first | (go_at_call 79; (with_reducible refine (HA1.out _ (by (repeat (first | with_reducible assumption | with_reducible exact Below.refl _ _ | with_reducible refine Below.setCell ?_ (by first | omega | (simp; done) | (simp; omega)) _ | with_reducible refine Below.alloc ?_ (by first | omega | (simp; done) | (simp; omega)) _ | with_reducible refine Below.drew ?_ | (with_reducible refine Below.trans ?_ (Below.mono (by with_reducible assumption) (by first | omega | (simp; done) | (simp; omega)))) | (refine Below.trans ?_ (Below.mono (by assumption) (by first | omega | (simp; done) | (simp; omega)))))))).mono ?_); rintro e w2 ⟨r2, rfl, rd2, b2⟩; obtain ⟨c2, f2⟩ := bcell b2; have z2 := b2.size; (try simp at z2); have dB2 := fun o => c2 B o (by first | omega | (simp; done) | (simp; omega)); have nB2 : B ≠ w2.heap.size := (by omega); have mB2 : w2.heap.size ≠ B := (by omega); have db2 := fun o => c2 b o (by first | omega | (simp; done) | (simp; omega)); have nb2 : b ≠ w2.heap.size := (by omega); have mb2 : w2.heap.size ≠ b := (by omega); clear c2 f2; (first | (have hE2 : BlockIs w2 wr.heap.size [.bool false, .int .u64 0, .int .u64 0, .int .i64 0] 34 := BlockIs.below (BlockIs.drew' (BlockIs.newAt' wr _ _ rfl)) b2; have x0 := hE2.cell (i := 0) rfl; have x1 := hE2.cell (i := 1) rfl; have x2 := hE2.cell (i := 2) rfl; have x3 := hE2.cell (i := 3) rfl; have lE := hE2.lt; have fE := hE2.frozen) | (have hE2 : BlockIs w2 wr.heap.size [.bool false, .int .u64 0, .int .u64 0, .int .i64 0] 34 := BlockIs.below (BlockIs.newAt' wr.drew _ _ rfl) b2; have x0 := hE2.cell (i := 0) rfl; have x1 := hE2.cell (i := 1) rfl; have x2 := hE2.cell (i := 2) rfl; have x3 := hE2.cell (i := 3) rfl; have lE := hE2.lt; have fE := hE2.frozen) | skip)) | fail)
          all_goals
            go_wp2_with fail
            go_name_world W3 hW3
            have hb3 : Below wr.heap.size wr W3 := by subst hW3; (repeat (first | with_reducible assumption | with_reducible exact Below.refl _ _ | with_reducible refine Below.setCell ?_ (by first | omega | (simp; done) | (simp; omega)) _ | with_reducible refine Below.alloc ?_ (by first | omega | (simp; done) | (simp; omega)) _ | with_reducible refine Below.drew ?_ | (with_reducible refine Below.trans ?_ (Below.mono (by with_reducible assumption) (by first | omega | (simp; done) | (simp; omega)))) | (refine Below.trans ?_ (Below.mono (by assumption) (by first | omega | (simp; done) | (simp; omega))))))
            have hR3 : ReadsL peV 10 W3 r2 ml := by subst hW3; first | exact readsP_end rd2 hE2 _ _ _ _ | exact ReadsL.below rd2 (by (repeat (first | with_reducible assumption | with_reducible exact Below.refl _ _ | with_reducible refine Below.setCell ?_ (by first | omega | (simp; done) | (simp; omega)) _ | with_reducible refine Below.alloc ?_ (by first | omega | (simp; done) | (simp; omega)) _ | with_reducible refine Below.drew ?_ | (with_reducible refine Below.trans ?_ (Below.mono (by with_reducible assumption) (by first | omega | (simp; done) | (simp; omega)))) | (refine Below.trans ?_ (Below.mono (by assumption) (by first | omega | (simp; done) | (simp; omega)))))))
            obtain ⟨hmr3, p3, c3, rfl, -⟩ := pes_open hR3
            first
              | (obtain ⟨X3, hX3⟩ : ∃ X, X = wr.heap.size := ⟨_, rfl⟩; have hEX3 : BlockIs W3 X3 [.bool ce.ad.v6, .int .u64 ce.ad.hi, .int .u64 ce.ad.lo, .int .i64 ce.port] 34 := (by subst hW3 hX3; exact (((hE2.set 0 _).set 1 _).set 2 _).set 3 _); rw [← hX3])
              | (obtain ⟨X3, hX3⟩ : ∃ X, X = w2.heap.size := ⟨_, rfl⟩; have hEX3 : BlockIs W3 X3 [.bool ce.ad.v6, .int .u64 ce.ad.hi, .int .u64 ce.ad.lo, .int .i64 ce.port] 34 := (by subst hW3 hX3; with_reducible exact BlockIs.newAt' w2 _ _ (by first | rfl | simp)); rw [← hX3])
            have HR3 := Lib.hid hR3; have HB3 := Lib.hid hb3; have HX3 := Lib.hid hEX3
            have hS3 := HSr.out.below hb3
            have hl3 := hEX3.lt
            have HK3 := HK.out.below hb3 hlb
            clear s0 s1 s2 s3 s4 s5 k0 k1 k2 k3 k4 k5 k6 k7 k8 k9
            clear z2 dB2 nB2 mB2 db2 nb2 mb2
            clear hW3 hb3 hR3 hEX3 hX3
            try clear x0 x1 x2 x3 lE fE hE2
            clear b2 rd2
            have s0 := hS3.cell (i := 0) rfl; have s1 := hS3.cell (i := 1) rfl; have s2 := hS3.cell (i := 2) rfl; have s3 := hS3.cell (i := 3) rfl; have s4 := hS3.cell (i := 4) rfl; have s5 := hS3.cell (i := 5) rfl
            obtain ⟨k0, k1, k2, k3, k4, k5, k6, k7, k8, k9⟩ := HK3
            have lB3 := hS3.lt
            have lb3 : b < W3.heap.size := Nat.lt_of_lt_of_le hlb HB3.out.size
            have nBw : B ≠ W3.heap.size := by omega
            have mBw : W3.heap.size ≠ B := by omega
            have nbw : b ≠ W3.heap.size := by omega
            have mbw : W3.heap.size ≠ b := by omega
            have HA2b := Lib.hid (fun W (hW : Below W3.heap.size W3 W) => HA2.out W (below2 HB3.out hW))
            clear hS3
            go_region_held3 (fun w' => w'.cell? ⟨B, 0, none⟩ = some (.int .i64 t.most) ∧ w'.cell? ⟨B, 1, none⟩ = some (.int .i64 t.q.group) ∧ w'.cell? ⟨B, 2, none⟩ = some (.int .i64 t.q.ping) ∧ w'.cell? ⟨B, 3, none⟩ = some (.int .i64 t.q.work) ∧ w'.cell? ⟨B, 4, none⟩ = some (.int .i64 t.q.time) ∧ w'.cell? ⟨B, 5, none⟩ = some (.int .u64 t.s) ∧ w'.cell? ⟨b, o + k * 10, none⟩ = some (.bool x.en.ad.v6) ∧ w'.cell? ⟨b, o + k * 10 + 1, none⟩ = some (.int .u64 x.en.ad.hi) ∧ w'.cell? ⟨b, o + k * 10 + 2, none⟩ = some (.int .u64 x.en.ad.lo) ∧ w'.cell? ⟨b, o + k * 10 + 3, none⟩ = some (.int .i64 x.en.port) ∧ w'.cell? ⟨b, o + k * 10 + 4, none⟩ = some (.bool x.came) ∧ w'.cell? ⟨b, o + k * 10 + 5, none⟩ = some (.int .i64 x.since) ∧ w'.cell? ⟨b, o + k * 10 + 6, none⟩ = some (.int .i64 x.pts) ∧ w'.cell? ⟨b, o + k * 10 + 7, none⟩ = some (.int .i64 x.at_) ∧ w'.cell? ⟨b, o + k * 10 + 8, none⟩ = some (.int .i64 x.ping) ∧ w'.cell? ⟨b, o + k * 10 + 9, none⟩ = some (.int .i64 x.work)) (first | go_keep | (simp (disch := omega) [*]; done)) (first | (go_at_call 80; (with_reducible refine (HA2b.out _ (by (repeat (first | with_reducible assumption | with_reducible exact Below.refl _ _ | with_reducible refine Below.setCell ?_ (by first | omega | (simp; done) | (simp; omega)) _ | with_reducible refine Below.alloc ?_ (by first | omega | (simp; done) | (simp; omega)) _ | with_reducible refine Below.drew ?_ | (with_reducible refine Below.trans ?_ (Below.mono (by with_reducible assumption) (by first | omega | (simp; done) | (simp; omega)))) | (refine Below.trans ?_ (Below.mono (by assumption) (by first | omega | (simp; done) | (simp; omega)))))))).mono ?_); rintro e w2 ⟨r4, rfl, rd2, b2⟩; obtain ⟨c2, f2⟩ := bcell b2; have z2 := b2.size; (try simp at z2); have dB2 := fun o => c2 B o (by first | omega | (simp; done) | (simp; omega)); have nB2 : B ≠ w2.heap.size := (by omega); have mB2 : w2.heap.size ≠ B := (by omega); have db2 := fun o => c2 b o (by first | omega | (simp; done) | (simp; omega)); have nb2 : b ≠ w2.heap.size := (by omega); have mb2 : w2.heap.size ≠ b := (by omega); clear c2 f2; (first | (have hE2 : BlockIs w2 W3.heap.size [.bool false, .int .u64 0, .int .u64 0, .int .i64 0] 34 := BlockIs.below (BlockIs.drew' (BlockIs.newAt' W3 _ _ rfl)) b2; have x0 := hE2.cell (i := 0) rfl; have x1 := hE2.cell (i := 1) rfl; have x2 := hE2.cell (i := 2) rfl; have x3 := hE2.cell (i := 3) rfl; have lE := hE2.lt; have fE := hE2.frozen) | (have hE2 : BlockIs w2 W3.heap.size [.bool false, .int .u64 0, .int .u64 0, .int .i64 0] 34 := BlockIs.below (BlockIs.newAt' W3.drew _ _ rfl) b2; have x0 := hE2.cell (i := 0) rfl; have x1 := hE2.cell (i := 1) rfl; have x2 := hE2.cell (i := 2) rfl; have x3 := hE2.cell (i := 3) rfl; have lE := hE2.lt; have fE := hE2.frozen) | skip)) | fail)
            all_goals
              go_upto_region 14 with fail
              go_name_world W4 hW4
              have hb4 : Below W3.heap.size W3 W4 := by subst hW4; (repeat (first | with_reducible assumption | with_reducible exact Below.refl _ _ | with_reducible refine Below.setCell ?_ (by first | omega | (simp; done) | (simp; omega)) _ | with_reducible refine Below.alloc ?_ (by first | omega | (simp; done) | (simp; omega)) _ | with_reducible refine Below.drew ?_ | (with_reducible refine Below.trans ?_ (Below.mono (by with_reducible assumption) (by first | omega | (simp; done) | (simp; omega)))) | (refine Below.trans ?_ (Below.mono (by assumption) (by first | omega | (simp; done) | (simp; omega))))))
              have hR4 : ReadsL peV 10 W4 r4 ml := by subst hW4; first | exact readsP_end rd2 hE2 _ _ _ _ | exact ReadsL.below rd2 (by (repeat (first | with_reducible assumption | with_reducible exact Below.refl _ _ | with_reducible refine Below.setCell ?_ (by first | omega | (simp; done) | (simp; omega)) _ | with_reducible refine Below.alloc ?_ (by first | omega | (simp; done) | (simp; omega)) _ | with_reducible refine Below.drew ?_ | (with_reducible refine Below.trans ?_ (Below.mono (by with_reducible assumption) (by first | omega | (simp; done) | (simp; omega)))) | (refine Below.trans ?_ (Below.mono (by assumption) (by first | omega | (simp; done) | (simp; omega)))))))
              obtain ⟨hmr4, p4, c4, rfl, -⟩ := pes_open hR4
              first
              | (obtain ⟨X4, hX4⟩ : ∃ X, X = W3.heap.size := ⟨_, rfl⟩; have hEX4 : BlockIs W4 X4 [.bool ce.ad.v6, .int .u64 ce.ad.hi, .int .u64 ce.ad.lo, .int .i64 ce.port] 34 := (by subst hW4 hX4; exact (((hE2.set 0 _).set 1 _).set 2 _).set 3 _); rw [← hX4])
              | (obtain ⟨X4, hX4⟩ : ∃ X, X = w2.heap.size := ⟨_, rfl⟩; have hEX4 : BlockIs W4 X4 [.bool ce.ad.v6, .int .u64 ce.ad.hi, .int .u64 ce.ad.lo, .int .i64 ce.port] 34 := (by subst hW4 hX4; with_reducible exact BlockIs.newAt' w2 _ _ (by first | rfl | simp)); rw [← hX4])
              have HPS := Lib.hid (peers_same _ _ ml W4 (ReadsL.below HR3.out hb4) hR4)
              have HR4 := Lib.hid hR4; have HB4 := Lib.hid (below2 HB3.out hb4)
              have hE34 := HX3.out.below hb4
              have hNE := fun W => neqEn ce ce W
              have lX3 := hE34.lt; have lX4 := hEX4.lt
              have c0 := hE34.cell (i := 0) rfl; have c1 := hE34.cell (i := 1) rfl; have c2 := hE34.cell (i := 2) rfl; have c3' := hE34.cell (i := 3) rfl
              have g0 := hEX4.cell (i := 0) rfl; have g1 := hEX4.cell (i := 1) rfl; have g2 := hEX4.cell (i := 2) rfl; have g3 := hEX4.cell (i := 3) rfl
              clear s0 s1 s2 s3 s4 s5 k0 k1 k2 k3 k4 k5 k6 k7 k8 k9 hE34 hEX4
              clear z2 dB2 nB2 mB2 db2 nb2 mb2
              clear hW4 hb4 hR4 hX4
              try clear x0 x1 x2 x3 lE fE hE2
              clear b2 rd2
              rw [decide_eq_true rfl] at hNE
              go_wp2_with (go_at_call 44; (with_reducible refine HPS.out.mono ?_); rintro e w5 ⟨rfl, b5⟩; have y0 := keep b5 lX3 c0; have y1 := keep b5 lX3 c1; have y2 := keep b5 lX3 c2; have y3 := keep b5 lX3 c3'; have y4 := keep b5 lX4 g0; have y5 := keep b5 lX4 g1; have y6 := keep b5 lX4 g2; have y7 := keep b5 lX4 g3; clear c0 c1 c2 c3' g0 g1 g2 g3)
              go_roundw
              case rel => exact ⟨k + 1, by omega, by go_num, by show ReadsL _ _ _ _ _; rw [HSN.out]; exact ReadsL.below HR4.out b5, below2 HB.out (below2 HB4.out b5)⟩
              case measure => simp [intOf]; omega
        · obtain rfl : k = news.length := by omega
          have hTk : siL l (news.take news.length) t = siL l news t := by rw [List.take_length]
          rw [hTk] at HR
          obtain ⟨hmq, pq, cq, rfl, -⟩ := pes_open HR.out
          have HRun := Lib.hid (fun W (hW : Below wr.heap.size wr W) => run_any _ _ l news hl hm t ht W (ReadsL.below HV.out (below2 HBr.out hW)) (ReadsL.below HU.out (below2 HBr.out hW)) hn)
          have s0 := hSr.cell (i := 0) rfl; have s1 := hSr.cell (i := 1) rfl; have s2 := hSr.cell (i := 2) rfl; have s3 := hSr.cell (i := 3) rfl; have s4 := hSr.cell (i := 4) rfl; have s5 := hSr.cell (i := 5) rfl
          clear hSr h3 h32 hTk
          go_wp2_with (first | (go_at_call 81; (with_reducible refine (HRun.out _ (Below.refl _ _)).mono ?_); rintro e w3 ⟨r3, rfl, rd3, b3⟩; obtain ⟨hm3, p3, c3, rfl, -⟩ := pes_open rd3) | (go_at_call 44; (with_reducible refine (peers_same _ _ _ _ rd3 (ReadsL.below HR.out b3)).mono ?_); rintro e w4 ⟨rfl, b4⟩) | (go_at_call 76; (with_reducible refine (HA.out _).mono ?_); rintro e w5 ⟨rfl, b5⟩))
          go_ret
          exact ⟨rfl, below2 HBr.out (below2 b3 (below2 b4 b5))⟩
end Go.Proofs.Ytppmjbnhghaffaa
