/- Texts put together: LawSiege, LawSiegeD. No condition. -/
import Derived.Test.YtppmjbnhghaffaaUnl
/- The law of sieges: awake. No condition. -/
namespace Go.Proofs.Ytppmjbnhghaffaa
open Go.RowKit

set_option maxRecDepth 100000 in
set_option maxHeartbeats 16000000 in
theorem awake22_any (w : World) : Calls Try.prog 76 #[] w fun e w' => e = .returned (.bool true) ∧ Below w.heap.size w w' := by
  have AT := Lib.hid (fun (p q : Int) (w : World) => at22_any p q w)
  have f1 : (p22 1 3).fits := p22_fits (by omega) (by omega)
  have f2 : (p22 2 5).fits := p22_fits (by omega) (by omega)
  have f3 : (p22 3 9).fits := p22_fits (by omega) (by omega)
  have f4 : (p22 4 8).fits := p22_fits (by omega) (by omega)
  have hz : ∀ W : World, ReadsL peV 10 W (.slice none 0 0) [] := fun W => ⟨rfl, by simp, Or.inl ⟨rfl, none, 0, rfl⟩⟩
  have H1 : Hid (∀ W, Calls Try.prog 79 #[.slice none 0 0, .agg #[.bool false, .int .u64 0, .int .u64 1, .int .i64 1, .bool true, .int .i64 1, .int .i64 0, .int .i64 0, .int .i64 3, .int .i64 0], .agg #[.int .i64 1, .int .i64 0, .int .i64 1, .int .i64 0, .int .i64 0, .int .u64 7]] W fun e w' => ∃ r, e = .returned (.tuple #[r, .agg #[.bool false, .int .u64 0, .int .u64 0, .int .i64 0], .int .i64 0]) ∧ ReadsL peV 10 w' r [p22 1 3] ∧ Below W.heap.size W w') := fun W => by
    have := arrive_any (.slice none 0 0) [] (by simp) (p22 1 3) t22 t22_fits W (hz W) (by simp)
    rw [a22_1.1, a22_1.2.1, a22_1.2.2] at this; exact this
  have H2 : Hid (∀ (W : World) (r : Value), ReadsL peV 10 W r [p22 1 3] → Calls Try.prog 79 #[r, .agg #[.bool false, .int .u64 0, .int .u64 1, .int .i64 2, .bool true, .int .i64 2, .int .i64 0, .int .i64 0, .int .i64 5, .int .i64 0], .agg #[.int .i64 1, .int .i64 0, .int .i64 1, .int .i64 0, .int .i64 0, .int .u64 7]] W fun e w' => ∃ q, e = .returned (.tuple #[q, .agg #[.bool false, .int .u64 0, .int .u64 0, .int .i64 0], .int .i64 5]) ∧ Below W.heap.size W w') := fun W r hr => by
    have := arrive_any r [p22 1 3] (by simpa using f1) (p22 2 5) t22 t22_fits W hr (by simp)
    rw [a22_2.1, a22_2.2] at this
    exact this.mono fun e w' ⟨q, he, _, hb⟩ => ⟨q, he, hb⟩
  have H3 : Hid (∀ (W : World) (r : Value) (b : Nat), ReadsL peV 10 W r [p22 1 3] → BlockIs W b [.bool false, .int .u64 0, .int .u64 1, .int .i64 3, .bool true, .int .i64 3, .int .i64 0, .int .i64 0, .int .i64 9, .int .i64 0, .bool false, .int .u64 0, .int .u64 1, .int .i64 4, .bool true, .int .i64 4, .int .i64 0, .int .i64 0, .int .i64 8, .int .i64 0] 66 → Calls Try.prog 81 #[r, .slice (some ⟨b, 0, none⟩) 2 2, .agg #[.int .i64 1, .int .i64 0, .int .i64 1, .int .i64 0, .int .i64 0, .int .u64 7]] W fun e w' => ∃ q, e = .returned q ∧ ReadsL peV 10 w' q [p22 1 3] ∧ Below W.heap.size W w') := fun W r b hr hB => by
    have hB' : BlockIs W b ([p22 3 9, p22 4 8].flatMap peV) 66 := hB
    have := run_any r (.slice (some ⟨b, 0, none⟩) 2 2) [p22 1 3] [p22 3 9, p22 4 8] (by simpa using f1) (fun x hx => by simp only [List.mem_cons, List.not_mem_nil, or_false] at hx; rcases hx with rfl | rfl; exact f3; exact f4) t22 t22_fits W hr (reads_blkC hB' (by decide) (by decide) (by decide)) (by decide)
    rw [a22_3] at this; exact this
  have H4 : Hid (∀ (W : World) (r : Value) (b : Nat), ReadsL peV 10 W r [p22 1 3] → BlockIs W b [.bool false, .int .u64 0, .int .u64 1, .int .i64 3, .bool true, .int .i64 3, .int .i64 0, .int .i64 0, .int .i64 9, .int .i64 0] 66 → Calls Try.prog 77 #[r, .slice (some ⟨b, 0, none⟩) 1 1, .int .i64 0, .agg #[.int .i64 1, .int .i64 0, .int .i64 1, .int .i64 0, .int .i64 0, .int .u64 7]] W fun e w' => e = .returned (.bool true) ∧ Below W.heap.size W w') := fun W r b hr hB => by
    have hB' : BlockIs W b ([p22 3 9].flatMap peV) 66 := hB
    have := safe_any r (.slice (some ⟨b, 0, none⟩) 1 1) [p22 1 3] [p22 3 9] (by simpa using f1) (by simpa using f3) 0 (by decide) t22 t22_fits W hr (reads_blkC hB' (by decide) (by decide) (by decide)) (by decide)
    rw [a22_4] at this; exact this
  clear f1 f2 f3 f4 hz
  go_enter Try.func76, Try.ntmps76
  go_upto_region 2 with fail
  go_name_world W0 hW0
  obtain ⟨B, hB⟩ : ∃ B, B = w.heap.size := ⟨_, rfl⟩
  have hS0 : BlockIs W0 B [.int .i64 1, .int .i64 0, .int .i64 1, .int .i64 0, .int .i64 0, .int .u64 7] 105 := by subst hW0 hB; exact BlockIs.newAt' _ _ _ (by simp)
  have b0 : Below w.heap.size w W0 := by subst hW0; (repeat (first | with_reducible assumption | with_reducible exact Below.refl _ _ | with_reducible refine Below.setCell ?_ (by first | omega | (simp; done) | (simp; omega)) _ | with_reducible refine Below.alloc ?_ (by first | omega | (simp; done) | (simp; omega)) _ | with_reducible refine Below.drew ?_ | (with_reducible refine Below.trans ?_ (Below.mono (by with_reducible assumption) (by first | omega | (simp; done) | (simp; omega)))) | (refine Below.trans ?_ (Below.mono (by assumption) (by first | omega | (simp; done) | (simp; omega))))))
  rw [← hB]
  have HS0 := Lib.hid hS0; have HB0 := Lib.hid b0
  have hl0 := hS0.lt
  have n0 : B ≠ W0.heap.size := by omega
  have m0 : W0.heap.size ≠ B := by omega
  have s0 := hS0.cell (i := 0) rfl; have s1 := hS0.cell (i := 1) rfl; have s2 := hS0.cell (i := 2) rfl; have s3 := hS0.cell (i := 3) rfl; have s4 := hS0.cell (i := 4) rfl; have s5 := hS0.cell (i := 5) rfl
  clear hW0 hB hS0 b0
  go_region_held3 (fun w' => w'.cell? ⟨B, 0, none⟩ = some (.int .i64 1) ∧ w'.cell? ⟨B, 1, none⟩ = some (.int .i64 0) ∧ w'.cell? ⟨B, 2, none⟩ = some (.int .i64 1) ∧ w'.cell? ⟨B, 3, none⟩ = some (.int .i64 0) ∧ w'.cell? ⟨B, 4, none⟩ = some (.int .i64 0) ∧ w'.cell? ⟨B, 5, none⟩ = some (.int .u64 7)) (first | go_keep | (simp (disch := omega) [*]; done)) (first | (go_at_call 117; (with_reducible refine ((AT.out 1 3) _).mono ?_); rintro e w1 ⟨rfl, b1⟩; obtain ⟨c1, f1⟩ := bcell b1; have z1 := b1.size; (try simp at z1); have d1 := fun o => c1 B o (by first | omega | (simp; done) | (simp; omega)); clear c1 f1; have n1 : B ≠ w1.heap.size := (by omega); have m1 : w1.heap.size ≠ B := (by omega)) | (go_at_call 79; (with_reducible refine (H1.out _).mono ?_); rintro e w2 ⟨r2, rfl, rd2, b2⟩; obtain ⟨c2, f2⟩ := bcell b2; have z2 := b2.size; (try simp at z2); have d2 := fun o => c2 B o (by first | omega | (simp; done) | (simp; omega)); clear c2 f2; have n2 : B ≠ w2.heap.size := (by omega); have m2 : w2.heap.size ≠ B := (by omega); (first | (have hE2 : BlockIs w2 w1.heap.size [.bool false, .int .u64 0, .int .u64 0, .int .i64 0] 34 := BlockIs.below (BlockIs.newAt' w1 _ _ rfl) b2; have x0 := hE2.cell (i := 0) rfl; have x1 := hE2.cell (i := 1) rfl; have x2 := hE2.cell (i := 2) rfl; have x3 := hE2.cell (i := 3) rfl; have lE := hE2.lt; have fE := hE2.frozen) | (have hE2 : BlockIs w2 W0.heap.size [.bool false, .int .u64 0, .int .u64 0, .int .i64 0] 34 := BlockIs.below (BlockIs.below (BlockIs.drew' (BlockIs.newAt' W0 _ _ rfl)) b1) b2; have x0 := hE2.cell (i := 0) rfl; have x1 := hE2.cell (i := 1) rfl; have x2 := hE2.cell (i := 2) rfl; have x3 := hE2.cell (i := 3) rfl; have lE := hE2.lt; have fE := hE2.frozen) | (have hE2 : BlockIs w2 W0.heap.size [.bool false, .int .u64 0, .int .u64 0, .int .i64 0] 34 := BlockIs.below (BlockIs.below (BlockIs.newAt' W0.drew _ _ rfl) b1) b2; have x0 := hE2.cell (i := 0) rfl; have x1 := hE2.cell (i := 1) rfl; have x2 := hE2.cell (i := 2) rfl; have x3 := hE2.cell (i := 3) rfl; have lE := hE2.lt; have fE := hE2.frozen) | skip)) | fail)
  all_goals
    go_wp2_with fail
    go_name_world W3 hW3
    have hb03 : Below W0.heap.size W0 W3 := by subst hW3; (repeat (first | with_reducible assumption | with_reducible exact Below.refl _ _ | with_reducible refine Below.setCell ?_ (by first | omega | (simp; done) | (simp; omega)) _ | with_reducible refine Below.alloc ?_ (by first | omega | (simp; done) | (simp; omega)) _ | with_reducible refine Below.drew ?_ | (with_reducible refine Below.trans ?_ (Below.mono (by with_reducible assumption) (by first | omega | (simp; done) | (simp; omega)))) | (refine Below.trans ?_ (Below.mono (by assumption) (by first | omega | (simp; done) | (simp; omega))))))
    have hR3 : ReadsL peV 10 W3 r2 [p22 1 3] := by subst hW3; first | exact readsP_end rd2 hE2 _ _ _ _ | exact ReadsL.below rd2 (by (repeat (first | with_reducible assumption | with_reducible exact Below.refl _ _ | with_reducible refine Below.setCell ?_ (by first | omega | (simp; done) | (simp; omega)) _ | with_reducible refine Below.alloc ?_ (by first | omega | (simp; done) | (simp; omega)) _ | with_reducible refine Below.drew ?_ | (with_reducible refine Below.trans ?_ (Below.mono (by with_reducible assumption) (by first | omega | (simp; done) | (simp; omega)))) | (refine Below.trans ?_ (Below.mono (by assumption) (by first | omega | (simp; done) | (simp; omega)))))))
    have HR3 := Lib.hid hR3; have HB3 := Lib.hid (below2 HB0.out hb03)
    have hS3 := HS0.out.below hb03
    have HS3 := Lib.hid hS3
    have hl3 := hS3.lt
    have n3 : B ≠ W3.heap.size := by omega
    have m3 : W3.heap.size ≠ B := by omega
    clear s0 s1 s2 s3 s4 s5 d1 d2 z1 z2 hW3 hb03 hR3 n1 m1 n2 m2
    try clear x0 x1 x2 x3 lE fE hE2
    clear b2 rd2
    clear b1 HB0 HS0 hl0 n0 m0
    have s0 := hS3.cell (i := 0) rfl; have s1 := hS3.cell (i := 1) rfl; have s2 := hS3.cell (i := 2) rfl; have s3 := hS3.cell (i := 3) rfl; have s4 := hS3.cell (i := 4) rfl; have s5 := hS3.cell (i := 5) rfl
    clear hS3
    go_region_held3 (fun w' => w'.cell? ⟨B, 0, none⟩ = some (.int .i64 1) ∧ w'.cell? ⟨B, 1, none⟩ = some (.int .i64 0) ∧ w'.cell? ⟨B, 2, none⟩ = some (.int .i64 1) ∧ w'.cell? ⟨B, 3, none⟩ = some (.int .i64 0) ∧ w'.cell? ⟨B, 4, none⟩ = some (.int .i64 0) ∧ w'.cell? ⟨B, 5, none⟩ = some (.int .u64 7)) (first | go_keep | (simp (disch := omega) [*]; done)) (first | (go_at_call 117; (with_reducible refine ((AT.out 2 5) _).mono ?_); rintro e w1 ⟨rfl, b1⟩; obtain ⟨c1, f1⟩ := bcell b1; have z1 := b1.size; (try simp at z1); have d1 := fun o => c1 B o (by first | omega | (simp; done) | (simp; omega)); clear c1 f1; have n1 : B ≠ w1.heap.size := (by omega); have m1 : w1.heap.size ≠ B := (by omega)) | (go_at_call 79; (with_reducible refine (H2.out _ _ (ReadsL.below HR3.out (by (repeat (first | with_reducible assumption | with_reducible exact Below.refl _ _ | with_reducible refine Below.setCell ?_ (by first | omega | (simp; done) | (simp; omega)) _ | with_reducible refine Below.alloc ?_ (by first | omega | (simp; done) | (simp; omega)) _ | with_reducible refine Below.drew ?_ | (with_reducible refine Below.trans ?_ (Below.mono (by with_reducible assumption) (by first | omega | (simp; done) | (simp; omega)))) | (refine Below.trans ?_ (Below.mono (by assumption) (by first | omega | (simp; done) | (simp; omega))))))))).mono ?_); rintro e w2 ⟨r4, rfl, b2⟩; obtain ⟨c2, f2⟩ := bcell b2; have z2 := b2.size; (try simp at z2); have d2 := fun o => c2 B o (by first | omega | (simp; done) | (simp; omega)); clear c2 f2; have n2 : B ≠ w2.heap.size := (by omega); have m2 : w2.heap.size ≠ B := (by omega); (first | (have hE2 : BlockIs w2 w1.heap.size [.bool false, .int .u64 0, .int .u64 0, .int .i64 0] 34 := BlockIs.below (BlockIs.newAt' w1 _ _ rfl) b2; have x0 := hE2.cell (i := 0) rfl; have x1 := hE2.cell (i := 1) rfl; have x2 := hE2.cell (i := 2) rfl; have x3 := hE2.cell (i := 3) rfl; have lE := hE2.lt; have fE := hE2.frozen) | (have hE2 : BlockIs w2 W3.heap.size [.bool false, .int .u64 0, .int .u64 0, .int .i64 0] 34 := BlockIs.below (BlockIs.below (BlockIs.drew' (BlockIs.newAt' W3 _ _ rfl)) b1) b2; have x0 := hE2.cell (i := 0) rfl; have x1 := hE2.cell (i := 1) rfl; have x2 := hE2.cell (i := 2) rfl; have x3 := hE2.cell (i := 3) rfl; have lE := hE2.lt; have fE := hE2.frozen) | (have hE2 : BlockIs w2 W3.heap.size [.bool false, .int .u64 0, .int .u64 0, .int .i64 0] 34 := BlockIs.below (BlockIs.below (BlockIs.newAt' W3.drew _ _ rfl) b1) b2; have x0 := hE2.cell (i := 0) rfl; have x1 := hE2.cell (i := 1) rfl; have x2 := hE2.cell (i := 2) rfl; have x3 := hE2.cell (i := 3) rfl; have lE := hE2.lt; have fE := hE2.frozen) | skip)) | fail)
    all_goals
      go_wp2_with fail
      go_name_world W4 hW4
      have hb34 : Below W3.heap.size W3 W4 := by subst hW4; (repeat (first | with_reducible assumption | with_reducible exact Below.refl _ _ | with_reducible refine Below.setCell ?_ (by first | omega | (simp; done) | (simp; omega)) _ | with_reducible refine Below.alloc ?_ (by first | omega | (simp; done) | (simp; omega)) _ | with_reducible refine Below.drew ?_ | (with_reducible refine Below.trans ?_ (Below.mono (by with_reducible assumption) (by first | omega | (simp; done) | (simp; omega)))) | (refine Below.trans ?_ (Below.mono (by assumption) (by first | omega | (simp; done) | (simp; omega))))))
      have HR4 := Lib.hid (ReadsL.below HR3.out hb34); have HB4 := Lib.hid (below2 HB3.out hb34)
      have hS4 := HS3.out.below hb34
      have HS4 := Lib.hid hS4
      have hl4 := hS4.lt
      have n4 : B ≠ W4.heap.size := by omega
      have m4 : W4.heap.size ≠ B := by omega
      clear s0 s1 s2 s3 s4 s5 d1 d2 z1 z2 hW4 hb34 n1 m1 n2 m2
      try clear x0 x1 x2 x3 lE fE hE2
      clear b2
      clear b1 HB3 HS3 hl3 n3 m3 HR3
      have s0 := hS4.cell (i := 0) rfl; have s1 := hS4.cell (i := 1) rfl; have s2 := hS4.cell (i := 2) rfl; have s3 := hS4.cell (i := 3) rfl; have s4 := hS4.cell (i := 4) rfl; have s5 := hS4.cell (i := 5) rfl
      clear hS4
      go_region_held3 (fun w' => w'.cell? ⟨B, 0, none⟩ = some (.int .i64 1) ∧ w'.cell? ⟨B, 1, none⟩ = some (.int .i64 0) ∧ w'.cell? ⟨B, 2, none⟩ = some (.int .i64 1) ∧ w'.cell? ⟨B, 3, none⟩ = some (.int .i64 0) ∧ w'.cell? ⟨B, 4, none⟩ = some (.int .i64 0) ∧ w'.cell? ⟨B, 5, none⟩ = some (.int .u64 7)) (first | go_keep | (simp (disch := omega) [*]; done)) (first | (go_at_call 117; (with_reducible refine ((AT.out 3 9) _).mono ?_); rintro e w1 ⟨rfl, b1⟩; obtain ⟨c1, f1⟩ := bcell b1; have z1 := b1.size; (try simp at z1); have d1 := fun o => c1 B o (by first | omega | (simp; done) | (simp; omega)); clear c1 f1; have n1 : B ≠ w1.heap.size := (by omega); have m1 : w1.heap.size ≠ B := (by omega)) | (go_at_call 117; (with_reducible refine ((AT.out 4 8) _).mono ?_); rintro e w2 ⟨rfl, b2⟩; obtain ⟨c2, f2⟩ := bcell b2; have z2 := b2.size; (try simp at z2); have d2 := fun o => c2 B o (by first | omega | (simp; done) | (simp; omega)); clear c2 f2; have n2 : B ≠ w2.heap.size := (by omega); have m2 : w2.heap.size ≠ B := (by omega)) | (go_at_call 81; (with_reducible refine (H3.out _ _ _ (ReadsL.below HR4.out (by (repeat (first | with_reducible assumption | with_reducible exact Below.refl _ _ | with_reducible refine Below.setCell ?_ (by first | omega | (simp; done) | (simp; omega)) _ | with_reducible refine Below.alloc ?_ (by first | omega | (simp; done) | (simp; omega)) _ | with_reducible refine Below.drew ?_ | (with_reducible refine Below.trans ?_ (Below.mono (by with_reducible assumption) (by first | omega | (simp; done) | (simp; omega)))) | (refine Below.trans ?_ (Below.mono (by assumption) (by first | omega | (simp; done) | (simp; omega)))))))) ?_).mono ?_); (exact BlockIs.newAt' _ _ _ rfl); rintro e w3 ⟨r5, rfl, rd5, b3⟩; obtain ⟨hm5, a5, c5, rfl, h5⟩ := pes_open rd5; have H5 := Lib.hid (h5 (by simp)); clear h5; obtain ⟨c3, f3⟩ := bcell b3; have z3 := b3.size; (try simp at z3); have d3 := fun o => c3 B o (by first | omega | (simp; done) | (simp; omega)); clear c3 f3; have n3 : B ≠ w3.heap.size := (by omega); have m3 : w3.heap.size ≠ B := (by omega)) | fail)
      go_wp2_with fail
      go_name_world W5 hW5
      obtain ⟨b5, o5, rfl, hc5, hlt5, hp5⟩ := H5.out
      have y5 : w3.cell? ⟨b5, o5 + 3, none⟩ = some (.int .i64 1) := (hp5 0 (p22 1 3) rfl).2.2.2.1
      have x5 : W5.cell? ⟨b5, o5 + 3, none⟩ = some (.int .i64 1) := by subst hW5; simpa using y5
      have l5 : b5 < W5.heap.size := by subst hW5; simpa using hlt5
      have hb45 : Below W4.heap.size W4 W5 := by subst hW5; (repeat (first | with_reducible assumption | with_reducible exact Below.refl _ _ | with_reducible refine Below.setCell ?_ (by first | omega | (simp; done) | (simp; omega)) _ | with_reducible refine Below.alloc ?_ (by first | omega | (simp; done) | (simp; omega)) _ | with_reducible refine Below.drew ?_ | (with_reducible refine Below.trans ?_ (Below.mono (by with_reducible assumption) (by first | omega | (simp; done) | (simp; omega)))) | (refine Below.trans ?_ (Below.mono (by assumption) (by first | omega | (simp; done) | (simp; omega))))))
      have HR5 := Lib.hid (ReadsL.below HR4.out hb45); have HB5 := Lib.hid (below2 HB4.out hb45)
      have hS5 := HS4.out.below hb45
      have l0 := hS5.lt
      clear s0 s1 s2 s3 s4 s5 d1 d2 d3 z1 z2 z3 hW5 hb45 n1 m1 n2 m2 n3 m3 y5 hp5 hlt5 H5
      clear b3 rd5
      clear b2
      clear b1 HB4 HS4 hl4 n4 m4 HR4
      have s0 := hS5.cell (i := 0) rfl; have s1 := hS5.cell (i := 1) rfl; have s2 := hS5.cell (i := 2) rfl; have s3 := hS5.cell (i := 3) rfl; have s4 := hS5.cell (i := 4) rfl; have s5 := hS5.cell (i := 5) rfl
      clear hS5
      go_region_held3 (fun w' => w'.cell? ⟨B, 0, none⟩ = some (.int .i64 1) ∧ w'.cell? ⟨B, 1, none⟩ = some (.int .i64 0) ∧ w'.cell? ⟨B, 2, none⟩ = some (.int .i64 1) ∧ w'.cell? ⟨B, 3, none⟩ = some (.int .i64 0) ∧ w'.cell? ⟨B, 4, none⟩ = some (.int .i64 0) ∧ w'.cell? ⟨B, 5, none⟩ = some (.int .u64 7) ∧ w'.cell? ⟨b5, o5 + 3, none⟩ = some (.int .i64 1)) (first | go_keep | (simp (disch := omega) [*]; done)) (first | (go_at_call 117; (with_reducible refine ((AT.out 3 9) _).mono ?_); rintro e w1 ⟨rfl, b1⟩; obtain ⟨c1, f1⟩ := bcell b1; have z1 := b1.size; (try simp at z1); have d1 := fun o => c1 B o (by first | omega | (simp; done) | (simp; omega)); have db51 := fun o => c1 b5 o (by first | omega | (simp; done) | (simp; omega)); clear c1 f1; have n1 : B ≠ w1.heap.size := (by omega); have m1 : w1.heap.size ≠ B := (by omega)) | (go_at_call 77; (with_reducible refine (H4.out _ _ _ (ReadsL.below HR5.out (by (repeat (first | with_reducible assumption | with_reducible exact Below.refl _ _ | with_reducible refine Below.setCell ?_ (by first | omega | (simp; done) | (simp; omega)) _ | with_reducible refine Below.alloc ?_ (by first | omega | (simp; done) | (simp; omega)) _ | with_reducible refine Below.drew ?_ | (with_reducible refine Below.trans ?_ (Below.mono (by with_reducible assumption) (by first | omega | (simp; done) | (simp; omega)))) | (refine Below.trans ?_ (Below.mono (by assumption) (by first | omega | (simp; done) | (simp; omega)))))))) ?_).mono ?_); (exact BlockIs.newAt' _ _ _ rfl); rintro e w2 ⟨rfl, b2⟩; obtain ⟨c2, f2⟩ := bcell b2; have z2 := b2.size; (try simp at z2); have d2 := fun o => c2 B o (by first | omega | (simp; done) | (simp; omega)); have db52 := fun o => c2 b5 o (by first | omega | (simp; done) | (simp; omega)); clear c2 f2; have n2 : B ≠ w2.heap.size := (by omega); have m2 : w2.heap.size ≠ B := (by omega)) | fail)
      all_goals
        go_wp2_with fail
        go_ret
        refine ⟨rfl, below2 HB5.out ?_⟩
        (repeat (first | with_reducible assumption | with_reducible exact Below.refl _ _ | with_reducible refine Below.setCell ?_ (by first | omega | (simp; done) | (simp; omega)) _ | with_reducible refine Below.alloc ?_ (by first | omega | (simp; done) | (simp; omega)) _ | with_reducible refine Below.drew ?_ | (with_reducible refine Below.trans ?_ (Below.mono (by with_reducible assumption) (by first | omega | (simp; done) | (simp; omega)))) | (refine Below.trans ?_ (Below.mono (by assumption) (by first | omega | (simp; done) | (simp; omega))))))
end Go.Proofs.Ytppmjbnhghaffaa
/- The law of sieges: the quickest stay. No condition. -/
namespace Go.Proofs.Ytppmjbnhghaffaa
open Go.RowKit
set_option linter.unusedSimpArgs false
set_option linter.unusedVariables false

theorem qkK_fits {f : Pe → Nat → Pe} {l : List Pe} (hl : ∀ x ∈ l, x.fits) (hf : ∀ (p : Pe) (i : Nat), p.fits → i ≤ 1000 → (f p i).fits) (k : Nat) (hk : k ≤ l.length) (hk2 : k ≤ 1000) : ∀ x ∈ qkK f l k, x.fits := fun x hx => by
  unfold qkK at hx
  obtain ⟨i, hi, rfl⟩ := List.mem_map.1 hx
  have hi := List.mem_range.1 hi
  refine hf _ i ?_ (by omega)
  rw [rkGet_at (List.getElem?_eq_getElem (show i < l.length by omega))]
  exact hl _ (List.getElem_mem _)
theorem qkP_fits (p : Pe) (i : Nat) (h : p.fits) (hi : i ≤ 1000) : (qkP p i).fits := by
  obtain ⟨⟨h1, h2⟩, h3, h4, h5, h6, h7⟩ := h
  exact ⟨⟨h1, by show -9223372036854775808 ≤ 1 + (i : Int) ∧ 1 + (i : Int) ≤ 9223372036854775807; omega⟩, h3, h4, h5, by show -9223372036854775808 ≤ 1 + (i : Int) ∧ 1 + (i : Int) ≤ 9223372036854775807; omega, h7⟩
theorem slP_fits (p : Pe) (i : Nat) (h : p.fits) (hi : i ≤ 1000) : (slP p i).fits := by
  obtain ⟨⟨h1, h2⟩, h3, h4, h5, h6, h7⟩ := h
  exact ⟨⟨h1, by show -9223372036854775808 ≤ 1000 + (i : Int) ∧ 1000 + (i : Int) ≤ 9223372036854775807; omega⟩, h3, h4, h5, by show -9223372036854775808 ≤ 100 + (i : Int) ∧ 100 + (i : Int) ≤ 9223372036854775807; omega, h7⟩
set_option maxRecDepth 100000 in
set_option maxHeartbeats 16000000 in
theorem siegeSlow_any (v u : Value) (l news : List Pe) (t : St) (w : World) (h : ReadsL peV 10 w v l) (h2 : ReadsL peV 10 w u news) (hl : ∀ x ∈ l, x.fits) (hm : ∀ x ∈ news, x.fits) (ht : t.fits) :
    Calls Try.prog 14 #[v, u, .agg #[.int .i64 t.most, .int .i64 t.q.group, .int .i64 t.q.ping, .int .i64 t.q.work, .int .i64 t.q.time, .int .u64 t.s]] w fun e w' => e = .returned (.bool true) ∧ Below w.heap.size w w' := by
  obtain ⟨hm1, p, c, rfl, h3⟩ := pes_open h
  obtain ⟨hm2, pu, cu, rfl, h32⟩ := pes_open h2
  clear h h2
  have HA := Lib.hid (fun w => awake22_any w)
  rcases Int.lt_or_le 10 (l.length : Int) with hlen | hlen
  · go_enter Try.func14, Try.ntmps14
    go_wp2_with (go_at_call 76; (with_reducible refine (HA.out _).mono ?_); rintro e w2 ⟨rfl, b2⟩; obtain ⟨c2, f2⟩ := bcell b2; have z2 := b2.size; (try simp at z2); clear c2 f2)
    go_ret
    refine ⟨rfl, ?_⟩
    (repeat (first | with_reducible assumption | with_reducible exact Below.refl _ _ | with_reducible refine Below.setCell ?_ (by first | omega | (simp; done) | (simp; omega)) _ | with_reducible refine Below.alloc ?_ (by first | omega | (simp; done) | (simp; omega)) _ | with_reducible refine Below.drew ?_ | (with_reducible refine Below.trans ?_ (Below.mono (by with_reducible assumption) (by first | omega | (simp; done) | (simp; omega)))) | (refine Below.trans ?_ (Below.mono (by assumption) (by first | omega | (simp; done) | (simp; omega))))))
  rcases Int.lt_or_le 30 (news.length : Int) with hlen2 | hlen2
  · go_enter Try.func14, Try.ntmps14
    go_wp2_with (go_at_call 76; (with_reducible refine (HA.out _).mono ?_); rintro e w2 ⟨rfl, b2⟩; obtain ⟨c2, f2⟩ := bcell b2; have z2 := b2.size; (try simp at z2); clear c2 f2)
    go_ret
    refine ⟨rfl, ?_⟩
    (repeat (first | with_reducible assumption | with_reducible exact Below.refl _ _ | with_reducible refine Below.setCell ?_ (by first | omega | (simp; done) | (simp; omega)) _ | with_reducible refine Below.alloc ?_ (by first | omega | (simp; done) | (simp; omega)) _ | with_reducible refine Below.drew ?_ | (with_reducible refine Below.trans ?_ (Below.mono (by with_reducible assumption) (by first | omega | (simp; done) | (simp; omega)))) | (refine Below.trans ?_ (Below.mono (by assumption) (by first | omega | (simp; done) | (simp; omega))))))
  rcases Int.lt_or_le t.q.ping (l.length : Int) with hq | hq
  · go_enter Try.func14, Try.ntmps14
    go_wp2_with (go_at_call 76; (with_reducible refine (HA.out _).mono ?_); rintro e w2 ⟨rfl, b2⟩; obtain ⟨c2, f2⟩ := bcell b2; have z2 := b2.size; (try simp at z2); clear c2 f2)
    go_ret
    refine ⟨rfl, ?_⟩
    (repeat (first | with_reducible assumption | with_reducible exact Below.refl _ _ | with_reducible refine Below.setCell ?_ (by first | omega | (simp; done) | (simp; omega)) _ | with_reducible refine Below.alloc ?_ (by first | omega | (simp; done) | (simp; omega)) _ | with_reducible refine Below.drew ?_ | (with_reducible refine Below.trans ?_ (Below.mono (by with_reducible assumption) (by first | omega | (simp; done) | (simp; omega)))) | (refine Below.trans ?_ (Below.mono (by assumption) (by first | omega | (simp; done) | (simp; omega))))))
  have hnl : l.length ≤ 10 := by omega
  have hnn : news.length ≤ 30 := by omega
  have HF1 := Lib.hid (qkK_fits hl qkP_fits l.length (Nat.le_refl _) (by omega))
  have HF2 := Lib.hid (qkK_fits hm slP_fits news.length (Nat.le_refl _) (by omega))
  have HST := Lib.hid (fun i (hi : i < l.length) => stays (l := qkK qkP l l.length) (news := qkK slP news news.length) (t := t) (qk_un l l.length) (qkK_at qkP hi) (qk_safe hi hnl hq))
  have hll := run_len (t := t) (qkK slP news news.length) (qkK qkP l l.length)
  rw [qkK_len, qkK_len] at hll
  clear hl hm
  go_enter Try.func14, Try.ntmps14
  go_upto_region 3 with fail
  go_name_world W0 hW0
  obtain ⟨B, hB⟩ : ∃ B, B = w.heap.size := ⟨_, rfl⟩
  have hS0 : BlockIs W0 B [.int .i64 t.most, .int .i64 t.q.group, .int .i64 t.q.ping, .int .i64 t.q.work, .int .i64 t.q.time, .int .u64 t.s] 105 := by subst hW0 hB; exact BlockIs.newAt' _ _ _ (by simp)
  have b0 : Below w.heap.size w W0 := by subst hW0; (repeat (first | with_reducible assumption | with_reducible exact Below.refl _ _ | with_reducible refine Below.setCell ?_ (by first | omega | (simp; done) | (simp; omega)) _ | with_reducible refine Below.alloc ?_ (by first | omega | (simp; done) | (simp; omega)) _ | with_reducible refine Below.drew ?_ | (with_reducible refine Below.trans ?_ (Below.mono (by with_reducible assumption) (by first | omega | (simp; done) | (simp; omega)))) | (refine Below.trans ?_ (Below.mono (by assumption) (by first | omega | (simp; done) | (simp; omega))))))
  rw [← hB]
  have HS0 := Lib.hid hS0; have HB0 := Lib.hid b0
  clear hW0 hB hS0 b0
  go_wp2_with fail

  go_loopw [7, 8] (fun v' i' wr => ∃ k : Nat, k ≤ l.length ∧ i' = .int .i64 k ∧ Hid (wr.ownsRow W0.heap.size 66 10 v' k ((qkK qkP l k).flatMap peV)) ∧ Hid (Below W0.heap.size W0 wr)) (fun _ i' _ => l.length - (intOf i').toNat)
  case atStart => exact ⟨0, by omega, rfl, World.ownsRow_nil _ _ _ _, Below.refl _ _⟩
  case round =>
    obtain ⟨k, hk, rfl, HO, HB⟩ := hrel
    by_cases hlt : k < l.length
    · obtain ⟨x, hx⟩ : ∃ x, l[k]? = some x := ⟨_, List.getElem?_eq_getElem hlt⟩
      obtain ⟨b, o, rfl, h4, h5, h6⟩ := h3 (by omega)
      have K := (h6 k x hx).below (below2 HB0.out HB.out) h5
      have q1 : (0 : Int) ≤ (k : Int) := by omega
      have q2 : (k : Int) < (l.length : Int) := by omega
      have q3 : (k : Int) ≤ 1000 := by omega
      have HSN := Lib.hid (qkK_succ qkP hx)
      have hgl := HO.out.lt
      obtain ⟨k0, k1, k2, k3, k4, k5, k6, k7, k8, k9⟩ := K
      obtain ⟨pv, cv, rfl⟩ := owns_slice HO.out
      clear hx h6 h3 h32
      go_upto_region 8 with (refine list_store_blk rfl 66 _ _ rfl (wr.heap.size) _ _ 66 (BlockIs.newAt' _ _ _ (by simp)) rfl rfl (by kernel_rfl) rfl (by simp [Value.oneCell']) wr.heap.size wr (by (repeat (first | with_reducible assumption | with_reducible exact Below.refl _ _ | with_reducible refine Below.setCell ?_ (by first | omega | (simp; done) | (simp; omega)) _ | with_reducible refine Below.alloc ?_ (by first | omega | (simp; done) | (simp; omega)) _ | with_reducible refine Below.drew ?_ | (with_reducible refine Below.trans ?_ (Below.mono (by with_reducible assumption) (by first | omega | (simp; done) | (simp; omega)))) | (refine Below.trans ?_ (Below.mono (by assumption) (by first | omega | (simp; done) | (simp; omega))))))) (Nat.le_refl _) ?_; intro W5 hP hoth hsz b5; clear hoth hsz; dsimp only [Act.put])
      clear k0 k1 k2 k3 k4 k5 k6 k7 k8 k9
      have lP := hP.lt
      have fP := hP.frozen
      have x0 := hP.cell (i := 0) rfl
      have x1 := hP.cell (i := 1) rfl
      have x2 := hP.cell (i := 2) rfl
      have x3 := hP.cell (i := 3) rfl
      have x4 := hP.cell (i := 4) rfl
      have x5 := hP.cell (i := 5) rfl
      have x6 := hP.cell (i := 6) rfl
      have x7 := hP.cell (i := 7) rfl
      have x8 := hP.cell (i := 8) rfl
      have x9 := hP.cell (i := 9) rfl
      have xf := hP.frozen
      have xl := hP.lt
      go_upto_region 11 with fail
      go_name_world W6 hW6
      have hP6 : BlockIs W6 wr.heap.size (peV (qkP x k)) 66 := by subst hW6; exact ((hP.set 4 _).set 8 _).set 3 _
      have b6 : Below wr.heap.size wr W6 := by subst hW6; (repeat (first | with_reducible assumption | with_reducible exact Below.refl _ _ | with_reducible refine Below.setCell ?_ (by first | omega | (simp; done) | (simp; omega)) _ | with_reducible refine Below.alloc ?_ (by first | omega | (simp; done) | (simp; omega)) _ | with_reducible refine Below.drew ?_ | (with_reducible refine Below.trans ?_ (Below.mono (by with_reducible assumption) (by first | omega | (simp; done) | (simp; omega)))) | (refine Below.trans ?_ (Below.mono (by assumption) (by first | omega | (simp; done) | (simp; omega))))))
      have HO6 := Lib.hid (owns_below HO.out b6)
      have HB6 := Lib.hid (below2 HB.out b6)
      have hz6 : W0.heap.size ≤ W6.heap.size := HB6.out.size
      clear hW6 hP lP fP x0 x1 x2 x3 x4 x5 x6 x7 x8 x9 b5 hgl
      have x0 := hP6.cell (i := 0) rfl; have x1 := hP6.cell (i := 1) rfl; have x2 := hP6.cell (i := 2) rfl; have x3 := hP6.cell (i := 3) rfl; have x4 := hP6.cell (i := 4) rfl; have x5 := hP6.cell (i := 5) rfl; have x6 := hP6.cell (i := 6) rfl; have x7 := hP6.cell (i := 7) rfl; have x8 := hP6.cell (i := 8) rfl; have x9 := hP6.cell (i := 9) rfl
      have HB6b := Lib.hid b6
      clear hP6 b6
      go_wp2_with (at_builtin; refine list_app_reads peRow rfl (.tmp 51) (.tmp 53) rfl W0.heap.size _ k _ rfl (HO6.out.alloc _) _ 1 (peV (qkP x k)) rfl (reads_one (us := peV (qkP x k)) rfl (Nat.succ_pos 9)) (peV_one1 _) (by omega) (by omega) (by simp; omega) W0.heap.size W0 (HB6.out.alloc HB6.out.size _) (Nat.le_refl _) ?_; intro v7 w7 o7 b7)
      go_roundw
      case rel => exact ⟨k + 1, by omega, by go_num, by show World.ownsRow _ _ _ _ _ _ _; rw [HSN.out, List.flatMap_append, List.flatMap_cons, List.flatMap_nil, List.append_nil]; exact o7, b7⟩
      case measure => simp [intOf]; omega
    · obtain rfl : k = l.length := by omega
      obtain ⟨wo, rfl⟩ : ∃ wo : World, wo = wr := ⟨_, rfl⟩
      obtain ⟨pv, cv, rfl⟩ := owns_slice HO.out
      have HRl : Hid (ReadsL peV 10 wo (.slice pv l.length cv) (qkK qkP l l.length)) := by show ReadsL _ _ _ _ _; unfold ReadsL; rw [qkK_len]; exact owns_reads HO.out
      have HBw := Lib.hid (below2 HB0.out HB.out)
      have HSo := Lib.hid (HS0.out.below HB.out)
      clear HO HB HB0 HS0 hlt
      go_wp2_with fail
      go_loopw [10, 11] (fun v' i' wr => ∃ k : Nat, k ≤ news.length ∧ i' = .int .i64 k ∧ Hid (wr.ownsRow wo.heap.size 66 10 v' k ((qkK slP news k).flatMap peV)) ∧ Hid (Below wo.heap.size wo wr)) (fun _ i' _ => news.length - (intOf i').toNat)
      case atStart => exact ⟨0, by omega, rfl, World.ownsRow_nil _ _ _ _, Below.refl _ _⟩
      case round =>
        obtain ⟨k, hk, rfl, HO, HB⟩ := hrel
        by_cases hlt : k < news.length
        · obtain ⟨x, hx⟩ : ∃ x, news[k]? = some x := ⟨_, List.getElem?_eq_getElem hlt⟩
          obtain ⟨b, o, rfl, h4, h5, h6⟩ := h32 (by omega)
          have K := (h6 k x hx).below (below2 HBw.out HB.out) h5
          have q1 : (0 : Int) ≤ (k : Int) := by omega
          have q2 : (k : Int) < (news.length : Int) := by omega
          have q3 : (k : Int) ≤ 1000 := by omega
          have HSN := Lib.hid (qkK_succ slP hx)
          have hgl := HO.out.lt
          obtain ⟨k0, k1, k2, k3, k4, k5, k6, k7, k8, k9⟩ := K
          obtain ⟨pv, cv, rfl⟩ := owns_slice HO.out
          clear hx h6 h3 h32
          go_upto_region 17 with (refine list_store_blk rfl 66 _ _ rfl (wr.heap.size) _ _ 66 (BlockIs.newAt' _ _ _ (by simp)) rfl rfl (by kernel_rfl) rfl (by simp [Value.oneCell']) wr.heap.size wr (by (repeat (first | with_reducible assumption | with_reducible exact Below.refl _ _ | with_reducible refine Below.setCell ?_ (by first | omega | (simp; done) | (simp; omega)) _ | with_reducible refine Below.alloc ?_ (by first | omega | (simp; done) | (simp; omega)) _ | with_reducible refine Below.drew ?_ | (with_reducible refine Below.trans ?_ (Below.mono (by with_reducible assumption) (by first | omega | (simp; done) | (simp; omega)))) | (refine Below.trans ?_ (Below.mono (by assumption) (by first | omega | (simp; done) | (simp; omega))))))) (Nat.le_refl _) ?_; intro W5 hP hoth hsz b5; clear hoth hsz; dsimp only [Act.put])
          clear k0 k1 k2 k3 k4 k5 k6 k7 k8 k9
          have lP := hP.lt
          have fP := hP.frozen
          have x0 := hP.cell (i := 0) rfl
          have x1 := hP.cell (i := 1) rfl
          have x2 := hP.cell (i := 2) rfl
          have x3 := hP.cell (i := 3) rfl
          have x4 := hP.cell (i := 4) rfl
          have x5 := hP.cell (i := 5) rfl
          have x6 := hP.cell (i := 6) rfl
          have x7 := hP.cell (i := 7) rfl
          have x8 := hP.cell (i := 8) rfl
          have x9 := hP.cell (i := 9) rfl
          have xf := hP.frozen
          have xl := hP.lt
          go_upto_region 19 with fail
          go_name_world W6 hW6
          have hP6 : BlockIs W6 wr.heap.size (peV (slP x k)) 66 := by subst hW6; exact (hP.set 8 _).set 3 _
          have b6 : Below wr.heap.size wr W6 := by subst hW6; (repeat (first | with_reducible assumption | with_reducible exact Below.refl _ _ | with_reducible refine Below.setCell ?_ (by first | omega | (simp; done) | (simp; omega)) _ | with_reducible refine Below.alloc ?_ (by first | omega | (simp; done) | (simp; omega)) _ | with_reducible refine Below.drew ?_ | (with_reducible refine Below.trans ?_ (Below.mono (by with_reducible assumption) (by first | omega | (simp; done) | (simp; omega)))) | (refine Below.trans ?_ (Below.mono (by assumption) (by first | omega | (simp; done) | (simp; omega))))))
          have HO6 := Lib.hid (owns_below HO.out b6)
          have HB6 := Lib.hid (below2 HB.out b6)
          have hz6 : wo.heap.size ≤ W6.heap.size := HB6.out.size
          clear hW6 hP lP fP x0 x1 x2 x3 x4 x5 x6 x7 x8 x9 b5 hgl
          have x0 := hP6.cell (i := 0) rfl; have x1 := hP6.cell (i := 1) rfl; have x2 := hP6.cell (i := 2) rfl; have x3 := hP6.cell (i := 3) rfl; have x4 := hP6.cell (i := 4) rfl; have x5 := hP6.cell (i := 5) rfl; have x6 := hP6.cell (i := 6) rfl; have x7 := hP6.cell (i := 7) rfl; have x8 := hP6.cell (i := 8) rfl; have x9 := hP6.cell (i := 9) rfl
          have HB6b := Lib.hid b6
          clear hP6 b6
          go_wp2_with (at_builtin; refine list_app_reads peRow rfl (.tmp 72) (.tmp 74) rfl wo.heap.size _ k _ rfl (HO6.out.alloc _) _ 1 (peV (slP x k)) rfl (reads_one (us := peV (slP x k)) rfl (Nat.succ_pos 9)) (peV_one1 _) (by omega) (by omega) (by simp; omega) wo.heap.size wo (HB6.out.alloc HB6.out.size _) (Nat.le_refl _) ?_; intro v7 w7 o7 b7)
          go_roundw
          case rel => exact ⟨k + 1, by omega, by go_num, by show World.ownsRow _ _ _ _ _ _ _; rw [HSN.out, List.flatMap_append, List.flatMap_cons, List.flatMap_nil, List.append_nil]; exact o7, b7⟩
          case measure => simp [intOf]; omega
        · obtain rfl : k = news.length := by omega
          obtain ⟨wm, rfl⟩ : ∃ wo : World, wo = wr := ⟨_, rfl⟩
          obtain ⟨pn, cn, rfl⟩ := owns_slice HO.out
          have HRn : Hid (ReadsL peV 10 wm (.slice pn news.length cn) (qkK slP news news.length)) := by show ReadsL _ _ _ _ _; unfold ReadsL; rw [qkK_len]; exact owns_reads HO.out
          have HRm := Lib.hid (ReadsL.below HRl.out HB.out)
          have HBm := Lib.hid (below2 HBw.out HB.out)
          have hSr := HSo.out.below HB.out
          clear HO HB HBw HSo hlt
          have HRun := Lib.hid (run_any _ _ (qkK qkP l l.length) (qkK slP news news.length) HF1.out HF2.out t ht wm HRm.out HRn.out (by rw [qkK_len, qkK_len]; omega))
          have hlq := qkK_len qkP l l.length
          generalize siL (qkK qkP l l.length) (qkK slP news news.length) t = last at *
          have HLQ := Lib.hid hlq
          clear hlq
          have s0 := hSr.cell (i := 0) rfl; have s1 := hSr.cell (i := 1) rfl; have s2 := hSr.cell (i := 2) rfl; have s3 := hSr.cell (i := 3) rfl; have s4 := hSr.cell (i := 4) rfl; have s5 := hSr.cell (i := 5) rfl
          clear hSr
          go_wp2_with (go_at_call 81; (with_reducible refine HRun.out.mono ?_); rintro e w3 ⟨r3, rfl, rd3, b3⟩; obtain ⟨hm3, p3, c3, rfl, h53⟩ := pes_open rd3; have H53 := Lib.hid h53; have HR3 := Lib.hid rd3; have HB3 := Lib.hid b3; clear h53 rd3 b3)
          clear s0 s1 s2 s3 s4 s5
          have HRl3 := Lib.hid (ReadsL.below HRm.out HB3.out)
          have HBz := Lib.hid (below2 HBm.out HB3.out)
          clear HRm HBm HB3 HRun HRn
          obtain ⟨hml, pl, cl, e0, h3l⟩ := pes_open HRl3.out
          rw [HLQ.out] at e0 h3l
          injection e0 with e1 _ e2
          subst e1 e2
          go_loopw [14] (fun i' wr => ∃ k : Nat, k ≤ l.length ∧ i' = .int .i64 k ∧ Hid (Below w3.heap.size w3 wr)) (fun i' _ => l.length - (intOf i').toNat)
          case atStart => exact ⟨0, by omega, rfl, Below.refl _ _⟩
          case round =>
            obtain ⟨k, hk, rfl, HB⟩ := hrel
            by_cases hlt : k < l.length
            · obtain ⟨b, o, rfl, h4, h5, h6⟩ := h3l (by omega)
              have hxk := qkK_at qkP (l := l) (k := l.length) hlt
              obtain ⟨j, hj, hj2⟩ := HST.out k hlt
              generalize qkP (rkGet l k) k = x at *
              have HK := Lib.hid (h6 k x hxk)
              have hjl := (List.getElem?_eq_some_iff.1 hj2).1
              obtain ⟨b2, o2, rfl, h42, h52, h62⟩ := H53.out (by omega)
              have HK2 := Lib.hid (h62 j x hj2)
              have hI := fun W (hW : Below w3.heap.size w3 W) => refIndex_any _ last x.en W (ReadsL.below HR3.out hW)
              rw [hj] at hI
              have HI := Lib.hid hI
              have q1 : (0 : Int) ≤ (k : Int) := by omega
              have q2 : (k : Int) < (l.length : Int) := by omega
              have q3 : (0 : Int) ≤ (j : Int) := by omega
              have q4 : (j : Int) < (last.length : Int) := by omega
              have q5 : decide ((j : Int) < 0) = false := decide_eq_false (by omega)
              clear hj hj2 h62 hI h6 h3l hxk
              obtain ⟨k0, k1, k2, k3, k4, k5, k6, k7, k8, k9⟩ := HK.out.below HB.out h5
              go_upto_region 25 with (go_at_call 60; (with_reducible refine (HI.out _ HB.out).mono ?_); rintro e w4 ⟨rfl, b4⟩)
              have HB4 := Lib.hid (below2 HB.out b4)
              have X := (HK.out.below HB4.out h5).ext (Nat.lt_of_lt_of_le h5 HB4.out.size)
              have Y := (HK2.out.below HB4.out h52).ext (Nat.lt_of_lt_of_le h52 HB4.out.size)
              have hNE := fun W => neqPe_one x W
              have x0 := fun y => (X y).1; have x1 := fun y => (X y).2.1; have x2 := fun y => (X y).2.2.1; have x3 := fun y => (X y).2.2.2.1; have x4 := fun y => (X y).2.2.2.2.1; have x5 := fun y => (X y).2.2.2.2.2.1; have x6 := fun y => (X y).2.2.2.2.2.2.1; have x7 := fun y => (X y).2.2.2.2.2.2.2.1; have x8 := fun y => (X y).2.2.2.2.2.2.2.2.1; have x9 := fun y => (X y).2.2.2.2.2.2.2.2.2
              have y0 := fun y => (Y y).1; have y1 := fun y => (Y y).2.1; have y2 := fun y => (Y y).2.2.1; have y3 := fun y => (Y y).2.2.2.1; have y4 := fun y => (Y y).2.2.2.2.1; have y5 := fun y => (Y y).2.2.2.2.2.1; have y6 := fun y => (Y y).2.2.2.2.2.2.1; have y7 := fun y => (Y y).2.2.2.2.2.2.2.1; have y8 := fun y => (Y y).2.2.2.2.2.2.2.2.1; have y9 := fun y => (Y y).2.2.2.2.2.2.2.2.2
              clear b4 k0 k1 k2 k3 k4 k5 k6 k7 k8 k9 X Y
              refine wp_region_ext (by kernel_rfl) (by kernel_rfl) ?_
              repeat (go_big_quiet_step (fail))
              refine wpQuiet_nil ?_
              first | (intro _ hw'; obtain ⟨gx, hw''⟩ := hw'; subst hw'') | intro gx
              clear x0 x1 x2 x3 x4 x5 x6 x7 x8 x9 y0 y1 y2 y3 y4 y5 y6 y7 y8 y9 hNE
              go_wp2_with fail
              go_roundw
              case rel => exact ⟨k + 1, by omega, by go_num, below2 HB4.out (ext_below w4 gx)⟩
              case measure => simp [intOf]; omega
            · obtain rfl : k = l.length := by omega
              go_wp2_with (go_at_call 76; (with_reducible refine (HA.out _).mono ?_); rintro e w5 ⟨rfl, b5⟩)
              go_ret
              exact ⟨rfl, below2 HBz.out (below2 HB.out b5)⟩


end Go.Proofs.Ytppmjbnhghaffaa
