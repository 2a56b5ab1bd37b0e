/- Texts put together: LawSiege, LawSiegeC. No condition. -/
import Derived.Test.YtppmjbnhghaffaaUnl
/- The law of sieges: awake. No condition. -/
namespace Go.Proofs.Ytppmjbnhghaffaa
open Go.RowKit

set_option maxRecDepth 100000 in
set_option maxHeartbeats 16000000 in
theorem awake22_any (w : World) : Calls Try.prog 76 #[] w fun e w' => e = .returned (.bool true) ∧ Below w.heap.size w w' := by
  have AT := Lib.hid (fun (p q : Int) (w : World) => at22_any p q w)
  have f1 : (p22 1 3).fits := p22_fits (by omega) (by omega)
  have f2 : (p22 2 5).fits := p22_fits (by omega) (by omega)
  have f3 : (p22 3 9).fits := p22_fits (by omega) (by omega)
  have f4 : (p22 4 8).fits := p22_fits (by omega) (by omega)
  have hz : ∀ W : World, ReadsL peV 10 W (.slice none 0 0) [] := fun W => ⟨rfl, by simp, Or.inl ⟨rfl, none, 0, rfl⟩⟩
  have H1 : Hid (∀ W, Calls Try.prog 79 #[.slice none 0 0, .agg #[.bool false, .int .u64 0, .int .u64 1, .int .i64 1, .bool true, .int .i64 1, .int .i64 0, .int .i64 0, .int .i64 3, .int .i64 0], .agg #[.int .i64 1, .int .i64 0, .int .i64 1, .int .i64 0, .int .i64 0, .int .u64 7]] W fun e w' => ∃ r, e = .returned (.tuple #[r, .agg #[.bool false, .int .u64 0, .int .u64 0, .int .i64 0], .int .i64 0]) ∧ ReadsL peV 10 w' r [p22 1 3] ∧ Below W.heap.size W w') := fun W => by
    have := arrive_any (.slice none 0 0) [] (by simp) (p22 1 3) t22 t22_fits W (hz W) (by simp)
    rw [a22_1.1, a22_1.2.1, a22_1.2.2] at this; exact this
  have H2 : Hid (∀ (W : World) (r : Value), ReadsL peV 10 W r [p22 1 3] → Calls Try.prog 79 #[r, .agg #[.bool false, .int .u64 0, .int .u64 1, .int .i64 2, .bool true, .int .i64 2, .int .i64 0, .int .i64 0, .int .i64 5, .int .i64 0], .agg #[.int .i64 1, .int .i64 0, .int .i64 1, .int .i64 0, .int .i64 0, .int .u64 7]] W fun e w' => ∃ q, e = .returned (.tuple #[q, .agg #[.bool false, .int .u64 0, .int .u64 0, .int .i64 0], .int .i64 5]) ∧ Below W.heap.size W w') := fun W r hr => by
    have := arrive_any r [p22 1 3] (by simpa using f1) (p22 2 5) t22 t22_fits W hr (by simp)
    rw [a22_2.1, a22_2.2] at this
    exact this.mono fun e w' ⟨q, he, _, hb⟩ => ⟨q, he, hb⟩
  have H3 : Hid (∀ (W : World) (r : Value) (b : Nat), ReadsL peV 10 W r [p22 1 3] → BlockIs W b [.bool false, .int .u64 0, .int .u64 1, .int .i64 3, .bool true, .int .i64 3, .int .i64 0, .int .i64 0, .int .i64 9, .int .i64 0, .bool false, .int .u64 0, .int .u64 1, .int .i64 4, .bool true, .int .i64 4, .int .i64 0, .int .i64 0, .int .i64 8, .int .i64 0] 66 → Calls Try.prog 81 #[r, .slice (some ⟨b, 0, none⟩) 2 2, .agg #[.int .i64 1, .int .i64 0, .int .i64 1, .int .i64 0, .int .i64 0, .int .u64 7]] W fun e w' => ∃ q, e = .returned q ∧ ReadsL peV 10 w' q [p22 1 3] ∧ Below W.heap.size W w') := fun W r b hr hB => by
    have hB' : BlockIs W b ([p22 3 9, p22 4 8].flatMap peV) 66 := hB
    have := run_any r (.slice (some ⟨b, 0, none⟩) 2 2) [p22 1 3] [p22 3 9, p22 4 8] (by simpa using f1) (fun x hx => by simp only [List.mem_cons, List.not_mem_nil, or_false] at hx; rcases hx with rfl | rfl; exact f3; exact f4) t22 t22_fits W hr (reads_blkC hB' (by decide) (by decide) (by decide)) (by decide)
    rw [a22_3] at this; exact this
  have H4 : Hid (∀ (W : World) (r : Value) (b : Nat), ReadsL peV 10 W r [p22 1 3] → BlockIs W b [.bool false, .int .u64 0, .int .u64 1, .int .i64 3, .bool true, .int .i64 3, .int .i64 0, .int .i64 0, .int .i64 9, .int .i64 0] 66 → Calls Try.prog 77 #[r, .slice (some ⟨b, 0, none⟩) 1 1, .int .i64 0, .agg #[.int .i64 1, .int .i64 0, .int .i64 1, .int .i64 0, .int .i64 0, .int .u64 7]] W fun e w' => e = .returned (.bool true) ∧ Below W.heap.size W w') := fun W r b hr hB => by
    have hB' : BlockIs W b ([p22 3 9].flatMap peV) 66 := hB
    have := safe_any r (.slice (some ⟨b, 0, none⟩) 1 1) [p22 1 3] [p22 3 9] (by simpa using f1) (by simpa using f3) 0 (by decide) t22 t22_fits W hr (reads_blkC hB' (by decide) (by decide) (by decide)) (by decide)
    rw [a22_4] at this; exact this
  clear f1 f2 f3 f4 hz
  go_enter Try.func76, Try.ntmps76
  go_upto_region 2 with fail
  go_name_world W0 hW0
  obtain ⟨B, hB⟩ : ∃ B, B = w.heap.size := ⟨_, rfl⟩
  have hS0 : BlockIs W0 B [.int .i64 1, .int .i64 0, .int .i64 1, .int .i64 0, .int .i64 0, .int .u64 7] 105 := by subst hW0 hB; exact BlockIs.newAt' _ _ _ (by simp)
  have b0 : Below w.heap.size w W0 := by subst hW0; (repeat (first | with_reducible assumption | with_reducible exact Below.refl _ _ | with_reducible refine Below.setCell ?_ (by first | omega | (simp; done) | (simp; omega)) _ | with_reducible refine Below.alloc ?_ (by first | omega | (simp; done) | (simp; omega)) _ | with_reducible refine Below.drew ?_ | (with_reducible refine Below.trans ?_ (Below.mono (by with_reducible assumption) (by first | omega | (simp; done) | (simp; omega)))) | (refine Below.trans ?_ (Below.mono (by assumption) (by first | omega | (simp; done) | (simp; omega))))))
  rw [← hB]
  have HS0 := Lib.hid hS0; have HB0 := Lib.hid b0
  have hl0 := hS0.lt
  have n0 : B ≠ W0.heap.size := by omega
  have m0 : W0.heap.size ≠ B := by omega
  have s0 := hS0.cell (i := 0) rfl; have s1 := hS0.cell (i := 1) rfl; have s2 := hS0.cell (i := 2) rfl; have s3 := hS0.cell (i := 3) rfl; have s4 := hS0.cell (i := 4) rfl; have s5 := hS0.cell (i := 5) rfl
  clear hW0 hB hS0 b0
  go_region_held3 (fun w' => w'.cell? ⟨B, 0, none⟩ = some (.int .i64 1) ∧ w'.cell? ⟨B, 1, none⟩ = some (.int .i64 0) ∧ w'.cell? ⟨B, 2, none⟩ = some (.int .i64 1) ∧ w'.cell? ⟨B, 3, none⟩ = some (.int .i64 0) ∧ w'.cell? ⟨B, 4, none⟩ = some (.int .i64 0) ∧ w'.cell? ⟨B, 5, none⟩ = some (.int .u64 7)) (first | go_keep | (simp (disch := omega) [*]; done)) (first | (go_at_call 117; (with_reducible refine ((AT.out 1 3) _).mono ?_); rintro e w1 ⟨rfl, b1⟩; obtain ⟨c1, f1⟩ := bcell b1; have z1 := b1.size; (try simp at z1); have d1 := fun o => c1 B o (by first | omega | (simp; done) | (simp; omega)); clear c1 f1; have n1 : B ≠ w1.heap.size := (by omega); have m1 : w1.heap.size ≠ B := (by omega)) | (go_at_call 79; (with_reducible refine (H1.out _).mono ?_); rintro e w2 ⟨r2, rfl, rd2, b2⟩; obtain ⟨c2, f2⟩ := bcell b2; have z2 := b2.size; (try simp at z2); have d2 := fun o => c2 B o (by first | omega | (simp; done) | (simp; omega)); clear c2 f2; have n2 : B ≠ w2.heap.size := (by omega); have m2 : w2.heap.size ≠ B := (by omega); (first | (have hE2 : BlockIs w2 w1.heap.size [.bool false, .int .u64 0, .int .u64 0, .int .i64 0] 34 := BlockIs.below (BlockIs.newAt' w1 _ _ rfl) b2; have x0 := hE2.cell (i := 0) rfl; have x1 := hE2.cell (i := 1) rfl; have x2 := hE2.cell (i := 2) rfl; have x3 := hE2.cell (i := 3) rfl; have lE := hE2.lt; have fE := hE2.frozen) | (have hE2 : BlockIs w2 W0.heap.size [.bool false, .int .u64 0, .int .u64 0, .int .i64 0] 34 := BlockIs.below (BlockIs.below (BlockIs.drew' (BlockIs.newAt' W0 _ _ rfl)) b1) b2; have x0 := hE2.cell (i := 0) rfl; have x1 := hE2.cell (i := 1) rfl; have x2 := hE2.cell (i := 2) rfl; have x3 := hE2.cell (i := 3) rfl; have lE := hE2.lt; have fE := hE2.frozen) | (have hE2 : BlockIs w2 W0.heap.size [.bool false, .int .u64 0, .int .u64 0, .int .i64 0] 34 := BlockIs.below (BlockIs.below (BlockIs.newAt' W0.drew _ _ rfl) b1) b2; have x0 := hE2.cell (i := 0) rfl; have x1 := hE2.cell (i := 1) rfl; have x2 := hE2.cell (i := 2) rfl; have x3 := hE2.cell (i := 3) rfl; have lE := hE2.lt; have fE := hE2.frozen) | skip)) | fail)
  all_goals
    go_wp2_with fail
    go_name_world W3 hW3
    have hb03 : Below W0.heap.size W0 W3 := by subst hW3; (repeat (first | with_reducible assumption | with_reducible exact Below.refl _ _ | with_reducible refine Below.setCell ?_ (by first | omega | (simp; done) | (simp; omega)) _ | with_reducible refine Below.alloc ?_ (by first | omega | (simp; done) | (simp; omega)) _ | with_reducible refine Below.drew ?_ | (with_reducible refine Below.trans ?_ (Below.mono (by with_reducible assumption) (by first | omega | (simp; done) | (simp; omega)))) | (refine Below.trans ?_ (Below.mono (by assumption) (by first | omega | (simp; done) | (simp; omega))))))
    have hR3 : ReadsL peV 10 W3 r2 [p22 1 3] := by subst hW3; first | exact readsP_end rd2 hE2 _ _ _ _ | exact ReadsL.below rd2 (by (repeat (first | with_reducible assumption | with_reducible exact Below.refl _ _ | with_reducible refine Below.setCell ?_ (by first | omega | (simp; done) | (simp; omega)) _ | with_reducible refine Below.alloc ?_ (by first | omega | (simp; done) | (simp; omega)) _ | with_reducible refine Below.drew ?_ | (with_reducible refine Below.trans ?_ (Below.mono (by with_reducible assumption) (by first | omega | (simp; done) | (simp; omega)))) | (refine Below.trans ?_ (Below.mono (by assumption) (by first | omega | (simp; done) | (simp; omega)))))))
    have HR3 := Lib.hid hR3; have HB3 := Lib.hid (below2 HB0.out hb03)
    have hS3 := HS0.out.below hb03
    have HS3 := Lib.hid hS3
    have hl3 := hS3.lt
    have n3 : B ≠ W3.heap.size := by omega
    have m3 : W3.heap.size ≠ B := by omega
    clear s0 s1 s2 s3 s4 s5 d1 d2 z1 z2 hW3 hb03 hR3 n1 m1 n2 m2
    try clear x0 x1 x2 x3 lE fE hE2
    clear b2 rd2
    clear b1 HB0 HS0 hl0 n0 m0
    have s0 := hS3.cell (i := 0) rfl; have s1 := hS3.cell (i := 1) rfl; have s2 := hS3.cell (i := 2) rfl; have s3 := hS3.cell (i := 3) rfl; have s4 := hS3.cell (i := 4) rfl; have s5 := hS3.cell (i := 5) rfl
    clear hS3
    go_region_held3 (fun w' => w'.cell? ⟨B, 0, none⟩ = some (.int .i64 1) ∧ w'.cell? ⟨B, 1, none⟩ = some (.int .i64 0) ∧ w'.cell? ⟨B, 2, none⟩ = some (.int .i64 1) ∧ w'.cell? ⟨B, 3, none⟩ = some (.int .i64 0) ∧ w'.cell? ⟨B, 4, none⟩ = some (.int .i64 0) ∧ w'.cell? ⟨B, 5, none⟩ = some (.int .u64 7)) (first | go_keep | (simp (disch := omega) [*]; done)) (first | (go_at_call 117; (with_reducible refine ((AT.out 2 5) _).mono ?_); rintro e w1 ⟨rfl, b1⟩; obtain ⟨c1, f1⟩ := bcell b1; have z1 := b1.size; (try simp at z1); have d1 := fun o => c1 B o (by first | omega | (simp; done) | (simp; omega)); clear c1 f1; have n1 : B ≠ w1.heap.size := (by omega); have m1 : w1.heap.size ≠ B := (by omega)) | (go_at_call 79; (with_reducible refine (H2.out _ _ (ReadsL.below HR3.out (by (repeat (first | with_reducible assumption | with_reducible exact Below.refl _ _ | with_reducible refine Below.setCell ?_ (by first | omega | (simp; done) | (simp; omega)) _ | with_reducible refine Below.alloc ?_ (by first | omega | (simp; done) | (simp; omega)) _ | with_reducible refine Below.drew ?_ | (with_reducible refine Below.trans ?_ (Below.mono (by with_reducible assumption) (by first | omega | (simp; done) | (simp; omega)))) | (refine Below.trans ?_ (Below.mono (by assumption) (by first | omega | (simp; done) | (simp; omega))))))))).mono ?_); rintro e w2 ⟨r4, rfl, b2⟩; obtain ⟨c2, f2⟩ := bcell b2; have z2 := b2.size; (try simp at z2); have d2 := fun o => c2 B o (by first | omega | (simp; done) | (simp; omega)); clear c2 f2; have n2 : B ≠ w2.heap.size := (by omega); have m2 : w2.heap.size ≠ B := (by omega); (first | (have hE2 : BlockIs w2 w1.heap.size [.bool false, .int .u64 0, .int .u64 0, .int .i64 0] 34 := BlockIs.below (BlockIs.newAt' w1 _ _ rfl) b2; have x0 := hE2.cell (i := 0) rfl; have x1 := hE2.cell (i := 1) rfl; have x2 := hE2.cell (i := 2) rfl; have x3 := hE2.cell (i := 3) rfl; have lE := hE2.lt; have fE := hE2.frozen) | (have hE2 : BlockIs w2 W3.heap.size [.bool false, .int .u64 0, .int .u64 0, .int .i64 0] 34 := BlockIs.below (BlockIs.below (BlockIs.drew' (BlockIs.newAt' W3 _ _ rfl)) b1) b2; have x0 := hE2.cell (i := 0) rfl; have x1 := hE2.cell (i := 1) rfl; have x2 := hE2.cell (i := 2) rfl; have x3 := hE2.cell (i := 3) rfl; have lE := hE2.lt; have fE := hE2.frozen) | (have hE2 : BlockIs w2 W3.heap.size [.bool false, .int .u64 0, .int .u64 0, .int .i64 0] 34 := BlockIs.below (BlockIs.below (BlockIs.newAt' W3.drew _ _ rfl) b1) b2; have x0 := hE2.cell (i := 0) rfl; have x1 := hE2.cell (i := 1) rfl; have x2 := hE2.cell (i := 2) rfl; have x3 := hE2.cell (i := 3) rfl; have lE := hE2.lt; have fE := hE2.frozen) | skip)) | fail)
    all_goals
      go_wp2_with fail
      go_name_world W4 hW4
      have hb34 : Below W3.heap.size W3 W4 := by subst hW4; (repeat (first | with_reducible assumption | with_reducible exact Below.refl _ _ | with_reducible refine Below.setCell ?_ (by first | omega | (simp; done) | (simp; omega)) _ | with_reducible refine Below.alloc ?_ (by first | omega | (simp; done) | (simp; omega)) _ | with_reducible refine Below.drew ?_ | (with_reducible refine Below.trans ?_ (Below.mono (by with_reducible assumption) (by first | omega | (simp; done) | (simp; omega)))) | (refine Below.trans ?_ (Below.mono (by assumption) (by first | omega | (simp; done) | (simp; omega))))))
      have HR4 := Lib.hid (ReadsL.below HR3.out hb34); have HB4 := Lib.hid (below2 HB3.out hb34)
      have hS4 := HS3.out.below hb34
      have HS4 := Lib.hid hS4
      have hl4 := hS4.lt
      have n4 : B ≠ W4.heap.size := by omega
      have m4 : W4.heap.size ≠ B := by omega
      clear s0 s1 s2 s3 s4 s5 d1 d2 z1 z2 hW4 hb34 n1 m1 n2 m2
      try clear x0 x1 x2 x3 lE fE hE2
      clear b2
      clear b1 HB3 HS3 hl3 n3 m3 HR3
      have s0 := hS4.cell (i := 0) rfl; have s1 := hS4.cell (i := 1) rfl; have s2 := hS4.cell (i := 2) rfl; have s3 := hS4.cell (i := 3) rfl; have s4 := hS4.cell (i := 4) rfl; have s5 := hS4.cell (i := 5) rfl
      clear hS4
      go_region_held3 (fun w' => w'.cell? ⟨B, 0, none⟩ = some (.int .i64 1) ∧ w'.cell? ⟨B, 1, none⟩ = some (.int .i64 0) ∧ w'.cell? ⟨B, 2, none⟩ = some (.int .i64 1) ∧ w'.cell? ⟨B, 3, none⟩ = some (.int .i64 0) ∧ w'.cell? ⟨B, 4, none⟩ = some (.int .i64 0) ∧ w'.cell? ⟨B, 5, none⟩ = some (.int .u64 7)) (first | go_keep | (simp (disch := omega) [*]; done)) (first | (go_at_call 117; (with_reducible refine ((AT.out 3 9) _).mono ?_); rintro e w1 ⟨rfl, b1⟩; obtain ⟨c1, f1⟩ := bcell b1; have z1 := b1.size; (try simp at z1); have d1 := fun o => c1 B o (by first | omega | (simp; done) | (simp; omega)); clear c1 f1; have n1 : B ≠ w1.heap.size := (by omega); have m1 : w1.heap.size ≠ B := (by omega)) | (go_at_call 117; (with_reducible refine ((AT.out 4 8) _).mono ?_); rintro e w2 ⟨rfl, b2⟩; obtain ⟨c2, f2⟩ := bcell b2; have z2 := b2.size; (try simp at z2); have d2 := fun o => c2 B o (by first | omega | (simp; done) | (simp; omega)); clear c2 f2; have n2 : B ≠ w2.heap.size := (by omega); have m2 : w2.heap.size ≠ B := (by omega)) | (go_at_call 81; (with_reducible refine (H3.out _ _ _ (ReadsL.below HR4.out (by (repeat (first | with_reducible assumption | with_reducible exact Below.refl _ _ | with_reducible refine Below.setCell ?_ (by first | omega | (simp; done) | (simp; omega)) _ | with_reducible refine Below.alloc ?_ (by first | omega | (simp; done) | (simp; omega)) _ | with_reducible refine Below.drew ?_ | (with_reducible refine Below.trans ?_ (Below.mono (by with_reducible assumption) (by first | omega | (simp; done) | (simp; omega)))) | (refine Below.trans ?_ (Below.mono (by assumption) (by first | omega | (simp; done) | (simp; omega)))))))) ?_).mono ?_); (exact BlockIs.newAt' _ _ _ rfl); rintro e w3 ⟨r5, rfl, rd5, b3⟩; obtain ⟨hm5, a5, c5, rfl, h5⟩ := pes_open rd5; have H5 := Lib.hid (h5 (by simp)); clear h5; obtain ⟨c3, f3⟩ := bcell b3; have z3 := b3.size; (try simp at z3); have d3 := fun o => c3 B o (by first | omega | (simp; done) | (simp; omega)); clear c3 f3; have n3 : B ≠ w3.heap.size := (by omega); have m3 : w3.heap.size ≠ B := (by omega)) | fail)
      go_wp2_with fail
      go_name_world W5 hW5
      obtain ⟨b5, o5, rfl, hc5, hlt5, hp5⟩ := H5.out
      have y5 : w3.cell? ⟨b5, o5 + 3, none⟩ = some (.int .i64 1) := (hp5 0 (p22 1 3) rfl).2.2.2.1
      have x5 : W5.cell? ⟨b5, o5 + 3, none⟩ = some (.int .i64 1) := by subst hW5; simpa using y5
      have l5 : b5 < W5.heap.size := by subst hW5; simpa using hlt5
      have hb45 : Below W4.heap.size W4 W5 := by subst hW5; (repeat (first | with_reducible assumption | with_reducible exact Below.refl _ _ | with_reducible refine Below.setCell ?_ (by first | omega | (simp; done) | (simp; omega)) _ | with_reducible refine Below.alloc ?_ (by first | omega | (simp; done) | (simp; omega)) _ | with_reducible refine Below.drew ?_ | (with_reducible refine Below.trans ?_ (Below.mono (by with_reducible assumption) (by first | omega | (simp; done) | (simp; omega)))) | (refine Below.trans ?_ (Below.mono (by assumption) (by first | omega | (simp; done) | (simp; omega))))))
      have HR5 := Lib.hid (ReadsL.below HR4.out hb45); have HB5 := Lib.hid (below2 HB4.out hb45)
      have hS5 := HS4.out.below hb45
      have l0 := hS5.lt
      clear s0 s1 s2 s3 s4 s5 d1 d2 d3 z1 z2 z3 hW5 hb45 n1 m1 n2 m2 n3 m3 y5 hp5 hlt5 H5
      clear b3 rd5
      clear b2
      clear b1 HB4 HS4 hl4 n4 m4 HR4
      have s0 := hS5.cell (i := 0) rfl; have s1 := hS5.cell (i := 1) rfl; have s2 := hS5.cell (i := 2) rfl; have s3 := hS5.cell (i := 3) rfl; have s4 := hS5.cell (i := 4) rfl; have s5 := hS5.cell (i := 5) rfl
      clear hS5
      go_region_held3 (fun w' => w'.cell? ⟨B, 0, none⟩ = some (.int .i64 1) ∧ w'.cell? ⟨B, 1, none⟩ = some (.int .i64 0) ∧ w'.cell? ⟨B, 2, none⟩ = some (.int .i64 1) ∧ w'.cell? ⟨B, 3, none⟩ = some (.int .i64 0) ∧ w'.cell? ⟨B, 4, none⟩ = some (.int .i64 0) ∧ w'.cell? ⟨B, 5, none⟩ = some (.int .u64 7) ∧ w'.cell? ⟨b5, o5 + 3, none⟩ = some (.int .i64 1)) (first | go_keep | (simp (disch := omega) [*]; done)) (first | (go_at_call 117; (with_reducible refine ((AT.out 3 9) _).mono ?_); rintro e w1 ⟨rfl, b1⟩; obtain ⟨c1, f1⟩ := bcell b1; have z1 := b1.size; (try simp at z1); have d1 := fun o => c1 B o (by first | omega | (simp; done) | (simp; omega)); have db51 := fun o => c1 b5 o (by first | omega | (simp; done) | (simp; omega)); clear c1 f1; have n1 : B ≠ w1.heap.size := (by omega); have m1 : w1.heap.size ≠ B := (by omega)) | (go_at_call 77; (with_reducible refine (H4.out _ _ _ (ReadsL.below HR5.out (by (repeat (first | with_reducible assumption | with_reducible exact Below.refl _ _ | with_reducible refine Below.setCell ?_ (by first | omega | (simp; done) | (simp; omega)) _ | with_reducible refine Below.alloc ?_ (by first | omega | (simp; done) | (simp; omega)) _ | with_reducible refine Below.drew ?_ | (with_reducible refine Below.trans ?_ (Below.mono (by with_reducible assumption) (by first | omega | (simp; done) | (simp; omega)))) | (refine Below.trans ?_ (Below.mono (by assumption) (by first | omega | (simp; done) | (simp; omega)))))))) ?_).mono ?_); (exact BlockIs.newAt' _ _ _ rfl); rintro e w2 ⟨rfl, b2⟩; obtain ⟨c2, f2⟩ := bcell b2; have z2 := b2.size; (try simp at z2); have d2 := fun o => c2 B o (by first | omega | (simp; done) | (simp; omega)); have db52 := fun o => c2 b5 o (by first | omega | (simp; done) | (simp; omega)); clear c2 f2; have n2 : B ≠ w2.heap.size := (by omega); have m2 : w2.heap.size ≠ B := (by omega)) | fail)
      all_goals
        go_wp2_with fail
        go_ret
        refine ⟨rfl, below2 HB5.out ?_⟩
        (repeat (first | with_reducible assumption | with_reducible exact Below.refl _ _ | with_reducible refine Below.setCell ?_ (by first | omega | (simp; done) | (simp; omega)) _ | with_reducible refine Below.alloc ?_ (by first | omega | (simp; done) | (simp; omega)) _ | with_reducible refine Below.drew ?_ | (with_reducible refine Below.trans ?_ (Below.mono (by with_reducible assumption) (by first | omega | (simp; done) | (simp; omega)))) | (refine Below.trans ?_ (Below.mono (by assumption) (by first | omega | (simp; done) | (simp; omega))))))
end Go.Proofs.Ytppmjbnhghaffaa
/- The law of sieges: who stays. No condition. -/
namespace Go.Proofs.Ytppmjbnhghaffaa
open Go.RowKit
set_option linter.unusedSimpArgs false
set_option linter.unusedVariables false

set_option maxRecDepth 100000 in
set_option maxHeartbeats 16000000 in
theorem siegeStays_any (v u : Value) (l news : List Pe) (t : St) (w : World) (h : ReadsL peV 10 w v l) (h2 : ReadsL peV 10 w u news) (hl : ∀ x ∈ l, x.fits) (hm : ∀ x ∈ news, x.fits) (ht : t.fits) :
    Calls Try.prog 13 #[v, u, .agg #[.int .i64 t.most, .int .i64 t.q.group, .int .i64 t.q.ping, .int .i64 t.q.work, .int .i64 t.q.time, .int .u64 t.s]] w fun e w' => e = .returned (.bool true) ∧ Below w.heap.size w w' := by
  have HV := Lib.hid h; have HU := Lib.hid h2
  obtain ⟨hm1, p, c, rfl, h3⟩ := pes_open h
  obtain ⟨hm2, pu, cu, rfl, h32⟩ := pes_open h2
  clear h h2 h32
  have HA := Lib.hid (fun w => awake22_any w)
  rcases Int.lt_or_le 20 (l.length : Int) with hlen | hlen
  · go_enter Try.func13, Try.ntmps13
    go_wp2_with (go_at_call 76; (with_reducible refine (HA.out _).mono ?_); rintro e w2 ⟨rfl, b2⟩; obtain ⟨c2, f2⟩ := bcell b2; have z2 := b2.size; (try simp at z2); clear c2 f2)
    go_ret
    refine ⟨rfl, ?_⟩
    (repeat (first | with_reducible assumption | with_reducible exact Below.refl _ _ | with_reducible refine Below.setCell ?_ (by first | omega | (simp; done) | (simp; omega)) _ | with_reducible refine Below.alloc ?_ (by first | omega | (simp; done) | (simp; omega)) _ | with_reducible refine Below.drew ?_ | (with_reducible refine Below.trans ?_ (Below.mono (by with_reducible assumption) (by first | omega | (simp; done) | (simp; omega)))) | (refine Below.trans ?_ (Below.mono (by assumption) (by first | omega | (simp; done) | (simp; omega))))))
  rcases Int.lt_or_le 20 (news.length : Int) with hlen2 | hlen2
  · go_enter Try.func13, Try.ntmps13
    go_wp2_with (go_at_call 76; (with_reducible refine (HA.out _).mono ?_); rintro e w2 ⟨rfl, b2⟩; obtain ⟨c2, f2⟩ := bcell b2; have z2 := b2.size; (try simp at z2); clear c2 f2)
    go_ret
    refine ⟨rfl, ?_⟩
    (repeat (first | with_reducible assumption | with_reducible exact Below.refl _ _ | with_reducible refine Below.setCell ?_ (by first | omega | (simp; done) | (simp; omega)) _ | with_reducible refine Below.alloc ?_ (by first | omega | (simp; done) | (simp; omega)) _ | with_reducible refine Below.drew ?_ | (with_reducible refine Below.trans ?_ (Below.mono (by with_reducible assumption) (by first | omega | (simp; done) | (simp; omega)))) | (refine Below.trans ?_ (Below.mono (by assumption) (by first | omega | (simp; done) | (simp; omega))))))
  have hn : l.length + news.length ≤ 900000 := by omega
  by_cases hUn : UnlikeC l
  rotate_left
  · have HUn : Hid (∀ W, Below w.heap.size w W → Calls Try.prog 82 #[.slice p l.length c] W fun e w' => e = .returned (.bool false) ∧ Below W.heap.size W w') := fun W hW => (unlike22_any _ l W (ReadsL.below HV.out hW) (by omega)).mono fun e w' ⟨bb, he, hb, hB⟩ => by
      cases bb with
      | true => exact absurd (hb.1 rfl) hUn
      | false => exact ⟨he, hB⟩
    go_enter Try.func13, Try.ntmps13
    go_wp2_with (first | (go_at_call 82; (with_reducible refine (HUn.out _ (by (repeat (first | with_reducible assumption | with_reducible exact Below.refl _ _ | with_reducible refine Below.setCell ?_ (by first | omega | (simp; done) | (simp; omega)) _ | with_reducible refine Below.alloc ?_ (by first | omega | (simp; done) | (simp; omega)) _ | with_reducible refine Below.drew ?_ | (with_reducible refine Below.trans ?_ (Below.mono (by with_reducible assumption) (by first | omega | (simp; done) | (simp; omega)))) | (refine Below.trans ?_ (Below.mono (by assumption) (by first | omega | (simp; done) | (simp; omega)))))))).mono ?_); rintro e w1 ⟨rfl, b1⟩; have z1 := b1.size; (try simp at z1)) | (go_at_call 76; (with_reducible refine (HA.out _).mono ?_); rintro e w2 ⟨rfl, b2⟩))
    go_ret
    refine ⟨rfl, ?_⟩
    (repeat (first | with_reducible assumption | with_reducible exact Below.refl _ _ | with_reducible refine Below.setCell ?_ (by first | omega | (simp; done) | (simp; omega)) _ | with_reducible refine Below.alloc ?_ (by first | omega | (simp; done) | (simp; omega)) _ | with_reducible refine Below.drew ?_ | (with_reducible refine Below.trans ?_ (Below.mono (by with_reducible assumption) (by first | omega | (simp; done) | (simp; omega)))) | (refine Below.trans ?_ (Below.mono (by assumption) (by first | omega | (simp; done) | (simp; omega))))))
  have HUn : Hid (∀ W, Below w.heap.size w W → Calls Try.prog 82 #[.slice p l.length c] W fun e w' => e = .returned (.bool true) ∧ Below W.heap.size W w') := fun W hW => (unlike22_any _ l W (ReadsL.below HV.out hW) (by omega)).mono fun e w' ⟨bb, he, hb, hB⟩ => by
    rw [hb.2 hUn] at he; exact ⟨he, hB⟩
  have HRun := Lib.hid (fun W (hW : Below w.heap.size w W) => run_any _ _ l news hl hm t ht W (ReadsL.below HV.out hW) (ReadsL.below HU.out hW) hn)
  have HST := Lib.hid (fun k x (hx : l[k]? = some x) => stays (news := news) (t := t) hUn hx)
  have hmax0 := came_run (t := t) news l hUn
  have hlu := run_un (t := t) news l hUn
  have hlf := run_fits (t := t) news l hl hm
  have hll := run_len (t := t) news l
  generalize siL l news t = last at *
  have HLU := Lib.hid hlu; have HLF := Lib.hid hlf
  clear hlu hlf hUn
  have HCL := Lib.hid (fun W (hW : Below w.heap.size w W) => refCame_any _ l W (ReadsL.below HV.out hW) (by omega))
  go_enter Try.func13, Try.ntmps13
  go_upto_region 1 with fail
  go_name_world W0 hW0
  obtain ⟨B, hB⟩ : ∃ B, B = w.heap.size := ⟨_, rfl⟩
  have hS0 : BlockIs W0 B [.int .i64 t.most, .int .i64 t.q.group, .int .i64 t.q.ping, .int .i64 t.q.work, .int .i64 t.q.time, .int .u64 t.s] 105 := by subst hW0 hB; exact BlockIs.newAt' _ _ _ (by simp)
  have b0 : Below w.heap.size w W0 := by subst hW0; (repeat (first | with_reducible assumption | with_reducible exact Below.refl _ _ | with_reducible refine Below.setCell ?_ (by first | omega | (simp; done) | (simp; omega)) _ | with_reducible refine Below.alloc ?_ (by first | omega | (simp; done) | (simp; omega)) _ | with_reducible refine Below.drew ?_ | (with_reducible refine Below.trans ?_ (Below.mono (by with_reducible assumption) (by first | omega | (simp; done) | (simp; omega)))) | (refine Below.trans ?_ (Below.mono (by assumption) (by first | omega | (simp; done) | (simp; omega))))))
  rw [← hB]
  have HS0 := Lib.hid hS0; have HB0 := Lib.hid b0
  clear hW0 hB hS0 b0
  go_upto_region 3 with (go_at_call 82; (with_reducible refine (HUn.out _ HB0.out).mono ?_); rintro e w1 ⟨rfl, b1⟩)
  have hS1 := HS0.out.below b1
  have HS1 := Lib.hid hS1; have HB1 := Lib.hid (below2 HB0.out b1)
  have s0 := hS1.cell (i := 0) rfl; have s1 := hS1.cell (i := 1) rfl; have s2 := hS1.cell (i := 2) rfl; have s3 := hS1.cell (i := 3) rfl; have s4 := hS1.cell (i := 4) rfl; have s5 := hS1.cell (i := 5) rfl
  clear hS1 b1 HS0 HB0 HUn
  go_upto_region 4 with (go_at_call 81; (with_reducible refine (HRun.out _ HB1.out).mono ?_); rintro e w2 ⟨r2, rfl, rd2, b2⟩; obtain ⟨hmr, p2, c2, rfl, h52⟩ := pes_open rd2; have H52 := Lib.hid h52; have HR2 := Lib.hid rd2; have HB2 := Lib.hid b2; clear h52 rd2 b2)
  clear s0 s1 s2 s3 s4 s5
  have HS2 := Lib.hid (HS1.out.below HB2.out)
  have HBw := Lib.hid (below2 HB1.out HB2.out)
  clear HB1 HB2 HS1 HRun
  go_wp2_with fail
  go_loopw [8] (fun i' wr => ∃ k : Nat, k ≤ l.length ∧ i' = .int .i64 k ∧ Hid (Below w2.heap.size w2 wr)) (fun i' _ => l.length - (intOf i').toNat)
  case atStart => exact ⟨0, by omega, rfl, Below.refl _ _⟩
  case round =>
    obtain ⟨k, hk, rfl, HB⟩ := hrel
    have HBr := Lib.hid (below2 HBw.out HB.out)
    by_cases hlt : k < l.length
    · obtain ⟨x, hx⟩ : ∃ x, l[k]? = some x := ⟨_, List.getElem?_eq_getElem hlt⟩
      obtain ⟨b, o, rfl, h4, h5, h6⟩ := h3 (by omega)
      have HK := Lib.hid (h6 k x hx)
      have q1 : (0 : Int) ≤ (k : Int) := by omega
      have q2 : (k : Int) < (l.length : Int) := by omega
      have HI := Lib.hid (fun W (hW : Below w2.heap.size w2 W) => refIndex_any _ last x.en W (ReadsL.below HR2.out hW))
      have HX := Lib.hid (HST.out k x hx)
      have HSf := Lib.hid (fun W (hW : Below w.heap.size w W) => safe_any _ _ l news hl hm k hlt t ht W (ReadsL.below HV.out hW) (ReadsL.below HU.out hW) hn)
      clear hx h6 h3 hl hm
      obtain ⟨k0, k1, k2, k3, k4, k5, k6, k7, k8, k9⟩ := HK.out.below HBr.out h5
      cases hsb : sfB l news k t with
      | false =>
        rw [hsb] at HSf
        generalize fdI last x.en = f at *
        clear hsb HX
        go_upto_region 8 with (go_at_call 60; (with_reducible refine (HI.out _ HB.out).mono ?_); rintro e w3 ⟨rfl, b3⟩)
        have HB3 := Lib.hid (below2 HB.out b3)
        have HSx := Lib.hid (fun y => HSf.out (ext w3 y) (below2 HBw.out (below2 HB3.out (ext_below w3 y))))
        have hSr := HS2.out.below HB3.out
        have es0 := fun y => (ext_cell w3 y (p := ⟨B, 0, none⟩) hSr.lt).trans (hSr.cell (i := 0) rfl); have es1 := fun y => (ext_cell w3 y (p := ⟨B, 1, none⟩) hSr.lt).trans (hSr.cell (i := 1) rfl); have es2 := fun y => (ext_cell w3 y (p := ⟨B, 2, none⟩) hSr.lt).trans (hSr.cell (i := 2) rfl); have es3 := fun y => (ext_cell w3 y (p := ⟨B, 3, none⟩) hSr.lt).trans (hSr.cell (i := 3) rfl); have es4 := fun y => (ext_cell w3 y (p := ⟨B, 4, none⟩) hSr.lt).trans (hSr.cell (i := 4) rfl); have es5 := fun y => (ext_cell w3 y (p := ⟨B, 5, none⟩) hSr.lt).trans (hSr.cell (i := 5) rfl)
        clear hSr b3 k0 k1 k2 k3 k4 k5 k6 k7 k8 k9
        refine wp_region_ext (by kernel_rfl) (by kernel_rfl) ?_
        repeat (go_big_quiet_step ((first | (go_at_call 77; with_reducible exact qe (HSx.out _)))))
        refine wpQuiet_nil ?_
        first | (intro _ hw'; obtain ⟨gx, hw''⟩ := hw'; subst hw'') | intro gx
        clear es0 es1 es2 es3 es4 es5
        go_wp2_with fail
        go_roundw
        case rel => exact ⟨k + 1, by omega, by go_num, below2 HB3.out (ext_below w3 gx)⟩
        case measure => simp [intOf]; omega
      | true =>
        rw [hsb] at HSf
        obtain ⟨j, hj, hj2⟩ := HX.out hsb
        rw [hj] at HI
        have hjl := (List.getElem?_eq_some_iff.1 hj2).1
        obtain ⟨b2, o2, rfl, h42, h52, h62⟩ := H52.out (by omega)
        have HK2 := Lib.hid (h62 j x hj2)
        have q3 : (0 : Int) ≤ (j : Int) := by omega
        have q4 : (j : Int) < (last.length : Int) := by omega
        have q5 : decide ((j : Int) < 0) = false := decide_eq_false (by omega)
        clear hsb HX hj hj2 h62
        go_upto_region 8 with (go_at_call 60; (with_reducible refine (HI.out _ HB.out).mono ?_); rintro e w3 ⟨rfl, b3⟩)
        have HB3 := Lib.hid (below2 HB.out b3)
        have HSx := Lib.hid (fun y => HSf.out (ext w3 y) (below2 HBw.out (below2 HB3.out (ext_below w3 y))))
        have hSr := HS2.out.below HB3.out
        have es0 := fun y => (ext_cell w3 y (p := ⟨B, 0, none⟩) hSr.lt).trans (hSr.cell (i := 0) rfl); have es1 := fun y => (ext_cell w3 y (p := ⟨B, 1, none⟩) hSr.lt).trans (hSr.cell (i := 1) rfl); have es2 := fun y => (ext_cell w3 y (p := ⟨B, 2, none⟩) hSr.lt).trans (hSr.cell (i := 2) rfl); have es3 := fun y => (ext_cell w3 y (p := ⟨B, 3, none⟩) hSr.lt).trans (hSr.cell (i := 3) rfl); have es4 := fun y => (ext_cell w3 y (p := ⟨B, 4, none⟩) hSr.lt).trans (hSr.cell (i := 4) rfl); have es5 := fun y => (ext_cell w3 y (p := ⟨B, 5, none⟩) hSr.lt).trans (hSr.cell (i := 5) rfl)
        have hb1 := below2 HBw.out HB3.out
        have X := (HK.out.below hb1 h5).ext (Nat.lt_of_lt_of_le h5 hb1.size)
        have Y := (HK2.out.below HB3.out h52).ext (Nat.lt_of_lt_of_le h52 HB3.out.size)
        have hNE := fun W => neqPe_one x W
        have x0 := fun y => (X y).1; have x1 := fun y => (X y).2.1; have x2 := fun y => (X y).2.2.1; have x3 := fun y => (X y).2.2.2.1; have x4 := fun y => (X y).2.2.2.2.1; have x5 := fun y => (X y).2.2.2.2.2.1; have x6 := fun y => (X y).2.2.2.2.2.2.1; have x7 := fun y => (X y).2.2.2.2.2.2.2.1; have x8 := fun y => (X y).2.2.2.2.2.2.2.2.1; have x9 := fun y => (X y).2.2.2.2.2.2.2.2.2
        have y0 := fun y => (Y y).1; have y1 := fun y => (Y y).2.1; have y2 := fun y => (Y y).2.2.1; have y3 := fun y => (Y y).2.2.2.1; have y4 := fun y => (Y y).2.2.2.2.1; have y5 := fun y => (Y y).2.2.2.2.2.1; have y6 := fun y => (Y y).2.2.2.2.2.2.1; have y7 := fun y => (Y y).2.2.2.2.2.2.2.1; have y8 := fun y => (Y y).2.2.2.2.2.2.2.2.1; have y9 := fun y => (Y y).2.2.2.2.2.2.2.2.2
        clear hSr b3 k0 k1 k2 k3 k4 k5 k6 k7 k8 k9 X Y hb1
        refine wp_region_ext (by kernel_rfl) (by kernel_rfl) ?_
        repeat (go_big_quiet_step ((first | (go_at_call 77; with_reducible exact qe (HSx.out _)))))
        refine wpQuiet_nil ?_
        first | (intro _ hw'; obtain ⟨gx, hw''⟩ := hw'; subst hw'') | intro gx
        clear es0 es1 es2 es3 es4 es5 x0 x1 x2 x3 x4 x5 x6 x7 x8 x9 y0 y1 y2 y3 y4 y5 y6 y7 y8 y9 hNE
        go_wp2_with fail
        go_roundw
        case rel => exact ⟨k + 1, by omega, by go_num, below2 HB3.out (ext_below w3 gx)⟩
        case measure => simp [intOf]; omega
    · obtain rfl : k = l.length := by omega
      have hSr := HS2.out.below HB.out
      have lB := hSr.lt
      have s0 := hSr.cell (i := 0) rfl
      have HUL : Hid (∀ W, Below wr.heap.size wr W → Calls Try.prog 82 #[.slice p2 last.length c2] W fun e w' => e = .returned (.bool true) ∧ Below W.heap.size W w') := fun W hW => (unlike22_any _ last W (ReadsL.below HR2.out (below2 HB.out hW)) (by omega)).mono fun e w' ⟨bb, he, hb, hB⟩ => by
        rw [hb.2 HLU.out] at he; exact ⟨he, hB⟩
      have HC1 := Lib.hid (fun W (hW : Below wr.heap.size wr W) => refCame_any _ last W (ReadsL.below HR2.out (below2 HB.out hW)) (by omega))
      have HC2 := Lib.hid (fun W (hW : Below wr.heap.size wr W) => HCL.out W (below2 HBr.out hW))
      clear hSr h3 HCL
      obtain ⟨mm, hmm⟩ : ∃ mm, max t.most ((cameL l).length : Int) = mm := ⟨_, rfl⟩
      rw [hmm] at hmax0
      go_wp2_with fail
      go_region_held3 (fun w' => w'.cell? ⟨B, 0, none⟩ = some (.int .i64 t.most)) (first | go_keep | (simp (disch := omega) [*]; done)) (first | (go_at_call 83; (with_reducible refine (HC1.out _ (by (repeat (first | with_reducible assumption | with_reducible exact Below.refl _ _ | with_reducible refine Below.setCell ?_ (by first | omega | (simp; done) | (simp; omega)) _ | with_reducible refine Below.alloc ?_ (by first | omega | (simp; done) | (simp; omega)) _ | with_reducible refine Below.drew ?_ | (with_reducible refine Below.trans ?_ (Below.mono (by with_reducible assumption) (by first | omega | (simp; done) | (simp; omega)))) | (refine Below.trans ?_ (Below.mono (by assumption) (by first | omega | (simp; done) | (simp; omega)))))))).mono ?_); rintro e w1 ⟨r1, rfl, rd1, b1⟩; obtain ⟨hm1, p1, c1, rfl, hx1⟩ := pes_open rd1; clear hx1 rd1; obtain ⟨c1, f1⟩ := bcell b1; have z1 := b1.size; (try simp at z1); have dB1 := fun o => c1 B o (by first | omega | (simp; done) | (simp; omega)); have nB1 : B ≠ w1.heap.size := (by omega); have mB1 : w1.heap.size ≠ B := (by omega); clear c1 f1) | (go_at_call 83; (with_reducible refine (HC2.out _ (by (repeat (first | with_reducible assumption | with_reducible exact Below.refl _ _ | with_reducible refine Below.setCell ?_ (by first | omega | (simp; done) | (simp; omega)) _ | with_reducible refine Below.alloc ?_ (by first | omega | (simp; done) | (simp; omega)) _ | with_reducible refine Below.drew ?_ | (with_reducible refine Below.trans ?_ (Below.mono (by with_reducible assumption) (by first | omega | (simp; done) | (simp; omega)))) | (refine Below.trans ?_ (Below.mono (by assumption) (by first | omega | (simp; done) | (simp; omega)))))))).mono ?_); rintro e w2 ⟨r2, rfl, rd2, b2⟩; obtain ⟨hm2, p2, c2, rfl, hx2⟩ := pes_open rd2; clear hx2 rd2; obtain ⟨c2, f2⟩ := bcell b2; have z2 := b2.size; (try simp at z2); have dB2 := fun o => c2 B o (by first | omega | (simp; done) | (simp; omega)); have nB2 : B ≠ w2.heap.size := (by omega); have mB2 : w2.heap.size ≠ B := (by omega); clear c2 f2) | (go_at_call 82; (with_reducible refine (HUL.out _ (by (repeat (first | with_reducible assumption | with_reducible exact Below.refl _ _ | with_reducible refine Below.setCell ?_ (by first | omega | (simp; done) | (simp; omega)) _ | with_reducible refine Below.alloc ?_ (by first | omega | (simp; done) | (simp; omega)) _ | with_reducible refine Below.drew ?_ | (with_reducible refine Below.trans ?_ (Below.mono (by with_reducible assumption) (by first | omega | (simp; done) | (simp; omega)))) | (refine Below.trans ?_ (Below.mono (by assumption) (by first | omega | (simp; done) | (simp; omega)))))))).mono ?_); rintro e w3 ⟨rfl, b3⟩; obtain ⟨c3, f3⟩ := bcell b3; have z3 := b3.size; (try simp at z3); have dB3 := fun o => c3 B o (by first | omega | (simp; done) | (simp; omega)); have nB3 : B ≠ w3.heap.size := (by omega); have mB3 : w3.heap.size ≠ B := (by omega); clear c3 f3) | (go_at_call 76; (with_reducible refine (HA.out _).mono ?_); rintro e w4 ⟨rfl, b4⟩; obtain ⟨c4, f4⟩ := bcell b4; have z4 := b4.size; (try simp at z4); have dB4 := fun o => c4 B o (by first | omega | (simp; done) | (simp; omega)); have nB4 : B ≠ w4.heap.size := (by omega); have mB4 : w4.heap.size ≠ B := (by omega); clear c4 f4) | fail)
      all_goals
        go_wp2_with fail
        go_ret
        refine ⟨rfl, below2 HBr.out ?_⟩
        (repeat (first | with_reducible assumption | with_reducible exact Below.refl _ _ | with_reducible refine Below.setCell ?_ (by first | omega | (simp; done) | (simp; omega)) _ | with_reducible refine Below.alloc ?_ (by first | omega | (simp; done) | (simp; omega)) _ | with_reducible refine Below.drew ?_ | (with_reducible refine Below.trans ?_ (Below.mono (by with_reducible assumption) (by first | omega | (simp; done) | (simp; omega)))) | (refine Below.trans ?_ (Below.mono (by assumption) (by first | omega | (simp; done) | (simp; omega))))))
end Go.Proofs.Ytppmjbnhghaffaa
