/- Texts put together: LawTable. No condition. -/
import Derived.Test.YtppmjbnhghaffaaRajkfpbxljx
import Derived.Test.YtppmjbnhghaffaaRdnugypycig
import Derived.Test.YtppmjbnhghaffaaRblnoocjlxl
import Derived.Test.YtppmjbnhghaffaaRfjkvgzfarz
import Derived.Test.YtppmjbnhghaffaaRjobsjfzmqu
import Derived.Test.YtppmjbnhghaffaaRsxuqrryqqa
import Derived.Deep.RegionHeld3
namespace Go.Proofs.Ytppmjbnhghaffaa
open Go.RowKit Go.Lib

theorem setT_len (l : List Pe) (p : Pe) : (setT l p).length = l.length := by unfold setT; split <;> simp
set_option maxRecDepth 100000 in
set_option maxHeartbeats 16000000 in
theorem tableTells_any (v : Value) (l : List Pe) (p : Pe) (n : Nt) (w : World) (h : ReadsL peV 10 w v l) (hl : ∀ x ∈ l, x.en.ad.fits) (fp : p.en.ad.fits) (fn : n.ad.fits) :
    Calls Try.prog 11 #[v, .agg #[.bool p.en.ad.v6, .int .u64 p.en.ad.hi, .int .u64 p.en.ad.lo, .int .i64 p.en.port, .bool p.came, .int .i64 p.since, .int .i64 p.pts, .int .i64 p.at_, .int .i64 p.ping, .int .i64 p.work], .agg #[.bool n.ad.v6, .int .u64 n.ad.hi, .int .u64 n.ad.lo, .int .i64 n.bits]] w fun e w' => e = .returned (.bool true) ∧ Below w.heap.size w w' := by
  have HV := Lib.hid h
  have HA := Lib.hid (fun w => awake30_any w)
  obtain ⟨hm1, pa, ca, rfl, -⟩ := pes_open h
  clear h
  rcases Int.lt_or_le 60 (l.length : Int) with hlen | hlen
  · go_enter Try.func11, Try.ntmps11
    go_wp2_with (go_at_call 58; (with_reducible refine (HA.out _).mono ?_); rintro e w2 ⟨rfl, b2⟩)
    go_ret
    refine ⟨rfl, ?_⟩
    (repeat (first | with_reducible assumption | with_reducible exact Below.refl _ _ | with_reducible refine Below.setCell ?_ (by first | omega | (simp; done) | (simp; omega)) _ | with_reducible refine Below.alloc ?_ (by first | omega | (simp; done) | (simp; omega)) _ | with_reducible refine Below.drew ?_ | (with_reducible refine Below.trans ?_ (Below.mono (by with_reducible assumption) (by first | omega | (simp; done) | (simp; omega)))) | (refine Below.trans ?_ (Below.mono (by assumption) (by first | omega | (simp; done) | (simp; omega))))))
  have hn : l.length ≤ 1000000 := by omega
  have h1 := fun W (hW : Below w.heap.size w W) => tadd_any _ l p fp W (ReadsL.below HV.out hW) hn
  have h2 := fun W (hW : Below w.heap.size w W) => refTadd_any _ l p fp W (ReadsL.below HV.out hW) hn
  generalize addT l p = ad at h1 h2
  obtain ⟨al, ac⟩ := ad
  have h3 := fun W (hW : Below w.heap.size w W) => (tdrop_any _ l p.en W (ReadsL.below HV.out hW) hn).mono fun e w' ⟨q, he, ho, hb⟩ => (⟨q, he, owns_readsL ho, hb⟩ : ∃ q, e = Ending.returned (.tuple #[q, .int .i64 (dropT l p.en).2]) ∧ ReadsL peV 10 w' q (dropT l p.en).1 ∧ Below W.heap.size W w')
  have h4 := fun W (hW : Below w.heap.size w W) => refTdrop_any _ l p.en W (ReadsL.below HV.out hW) hn
  generalize dropT l p.en = dr at h3 h4
  obtain ⟨dl, dc⟩ := dr
  simp only at h1 h2 h3 h4
  have H1 := Lib.hid h1; have H2 := Lib.hid h2; have H3 := Lib.hid h3; have H4 := Lib.hid h4
  clear h1 h2 h3 h4
  have H5 := Lib.hid (fun W (hW : Below w.heap.size w W) => tsplit_any _ l n fn hl W (ReadsL.below HV.out hW) hn)
  have H6 := Lib.hid (fun W (hW : Below w.heap.size w W) => refTof_any _ l n true fn hl W (ReadsL.below HV.out hW) hn)
  have H7 := Lib.hid (fun W (hW : Below w.heap.size w W) => refTof_any _ l n false fn hl W (ReadsL.below HV.out hW) hn)
  have h8 := fun W (hW : Below w.heap.size w W) => tright_any _ l W (ReadsL.below HV.out hW) hl
  have h9 := fun W (hW : Below w.heap.size w W) => refTright_any _ l W (ReadsL.below HV.out hW) hl
  generalize rgtT l = rt at h8 h9
  have h10 := fun W (hW : Below w.heap.size w W) => tfind_any _ l p.en W (ReadsL.below HV.out hW)
  have h11 := fun W (hW : Below w.heap.size w W) => refIndex_any _ l p.en W (ReadsL.below HV.out hW)
  generalize fdI l p.en = fi at h10 h11
  have h14 := fun W (hW : Below w.heap.size w W) => tcount_any _ l p.came W (ReadsL.below HV.out hW)
  have h15 := fun W (hW : Below w.heap.size w W) => refTcount_any _ l p.came W (ReadsL.below HV.out hW)
  generalize cntL p.came l = ct at h14 h15
  have H8 := Lib.hid h8; have H9 := Lib.hid h9; have H10 := Lib.hid h10; have H11 := Lib.hid h11; have H14 := Lib.hid h14; have H15 := Lib.hid h15
  clear h8 h9 h10 h11 h14 h15
  have H12 := Lib.hid (fun W (hW : Below w.heap.size w W) => (tset_any _ l p W (ReadsL.below HV.out hW) hn).mono fun e w' ⟨q, he, ho, hb⟩ => (⟨q, he, owns_readsL (by rw [setT_len]; exact ho), hb⟩ : ∃ q, e = Ending.returned q ∧ ReadsL peV 10 w' q (setT l p) ∧ Below W.heap.size W w'))
  have H13 := Lib.hid (fun W (hW : Below w.heap.size w W) => refTset_any _ l p W (ReadsL.below HV.out hW) hn)
  have H16 := Lib.hid (fun W (hW : Below w.heap.size w W) => tsorted_any _ l W (ReadsL.below HV.out hW) hn)
  have H17 := Lib.hid (fun W (hW : Below w.heap.size w W) => refTsorted_any _ l W (ReadsL.below HV.out hW) hn)
  clear hl fp fn hn
  go_enter Try.func11, Try.ntmps11
  go_upto_region 1 with fail
  go_name_world W0 hW0
  obtain ⟨B, hB⟩ : ∃ B, B = w.heap.size := ⟨_, rfl⟩
  have hP0 : BlockIs W0 B (peV p) 66 := by subst hW0 hB; exact (BlockIs.new w (peV p) _).alloc' _
  have hN0 : BlockIs W0 (B + 1) [.bool n.ad.v6, .int .u64 n.ad.hi, .int .u64 n.ad.lo, .int .i64 n.bits] 92 := by subst hW0 hB; exact BlockIs.newAt' _ _ _ (by simp)
  have b0 : Below w.heap.size w W0 := by subst hW0; (repeat (first | with_reducible assumption | with_reducible exact Below.refl _ _ | with_reducible refine Below.setCell ?_ (by first | omega | (simp; done) | (simp; omega)) _ | with_reducible refine Below.alloc ?_ (by first | omega | (simp; done) | (simp; omega)) _ | with_reducible refine Below.drew ?_ | (with_reducible refine Below.trans ?_ (Below.mono (by with_reducible assumption) (by first | omega | (simp; done) | (simp; omega)))) | (refine Below.trans ?_ (Below.mono (by assumption) (by first | omega | (simp; done) | (simp; omega))))))
  rw [← hB]
  have HP0 := Lib.hid hP0; have HN0 := Lib.hid hN0; have HB0 := Lib.hid b0
  clear hW0 hN0 hP0 b0
  have HBw := Lib.hid hB
  clear hB
  have hP := HP0.out; have s0 := hP.cell (i := 0) rfl; have s1 := hP.cell (i := 1) rfl; have s2 := hP.cell (i := 2) rfl; have s3 := hP.cell (i := 3) rfl; have s4 := hP.cell (i := 4) rfl; have s5 := hP.cell (i := 5) rfl; have s6 := hP.cell (i := 6) rfl; have s7 := hP.cell (i := 7) rfl; have s8 := hP.cell (i := 8) rfl; have s9 := hP.cell (i := 9) rfl
  have hN := HN0.out; have m0 := hN.cell (i := 0) rfl; have m1 := hN.cell (i := 1) rfl; have m2 := hN.cell (i := 2) rfl; have m3 := hN.cell (i := 3) rfl
  clear hP hN
  go_upto_region 4 with (go_at_call 63; (with_reducible refine (H1.out _ HB0.out).mono ?_); rintro e w1 ⟨r1, rfl, rd1, b1⟩)
  have HP1 := Lib.hid (HP0.out.below b1); have HN1 := Lib.hid (HN0.out.below b1); have HB1 := Lib.hid (below2 HB0.out b1)
  clear s0 s1 s2 s3 s4 s5 s6 s7 s8 s9 m0 m1 m2 m3 HP0 HN0 HB0
  have RD1 := Lib.hid rd1; clear rd1
  clear b1
  have hP := HP1.out; have s0 := hP.cell (i := 0) rfl; have s1 := hP.cell (i := 1) rfl; have s2 := hP.cell (i := 2) rfl; have s3 := hP.cell (i := 3) rfl; have s4 := hP.cell (i := 4) rfl; have s5 := hP.cell (i := 5) rfl; have s6 := hP.cell (i := 6) rfl; have s7 := hP.cell (i := 7) rfl; have s8 := hP.cell (i := 8) rfl; have s9 := hP.cell (i := 9) rfl
  have hN := HN1.out; have m0 := hN.cell (i := 0) rfl; have m1 := hN.cell (i := 1) rfl; have m2 := hN.cell (i := 2) rfl; have m3 := hN.cell (i := 3) rfl
  clear hP hN
  go_upto_region 5 with (go_at_call 66; (with_reducible refine (H2.out _ HB1.out).mono ?_); rintro e w2 ⟨r2, rfl, rd2, b2⟩)
  have HP2 := Lib.hid (HP1.out.below b2); have HN2 := Lib.hid (HN1.out.below b2); have HB2 := Lib.hid (below2 HB1.out b2)
  clear s0 s1 s2 s3 s4 s5 s6 s7 s8 s9 m0 m1 m2 m3 HP1 HN1 HB1
  have RD2 := Lib.hid rd2; clear rd2
  have RD1_2 := Lib.hid (ReadsL.below RD1.out b2)
  clear RD1
  clear b2
  have hP := HP2.out; have s0 := hP.cell (i := 0) rfl; have s1 := hP.cell (i := 1) rfl; have s2 := hP.cell (i := 2) rfl; have s3 := hP.cell (i := 3) rfl; have s4 := hP.cell (i := 4) rfl; have s5 := hP.cell (i := 5) rfl; have s6 := hP.cell (i := 6) rfl; have s7 := hP.cell (i := 7) rfl; have s8 := hP.cell (i := 8) rfl; have s9 := hP.cell (i := 9) rfl
  have hN := HN2.out; have m0 := hN.cell (i := 0) rfl; have m1 := hN.cell (i := 1) rfl; have m2 := hN.cell (i := 2) rfl; have m3 := hN.cell (i := 3) rfl
  clear hP hN
  go_upto_region 6 with (go_at_call 67; (with_reducible refine (H3.out _ HB2.out).mono ?_); rintro e w3 ⟨r3, rfl, rd3, b3⟩)
  have HP3 := Lib.hid (HP2.out.below b3); have HN3 := Lib.hid (HN2.out.below b3); have HB3 := Lib.hid (below2 HB2.out b3)
  clear s0 s1 s2 s3 s4 s5 s6 s7 s8 s9 m0 m1 m2 m3 HP2 HN2 HB2
  have RD3 := Lib.hid rd3; clear rd3
  have RD1_3 := Lib.hid (ReadsL.below RD1_2.out b3)
  clear RD1_2
  have RD2_3 := Lib.hid (ReadsL.below RD2.out b3)
  clear RD2
  clear b3
  have hP := HP3.out; have s0 := hP.cell (i := 0) rfl; have s1 := hP.cell (i := 1) rfl; have s2 := hP.cell (i := 2) rfl; have s3 := hP.cell (i := 3) rfl; have s4 := hP.cell (i := 4) rfl; have s5 := hP.cell (i := 5) rfl; have s6 := hP.cell (i := 6) rfl; have s7 := hP.cell (i := 7) rfl; have s8 := hP.cell (i := 8) rfl; have s9 := hP.cell (i := 9) rfl
  have hN := HN3.out; have m0 := hN.cell (i := 0) rfl; have m1 := hN.cell (i := 1) rfl; have m2 := hN.cell (i := 2) rfl; have m3 := hN.cell (i := 3) rfl
  clear hP hN
  go_upto_region 7 with (go_at_call 68; (with_reducible refine (H4.out _ HB3.out).mono ?_); rintro e w4 ⟨r4, rfl, rd4, b4⟩)
  have HP4 := Lib.hid (HP3.out.below b4); have HN4 := Lib.hid (HN3.out.below b4); have HB4 := Lib.hid (below2 HB3.out b4)
  clear s0 s1 s2 s3 s4 s5 s6 s7 s8 s9 m0 m1 m2 m3 HP3 HN3 HB3
  have RD4 := Lib.hid rd4; clear rd4
  have RD1_4 := Lib.hid (ReadsL.below RD1_3.out b4)
  clear RD1_3
  have RD2_4 := Lib.hid (ReadsL.below RD2_3.out b4)
  clear RD2_3
  have RD3_4 := Lib.hid (ReadsL.below RD3.out b4)
  clear RD3
  clear b4
  have hP := HP4.out; have s0 := hP.cell (i := 0) rfl; have s1 := hP.cell (i := 1) rfl; have s2 := hP.cell (i := 2) rfl; have s3 := hP.cell (i := 3) rfl; have s4 := hP.cell (i := 4) rfl; have s5 := hP.cell (i := 5) rfl; have s6 := hP.cell (i := 6) rfl; have s7 := hP.cell (i := 7) rfl; have s8 := hP.cell (i := 8) rfl; have s9 := hP.cell (i := 9) rfl
  have hN := HN4.out; have m0 := hN.cell (i := 0) rfl; have m1 := hN.cell (i := 1) rfl; have m2 := hN.cell (i := 2) rfl; have m3 := hN.cell (i := 3) rfl
  clear hP hN
  go_upto_region 8 with (go_at_call 69; (with_reducible refine (H5.out _ HB4.out).mono ?_); rintro e w5 ⟨r5, r6, rfl, rd5, rd6, b5⟩)
  have HP5 := Lib.hid (HP4.out.below b5); have HN5 := Lib.hid (HN4.out.below b5); have HB5 := Lib.hid (below2 HB4.out b5)
  clear s0 s1 s2 s3 s4 s5 s6 s7 s8 s9 m0 m1 m2 m3 HP4 HN4 HB4
  have RD5 := Lib.hid rd5; clear rd5
  have RD6 := Lib.hid rd6; clear rd6
  have RD1_5 := Lib.hid (ReadsL.below RD1_4.out b5)
  clear RD1_4
  have RD2_5 := Lib.hid (ReadsL.below RD2_4.out b5)
  clear RD2_4
  have RD3_5 := Lib.hid (ReadsL.below RD3_4.out b5)
  clear RD3_4
  have RD4_5 := Lib.hid (ReadsL.below RD4.out b5)
  clear RD4
  clear b5
  have hP := HP5.out; have s0 := hP.cell (i := 0) rfl; have s1 := hP.cell (i := 1) rfl; have s2 := hP.cell (i := 2) rfl; have s3 := hP.cell (i := 3) rfl; have s4 := hP.cell (i := 4) rfl; have s5 := hP.cell (i := 5) rfl; have s6 := hP.cell (i := 6) rfl; have s7 := hP.cell (i := 7) rfl; have s8 := hP.cell (i := 8) rfl; have s9 := hP.cell (i := 9) rfl
  have hN := HN5.out; have m0 := hN.cell (i := 0) rfl; have m1 := hN.cell (i := 1) rfl; have m2 := hN.cell (i := 2) rfl; have m3 := hN.cell (i := 3) rfl
  have lN := hN.lt
  clear hP hN H1 H2 H3 H4 H5
  skip
  go_upto_region 10 with (first | (go_at_call 44; (with_reducible refine (peers_same _ _ _ _ RD1_5.out RD2_5.out).mono ?_); rintro e w6 ⟨rfl, b6⟩; obtain ⟨cf6, ff6⟩ := bcell b6; have z6 := b6.size; have dN6 := fun o => cf6 (B + 1) o (by omega); clear cf6 ff6) | (go_at_call 44; (with_reducible refine (peers_same _ _ _ _ (ReadsL.below RD3_5.out b6) (ReadsL.below RD4_5.out b6)).mono ?_); rintro e w7 ⟨rfl, b7⟩; have b67 := below2 b6 b7; obtain ⟨cf7, ff7⟩ := bcell b67; have z7 := b67.size; have dN7 := fun o => cf7 (B + 1) o (by omega); clear cf7 ff7) | (go_at_call 70; (with_reducible refine (H6.out _ (below2 HB5.out b67)).mono ?_); rintro e w8 ⟨r8, rfl, rd8, b8⟩; have b68 := below2 b67 b8) | (go_at_call 44; (with_reducible refine (peers_same _ _ _ _ (ReadsL.below RD5.out b68) rd8).mono ?_); rintro e w9 ⟨rfl, b9⟩; have b69 := below2 b68 b9; obtain ⟨cf9, ff9⟩ := bcell b69; have z9 := b69.size; have dN9 := fun o => cf9 (B + 1) o (by omega); clear cf9 ff9) | (go_at_call 70; (with_reducible refine (H7.out _ (below2 HB5.out b69)).mono ?_); rintro e w10 ⟨r10, rfl, rd10, b10⟩; have b610 := below2 b69 b10) | (go_at_call 44; (with_reducible refine (peers_same _ _ _ _ (ReadsL.below RD6.out b610) rd10).mono ?_); rintro e w11 ⟨rfl, b11⟩; have b611 := below2 b610 b11))
  have HP6 := Lib.hid (HP5.out.below b611); have HB6 := Lib.hid (below2 HB5.out b611)
  clear s0 s1 s2 s3 s4 s5 s6 s7 s8 s9 m0 m1 m2 m3 lN dN6 dN7 dN9 z6 z7 z9 b6 b7 b8 b9 b10 b11 b67 b68 b69 b610 b611 HP5 HN5 HB5 rd8 rd10 RD1_5 RD2_5 RD3_5 RD4_5 RD5 RD6
  clear H6 H7
  have hP := HP6.out; have s0 := hP.cell (i := 0) rfl; have s1 := hP.cell (i := 1) rfl; have s2 := hP.cell (i := 2) rfl; have s3 := hP.cell (i := 3) rfl; have s4 := hP.cell (i := 4) rfl; have s5 := hP.cell (i := 5) rfl; have s6 := hP.cell (i := 6) rfl; have s7 := hP.cell (i := 7) rfl; have s8 := hP.cell (i := 8) rfl; have s9 := hP.cell (i := 9) rfl
  have lB := hP.lt
  clear hP
  have HB7 : Hid (Below w.heap.size w w11.drew) := HB6.out.drew
  go_region_held3 (fun w' => w'.cell? ⟨B, 0, none⟩ = some (.bool p.en.ad.v6) ∧ w'.cell? ⟨B, 1, none⟩ = some (.int .u64 p.en.ad.hi) ∧ w'.cell? ⟨B, 2, none⟩ = some (.int .u64 p.en.ad.lo) ∧ w'.cell? ⟨B, 3, none⟩ = some (.int .i64 p.en.port) ∧ w'.cell? ⟨B, 4, none⟩ = some (.bool p.came) ∧ w'.cell? ⟨B, 5, none⟩ = some (.int .i64 p.since) ∧ w'.cell? ⟨B, 6, none⟩ = some (.int .i64 p.pts) ∧ w'.cell? ⟨B, 7, none⟩ = some (.int .i64 p.at_) ∧ w'.cell? ⟨B, 8, none⟩ = some (.int .i64 p.ping) ∧ w'.cell? ⟨B, 9, none⟩ = some (.int .i64 p.work)) (first | go_keep | (simp (disch := omega) [*]; done)) (first | (go_at_call 64; (with_reducible refine (H8.out _ (below2 HB7.out (Below.refl _ _))).mono ?_); rintro e w21 ⟨rfl, b21⟩; obtain ⟨cf21, ff21⟩ := bcell b21; have z21 := b21.size; (try simp at z21); have dB21 := fun o => cf21 B o (by first | omega | (simp; done) | (simp; omega)); clear cf21 ff21; have x21 := b21) | (go_at_call 55; (with_reducible refine (H9.out _ (below2 HB7.out x21)).mono ?_); rintro e w22 ⟨rfl, b22⟩; obtain ⟨cf22, ff22⟩ := bcell b22; have z22 := b22.size; (try simp at z22); have dB22 := fun o => cf22 B o (by first | omega | (simp; done) | (simp; omega)); clear cf22 ff22; have x22 := below2 x21 b22) | (go_at_call 71; (with_reducible refine (H10.out _ (below2 HB7.out x22)).mono ?_); rintro e w23 ⟨rfl, b23⟩; obtain ⟨cf23, ff23⟩ := bcell b23; have z23 := b23.size; (try simp at z23); have dB23 := fun o => cf23 B o (by first | omega | (simp; done) | (simp; omega)); clear cf23 ff23; have x23 := below2 x22 b23) | (go_at_call 60; (with_reducible refine (H11.out _ (below2 HB7.out x23)).mono ?_); rintro e w24 ⟨rfl, b24⟩; obtain ⟨cf24, ff24⟩ := bcell b24; have z24 := b24.size; (try simp at z24); have dB24 := fun o => cf24 B o (by first | omega | (simp; done) | (simp; omega)); clear cf24 ff24; have x24 := below2 x23 b24) | (go_at_call 72; (with_reducible refine (H12.out _ (below2 HB7.out x24)).mono ?_); rintro e w25 ⟨r25, rfl, rd25, b25⟩; obtain ⟨cf25, ff25⟩ := bcell b25; have z25 := b25.size; (try simp at z25); have dB25 := fun o => cf25 B o (by first | omega | (simp; done) | (simp; omega)); clear cf25 ff25; have x25 := below2 x24 b25) | (go_at_call 73; (with_reducible refine (H13.out _ (below2 HB7.out x25)).mono ?_); rintro e w26 ⟨r26, rfl, rd26, b26⟩; obtain ⟨cf26, ff26⟩ := bcell b26; have z26 := b26.size; (try simp at z26); have dB26 := fun o => cf26 B o (by first | omega | (simp; done) | (simp; omega)); clear cf26 ff26; have x26 := below2 x25 b26) | (go_at_call 44; (with_reducible refine (peers_same _ _ _ _ (ReadsL.below rd25 b26) rd26).mono ?_); rintro e w27 ⟨rfl, b27⟩; obtain ⟨cf27, ff27⟩ := bcell b27; have z27 := b27.size; (try simp at z27); have dB27 := fun o => cf27 B o (by first | omega | (simp; done) | (simp; omega)); clear cf27 ff27; have x27 := below2 x26 b27) | (go_at_call 65; (with_reducible refine (H14.out _ (below2 HB7.out x27)).mono ?_); rintro e w28 ⟨rfl, b28⟩; obtain ⟨cf28, ff28⟩ := bcell b28; have z28 := b28.size; (try simp at z28); have dB28 := fun o => cf28 B o (by first | omega | (simp; done) | (simp; omega)); clear cf28 ff28; have x28 := below2 x27 b28) | (go_at_call 74; (with_reducible refine (H15.out _ (below2 HB7.out x28)).mono ?_); rintro e w29 ⟨rfl, b29⟩; obtain ⟨cf29, ff29⟩ := bcell b29; have z29 := b29.size; (try simp at z29); have dB29 := fun o => cf29 B o (by first | omega | (simp; done) | (simp; omega)); clear cf29 ff29; have x29 := below2 x28 b29) | (go_at_call 62; (with_reducible refine (H16.out _ (below2 HB7.out x29)).mono ?_); rintro e w30 ⟨r30, rfl, rd30, b30⟩; obtain ⟨cf30, ff30⟩ := bcell b30; have z30 := b30.size; (try simp at z30); have dB30 := fun o => cf30 B o (by first | omega | (simp; done) | (simp; omega)); clear cf30 ff30; have x30 := below2 x29 b30) | (go_at_call 75; (with_reducible refine (H17.out _ (below2 HB7.out x30)).mono ?_); rintro e w31 ⟨r31, rfl, rd31, b31⟩; obtain ⟨cf31, ff31⟩ := bcell b31; have z31 := b31.size; (try simp at z31); have dB31 := fun o => cf31 B o (by first | omega | (simp; done) | (simp; omega)); clear cf31 ff31; have x31 := below2 x30 b31) | (go_at_call 44; (with_reducible refine (peers_same _ _ _ _ (ReadsL.below rd30 b31) rd31).mono ?_); rintro e w32 ⟨rfl, b32⟩; obtain ⟨cf32, ff32⟩ := bcell b32; have z32 := b32.size; (try simp at z32); have dB32 := fun o => cf32 B o (by first | omega | (simp; done) | (simp; omega)); clear cf32 ff32; have x32 := below2 x31 b32) | (go_at_call 58; (with_reducible refine (HA.out _).mono ?_); rintro e w33 ⟨rfl, b33⟩; obtain ⟨cf33, ff33⟩ := bcell b33; have z33 := b33.size; (try simp at z33); have dB33 := fun o => cf33 B o (by first | omega | (simp; done) | (simp; omega)); clear cf33 ff33; have x33 := below2 x32 b33) | fail)
  go_wp2_with fail
  go_ret
  exact ⟨rfl, below2 HB7.out x33⟩
end Go.Proofs.Ytppmjbnhghaffaa
