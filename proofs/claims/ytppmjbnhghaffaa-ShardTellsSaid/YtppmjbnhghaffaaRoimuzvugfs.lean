/- Texts put together: LawShardT. No condition. -/
import Derived.Test.YtppmjbnhghaffaaRldjghgvkyk
import Derived.Test.YtppmjbnhghaffaaRhsngkxuwdv
import Derived.Test.YtppmjbnhghaffaaRoovpotoyzp
import Derived.Deep.RegionHeld3
namespace Go.Proofs.Ytppmjbnhghaffaa
open Go.RowKit Go.Lib
set_option linter.unusedSimpArgs false
set_option linter.unusedVariables false

set_option maxRecDepth 100000 in
set_option maxHeartbeats 16000000 in
theorem shardTells_any (v u : Value) (l : List Pe) (ss : List Sh) (ks : Int × Int) (w : World) (h : ReadsL peV 10 w v l) (h2 : ReadsSh w u ss) (hf : ∀ p ∈ l, p.en.ad.fits) :
    Calls Try.prog 7 #[v, u, .agg #[.int .i64 ks.1, .int .i64 ks.2]] w fun e w' => e = .returned (.bool true) ∧ Below w.heap.size w w' := by
  have HV := Lib.hid h; have HU := Lib.hid h2
  have HA := Lib.hid (fun w => awake31_any w)
  obtain ⟨hm1, pa, ca, rfl, h3⟩ := pes_open h
  obtain ⟨hm2, pb, cb, rfl, h32⟩ := shs_open h2.1
  clear h h2
  have hb0 : Below w.heap.size w (w.alloc (.cells #[.int .i64 ks.1, .int .i64 ks.2] 60)) := (Below.refl _ _).alloc (Nat.le_refl _) _
  have HB0 := Lib.hid hb0
  clear hb0
  rcases Int.lt_or_le 30 (l.length : Int) with hlen | hlen
  · go_enter Try.func7, Try.ntmps7
    go_wp2_with (go_at_call 41; (with_reducible refine (HA.out _).mono ?_); rintro e w2 ⟨rfl, b2⟩)
    go_ret
    exact ⟨rfl, below2 HB0.out b2⟩
  have hd1 : decide ((30 : Int) < (l.length : Int)) = false := decide_eq_false (by omega)
  have hd2 : ¬ (30 : Int) < (l.length : Int) := by omega
  have hd3 : ¬ 30 < l.length := by omega
  have HLt := Lib.hid (light31_any _ ss (w.alloc (.cells #[.int .i64 ks.1, .int .i64 ks.2] 60)) (HU.out.below HB0.out))
  have HK0 : Hid (BlockIs (w.alloc (.cells #[.int .i64 ks.1, .int .i64 ks.2] 60)) w.heap.size [.int .i64 ks.1, .int .i64 ks.2] 60) := BlockIs.new w [.int .i64 ks.1, .int .i64 ks.2] _
  obtain ⟨k0, k1⟩ := ks
  simp only at HB0 HLt HK0 ⊢
  have hsl := u64of_lt k0
  have huw := u64of_wrap k0
  obtain ⟨s, hs⟩ : ∃ s, s = u64of k0 := ⟨_, rfl⟩
  rw [← hs] at hsl huw
  clear hs
  go_enter Try.func7, Try.ntmps7
  go_upto_region 1 with fail
  go_name_world W0 hW0
  rw [hW0] at HB0 HLt HK0
  obtain ⟨B, hB⟩ : ∃ B, B = w.heap.size := ⟨_, rfl⟩
  rw [← hB] at HK0 ⊢
  have HBw := Lib.hid hB
  clear hW0 hB
  go_wp2_with (first
    | (go_at_call 40; (with_reducible refine HLt.out.mono ?_); rintro e w1 ⟨lb, rfl, hlb, b1⟩; have g0 := (HK0.out.below b1).cell (i := 0) rfl; cases lb)
    | (go_at_call 41; (with_reducible refine (HA.out _).mono ?_); rintro e w2 ⟨rfl, b2⟩))
  · go_ret
    exact ⟨rfl, below2 (below2 HB0.out b1) b2⟩
  · obtain ⟨hs10, hs30⟩ := hlb (by first | exact rfl | trivial)
    have HB1 := Lib.hid (below2 HB0.out b1)
    have hK1 := HK0.out.below b1
    have HK1 := Lib.hid hK1
    have H30 := Lib.hid hs30
    clear hlb b1 HB0 HK0 hs30 HLt hK1
    clear g0
    go_loopw [8] (fun i' wr => ∃ i : Nat, i ≤ l.length ∧ i' = .int .i64 i ∧ Hid (Below w1.heap.size w1 wr)) (fun i' _ => l.length - (intOf i').toNat)
    case atStart => exact ⟨0, by omega, rfl, Below.refl _ _⟩
    case round =>
      obtain ⟨i, hi, rfl, HB⟩ := hrel
      have p1 : (0 : Int) ≤ (i : Int) := by omega
      have HBr := Lib.hid (below2 HB1.out HB.out)
      by_cases hil : i < l.length
      · obtain ⟨x, hx⟩ : ∃ x, l[i]? = some x := ⟨_, List.getElem?_eq_getElem hil⟩
        obtain ⟨b, o, rfl, h4, h5, h6⟩ := h3 (by omega)
        have p2 : (i : Int) < (l.length : Int) := by omega
        have KX : ∀ Y, PeIn (Go.Proofs.Ytppmjbnhghaffaa.ext wr Y) b (o + i * 10) x := fun Y => ((h6 i x hx).below HBr.out h5).below (ext_below wr Y) (Nat.lt_of_lt_of_le h5 HBr.out.size)
        have x0 := fun y => (KX y).1; have x1 := fun y => (KX y).2.1; have x2 := fun y => (KX y).2.2.1; have x3 := fun y => (KX y).2.2.2.1; have x4 := fun y => (KX y).2.2.2.2.1; have x5 := fun y => (KX y).2.2.2.2.2.1; have x6 := fun y => (KX y).2.2.2.2.2.2.1; have x7 := fun y => (KX y).2.2.2.2.2.2.2.1; have x8 := fun y => (KX y).2.2.2.2.2.2.2.2.1; have x9 := fun y => (KX y).2.2.2.2.2.2.2.2.2
        have g1 : ∀ Y, (Go.Proofs.Ytppmjbnhghaffaa.ext wr Y).cell? ⟨B, 1, none⟩ = some (.int .i64 k1) := fun Y => ((HK1.out.below HB.out).below (ext_below wr Y)).cell rfl
        have hfx := hf x (List.mem_of_getElem? hx)
        have HO1 := Lib.hid (fun W => shOf_any x.en.ad hfx s hsl k1 W)
        have HO2 := Lib.hid (fun W => refShOf_any x.en.ad hfx s hsl k1 W)
        generalize ofN x.en.ad s k1 = q at *
        clear hx h6 KX h3
        go_wp2_with fail
        refine wp_region_ext (by kernel_rfl) (by kernel_rfl) ?_
        repeat (go_big_quiet_step ((first | (go_at_call 42; with_reducible exact qe (HO1.out _)) | (go_at_call 43; with_reducible exact qe (HO2.out _)))))
        refine wpQuiet_nil ?_
        intro _ hw'
        obtain ⟨gx, hw''⟩ := hw'
        subst hw''
        clear x0 x1 x2 x3 x4 x5 x6 x7 x8 x9 g1
        go_wp2_with fail
        go_roundw
        case rel => exact ⟨i + 1, by omega, by go_num, below2 HB.out (ext_below wr gx)⟩
        case measure => simp [intOf]; omega
      · obtain rfl : i = l.length := by omega
        obtain ⟨wo, rfl⟩ : ∃ wo : World, wo = wr := ⟨_, rfl⟩
        have HKo := Lib.hid (HK1.out.below HB.out)
        clear HB HK1 HB1
        go_wp2_with fail
        go_loopw [9] (fun i' wr => ∃ i : Nat, i ≤ ss.length ∧ i' = .int .i64 i ∧ Hid (Below wo.heap.size wo wr)) (fun i' _ => ss.length - (intOf i').toNat)
        case atStart => exact ⟨0, by omega, rfl, Below.refl _ _⟩
        case round =>
          obtain ⟨i, hi, rfl, HB⟩ := hrel
          have p1 : (0 : Int) ≤ (i : Int) := by omega
          have HBw2 := Lib.hid (below2 HBr.out HB.out)
          by_cases hil : i < ss.length
          · obtain ⟨⟨z, v1, L⟩, hx⟩ : ∃ x, ss[i]? = some x := ⟨_, List.getElem?_eq_getElem hil⟩
            obtain ⟨b, o, rfl, h4, h5, h6⟩ := h32 (by omega)
            have hc := h6 i _ hx
            have hmem := List.mem_of_getElem? hx
            have hr := HU.out.2 _ hmem
            have hL := H30.out _ hmem
            simp only at hc hr hL
            have HP1 := Lib.hid (fun W (hW : Below w.heap.size w W) => shPeers_any z v1 L W (ReadsL.below hr hW) (by omega))
            have HP2 := Lib.hid (fun W (hW : Below w.heap.size w W) => refShPeers_any z v1 L W (ReadsL.below hr hW) (by omega))
            have HW1 := Lib.hid (fun W (hW : Below w.heap.size w W) => shWrites_any v1 _ L l W (ReadsL.below hr hW) (ReadsL.below HV.out hW) (by omega))
            have HW2 := Lib.hid (fun W (hW : Below w.heap.size w W) => refShWrites_any v1 _ L l W (ReadsL.below hr hW) (ReadsL.below HV.out hW) (by omega))
            obtain ⟨hmL, p1, d1, rfl, -⟩ := pes_open hr
            generalize L.take z.toNat = PQ at *
            generalize wrtL L l = WQ at *
            have s1 := keep HBw2.out h5 hc.1; have s2 := keep HBw2.out h5 hc.2
            have lb := Nat.lt_of_lt_of_le h5 HBw2.out.size
            have p2 : (i : Int) < (ss.length : Int) := by omega
            clear hx h6 hmem hr h32 h3 hc h5 hf
            go_wp2_with fail
            go_region_held3 (fun w' => w'.cell? ⟨b, o + i * 2, none⟩ = some (.int .i64 z) ∧ w'.cell? ⟨b, o + i * 2 + 1, none⟩ = some (.slice p1 L.length d1)) (first | go_keep | (simp (disch := omega) [*]; done)) (first | (go_at_call 45; (with_reducible refine (HP1.out _ (below2 HBw2.out (Below.refl wr.heap.size wr).drew)).mono ?_); rintro e w11 ⟨r11, rfl, rd11, b11⟩; obtain ⟨cf11, ff11⟩ := bcell b11; have z11 := b11.size; (try simp at z11); have db11 := fun o => cf11 b o (by first | omega | (simp; done) | (simp; omega)); clear cf11 ff11; have X11 := below2 ((Below.refl wr.heap.size wr).drew) b11) | (go_at_call 46; (with_reducible refine (HP2.out _ (below2 HBw2.out X11)).mono ?_); rintro e w12 ⟨r12, rfl, rd12, b12⟩; obtain ⟨cf12, ff12⟩ := bcell b12; have z12 := b12.size; (try simp at z12); have db12 := fun o => cf12 b o (by first | omega | (simp; done) | (simp; omega)); clear cf12 ff12; have X12 := below2 (X11) b12) | (go_at_call 44; (with_reducible refine (peers_same _ _ _ _ (ReadsL.below rd11 b12) rd12).mono ?_); rintro e w13 ⟨rfl, b13⟩; obtain ⟨cf13, ff13⟩ := bcell b13; have z13 := b13.size; (try simp at z13); have db13 := fun o => cf13 b o (by first | omega | (simp; done) | (simp; omega)); clear cf13 ff13; have X13 := below2 X12 b13) | (go_at_call 48; (with_reducible refine (HW1.out _ (below2 HBw2.out X13)).mono ?_); rintro e w14 ⟨r14, rfl, rd14, b14⟩; obtain ⟨cf14, ff14⟩ := bcell b14; have z14 := b14.size; (try simp at z14); have db14 := fun o => cf14 b o (by first | omega | (simp; done) | (simp; omega)); clear cf14 ff14; have X14 := below2 (X13) b14) | (go_at_call 49; (with_reducible refine (HW2.out _ (below2 HBw2.out X14)).mono ?_); rintro e w15 ⟨r15, rfl, rd15, b15⟩; obtain ⟨cf15, ff15⟩ := bcell b15; have z15 := b15.size; (try simp at z15); have db15 := fun o => cf15 b o (by first | omega | (simp; done) | (simp; omega)); clear cf15 ff15; have X15 := below2 (X14) b15) | (go_at_call 47; (with_reducible refine (ints_sameS _ _ _ _ (Reads.below rd14 b15) rd15).mono ?_); rintro e w16 ⟨rfl, b16⟩; obtain ⟨cf16, ff16⟩ := bcell b16; have z16 := b16.size; (try simp at z16); have db16 := fun o => cf16 b o (by first | omega | (simp; done) | (simp; omega)); clear cf16 ff16; have X16 := below2 X15 b16) | fail)
            go_wp2_with fail
            go_roundw
            case rel => exact ⟨i + 1, by omega, by go_num, below2 HB.out X16⟩
            case measure => simp [intOf]; omega
          · obtain rfl : i = ss.length := by omega
            have hKr := HKo.out.below HB.out
            have g1 := hKr.cell (i := 1) rfl
            have lB := hKr.lt
            have HSp1 := Lib.hid (fun W (hW : Below w.heap.size w W) => shSplit_any _ l s hsl k1 W (ReadsL.below HV.out hW) hf (by omega))
            have HSp2 := Lib.hid (fun W (hW : Below w.heap.size w W) => refShSplit_any _ l s hsl k1 W (ReadsL.below HV.out hW) hf (by omega))
            have hfl : ∀ k, ((ss.take k).flatMap pesS).length ≤ 1000000 := fun k => by
              have h1 := flat_le (f := pesS) (N := 30) (l := ss.take k) fun x hx => by
                have := H30.out x (List.mem_of_mem_take hx)
                unfold pesS; rw [List.length_take]; omega
              have h2 : (ss.take k).length ≤ 10 := by rw [List.length_take]; omega
              omega
            have hsl1 : ∀ t ∈ ss, t.l.length ≤ 1000000 := fun t ht => by have := H30.out t ht; omega
            have HJ1 := Lib.hid (fun W (hW : Below w.heap.size w W) => shJoin_any _ ss W (HU.out.below hW) hsl1 hfl)
            have HJ2 := Lib.hid (fun W (hW : Below w.heap.size w W) => refShJoin_any _ ss W (HU.out.below hW) hsl1 hfl)
            generalize pstL (ss.flatMap pesS) = JQ at *
            clear hKr hfl hsl1 h3 h32 hf
            go_wp2_with fail
            go_region_held3 (fun w' => w'.cell? ⟨B, 1, none⟩ = some (.int .i64 k1)) (first | go_keep | (simp (disch := omega) [*]; done)) (first | (go_at_call 51; (with_reducible refine (HSp1.out _ (below2 HBw2.out (Below.refl wr.heap.size wr).drew)).mono ?_); rintro e w21 ⟨r21, ss21, rfl, rd21, pp21, b21⟩; obtain ⟨cf21, ff21⟩ := bcell b21; have z21 := b21.size; (try simp at z21); have dB21 := fun o => cf21 B o (by first | omega | (simp; done) | (simp; omega)); clear cf21 ff21; have X21 := below2 ((Below.refl wr.heap.size wr).drew) b21) | (go_at_call 52; (with_reducible refine (HSp2.out _ (below2 HBw2.out X21)).mono ?_); rintro e w22 ⟨r22, ss22, rfl, rd22, pp22, b22⟩; obtain ⟨cf22, ff22⟩ := bcell b22; have z22 := b22.size; (try simp at z22); have dB22 := fun o => cf22 B o (by first | omega | (simp; done) | (simp; omega)); clear cf22 ff22; have X22 := below2 (X21) b22) | (go_at_call 50; (with_reducible refine (parts_same _ _ _ _ _ (rd21.below b22) rd22 (parts_alike pp21 pp22)).mono ?_); rintro e w23 ⟨rfl, b23⟩; obtain ⟨cf23, ff23⟩ := bcell b23; have z23 := b23.size; (try simp at z23); have dB23 := fun o => cf23 B o (by first | omega | (simp; done) | (simp; omega)); clear cf23 ff23; have X23 := below2 X22 b23) | (go_at_call 53; (with_reducible refine (HJ1.out _ (below2 HBw2.out X23)).mono ?_); rintro e w24 ⟨r24, rfl, rd24, b24⟩; obtain ⟨cf24, ff24⟩ := bcell b24; have z24 := b24.size; (try simp at z24); have dB24 := fun o => cf24 B o (by first | omega | (simp; done) | (simp; omega)); clear cf24 ff24; have X24 := below2 (X23) b24) | (go_at_call 54; (with_reducible refine (HJ2.out _ (below2 HBw2.out X24)).mono ?_); rintro e w25 ⟨r25, rfl, rd25, b25⟩; obtain ⟨cf25, ff25⟩ := bcell b25; have z25 := b25.size; (try simp at z25); have dB25 := fun o => cf25 B o (by first | omega | (simp; done) | (simp; omega)); clear cf25 ff25; have X25 := below2 (X24) b25) | (go_at_call 44; (with_reducible refine (peers_same _ _ _ _ (ReadsL.below rd24 b25) rd25).mono ?_); rintro e w26 ⟨rfl, b26⟩; obtain ⟨cf26, ff26⟩ := bcell b26; have z26 := b26.size; (try simp at z26); have dB26 := fun o => cf26 B o (by first | omega | (simp; done) | (simp; omega)); clear cf26 ff26; have X26 := below2 X25 b26) | (go_at_call 41; (with_reducible refine (HA.out _).mono ?_); rintro e w27 ⟨rfl, b27⟩; obtain ⟨cf27, ff27⟩ := bcell b27; have z27 := b27.size; (try simp at z27); have dB27 := fun o => cf27 B o (by first | omega | (simp; done) | (simp; omega)); clear cf27 ff27; have X27 := below2 X26 b27) | fail)
            go_wp2_with fail
            go_ret
            exact ⟨rfl, below2 HBw2.out X27⟩
end Go.Proofs.Ytppmjbnhghaffaa
