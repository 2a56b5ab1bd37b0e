/- Texts put together: LawTableB. No condition. -/
import Derived.Test.YtppmjbnhghaffaaRmfdnccjcjd
import Derived.Test.YtppmjbnhghaffaaRxwumohschx
import Derived.Test.YtppmjbnhghaffaaRqsaivrcoph
import Derived.Test.YtppmjbnhghaffaaRjfnjsvqfsd
import Derived.Test.YtppmjbnhghaffaaRownocrnxae
import Derived.Test.YtppmjbnhghaffaaRjxylkaeqpy
import Derived.Test.YtppmjbnhghaffaaRzrtjsefiug
import Derived.Test.YtppmjbnhghaffaaRlgcypowzpv
import Derived.Test.YtppmjbnhghaffaaRxixmxfqcji
import Derived.Test.YtppmjbnhghaffaaRpwbpvbenxz
import Derived.Test.YtppmjbnhghaffaaRdjdwltvvra
import Derived.Deep.RegionHeld3
import Derived.Handy
namespace Go.Proofs.Ytppmjbnhghaffaa
open Go.RowKit Go.Lib

theorem below_none (n : Int) (w : World) : Calls Try.prog 61 #[.int .i64 n, .int .i64 0] w fun e w' => e = .returned (.int .i64 0) ∧ w = w' := by
  go_enter Try.func61, Try.ntmps61
  go_wp2_with fail
  go_ret
  exact ⟨rfl, rfl⟩
set_option maxRecDepth 100000 in
set_option maxHeartbeats 16000000 in
theorem tableStays_any (v : Value) (l : List Pe) (n : Int) (w : World) (h : ReadsL peV 10 w v l) (hl : ∀ x ∈ l, x.en.ad.fits) (hn : -9223372036854775808 ≤ n ∧ n ≤ 9223372036854775807) :
    Calls Try.prog 10 #[v, .int .i64 n] w fun e w' => e = .returned (.bool true) ∧ Below w.heap.size w w' := by
  have HV := Lib.hid h
  have HA := Lib.hid (fun w => awake30_any w)
  obtain ⟨hm1, pa, ca, rfl, h3⟩ := pes_open h
  clear h
  rcases Int.lt_or_le 60 (l.length : Int) with hlen | hlen
  · go_enter Try.func10, Try.ntmps10
    go_wp2_with (go_at_call 58; (with_reducible refine (HA.out _).mono ?_); rintro e w2 ⟨rfl, b2⟩)
    go_ret
    refine ⟨rfl, ?_⟩
    (repeat (first | with_reducible assumption | with_reducible exact Below.refl _ _ | with_reducible refine Below.setCell ?_ (by first | omega | (simp; done) | (simp; omega)) _ | with_reducible refine Below.alloc ?_ (by first | omega | (simp; done) | (simp; omega)) _ | with_reducible refine Below.drew ?_ | (with_reducible refine Below.trans ?_ (Below.mono (by with_reducible assumption) (by first | omega | (simp; done) | (simp; omega)))) | (refine Below.trans ?_ (Below.mono (by assumption) (by first | omega | (simp; done) | (simp; omega))))))
  rcases Nat.eq_zero_or_pos l.length with hz | hz
  · have hzz : (l.length : Int) = 0 := by omega
    rw [hz]
    go_enter Try.func10, Try.ntmps10
    go_wp2_with (go_at_call 58; (with_reducible refine (HA.out _).mono ?_); rintro e w2 ⟨rfl, b2⟩)
    go_ret
    refine ⟨rfl, ?_⟩
    (repeat (first | with_reducible assumption | with_reducible exact Below.refl _ _ | with_reducible refine Below.setCell ?_ (by first | omega | (simp; done) | (simp; omega)) _ | with_reducible refine Below.alloc ?_ (by first | omega | (simp; done) | (simp; omega)) _ | with_reducible refine Below.drew ?_ | (with_reducible refine Below.trans ?_ (Below.mono (by with_reducible assumption) (by first | omega | (simp; done) | (simp; omega)))) | (refine Below.trans ?_ (Below.mono (by assumption) (by first | omega | (simp; done) | (simp; omega))))))
  have hzz : ¬ ((l.length : Int) = 0) := by omega
  have hzb : ((l.length : Int) == 0) = false := beq_eq_false_iff_ne.2 hzz
  have HON := Lib.hid (onesT_ones l)
  go_enter Try.func10, Try.ntmps10
  go_wp2_with fail
  go_loopw [5, 6] (fun u' i' wr => ∃ k : Nat, k ≤ l.length ∧ i' = .int .i64 k ∧ Hid (wr.ownsRow w.heap.size 66 10 u' (onesT (l.take k)).length ((onesT (l.take k)).flatMap peV)) ∧ Hid (Below w.heap.size w wr)) (fun _ i' _ => l.length - (intOf i').toNat)
  case atStart => exact ⟨0, by omega, rfl, World.ownsRow_nil _ _ _ _, Below.refl _ _⟩
  case round =>
    obtain ⟨k, hk, rfl, HU, HB⟩ := hrel
    by_cases hlt : k < l.length
    · obtain ⟨x, hx⟩ : ∃ x, l[k]? = some x := ⟨_, List.getElem?_eq_getElem hlt⟩
      obtain ⟨b, o, rfl, h4, h5, h6⟩ := h3 (by omega)
      have hbl := Nat.lt_of_lt_of_le h5 HB.out.size
      have hK := (h6 k x hx).below HB.out h5
      have HK := Lib.hid hK
      obtain ⟨k0, k1, k2, k3, k4, k5, k6, k7, k8, k9⟩ := hK
      have q1 : (0 : Int) ≤ (k : Int) := by omega
      have q2 : (k : Int) < (l.length : Int) := by omega
      have hfx := hl x (List.mem_of_getElem? hx)
      have hS := onesT_snoc (l.take k) x
      rw [← show l.take (k + 1) = l.take k ++ [x] by rw [List.take_add_one, hx, Option.toList_some]] at hS
      have HS := Lib.hid hS
      have hcl : (onesT (l.take k)).length ≤ k := Nat.le_trans (onesT_ones _).2.1 (by rw [List.length_take]; omega)
      have HR := Lib.hid (fun W => refPeRight_any x hfx W)
      have hI := fun W (hW : Below wr.heap.size wr W) => refIndex_any _ (onesT (l.take k)) x.en W (ReadsL.below (owns_readsL HU.out) hW)
      obtain ⟨z, hzf⟩ : ∃ z, z = fdI (onesT (l.take k)) x.en := ⟨_, rfl⟩
      rw [← hzf] at hI
      have HI := Lib.hid hI; have HZ := Lib.hid hzf
      clear hx hS h6 h3 hI hzf
      cases hr : peRight x with
      | false =>
        rw [hr] at HR
        have HN : Hid (onesT (l.take (k + 1)) = onesT (l.take k)) := by show _ = _; rw [HS.out]; exact oneT_no (Or.inl hr)
        clear hr
        go_wp2_with (go_at_call 59; (with_reducible refine (HR.out _).mono ?_); rintro e w5 ⟨rfl, b5⟩)
        go_roundw
        case rel => exact ⟨k + 1, by omega, by go_num, by rw [HN.out]; exact owns_below HU.out b5, below2 HB.out b5⟩
        case measure => simp [intOf]; omega
      | true =>
        rw [hr] at HR
        by_cases hz0 : z < 0
        · have HN : Hid (onesT (l.take (k + 1)) = onesT (l.take k) ++ [x]) := by show _ = _; rw [HS.out]; exact oneT_yes hr (by rw [← HZ.out]; exact hz0)
          have hzd : decide (z < 0) = true := decide_eq_true hz0
          clear hr
          go_upto_region 8 with (first
            | (go_at_call 59; (with_reducible refine (HR.out _).mono ?_); rintro e w5 ⟨rfl, b5⟩; have hK5 := HK.out.below b5 hbl; obtain ⟨y0, y1, y2, y3, y4, y5, y6, y7, y8, y9⟩ := hK5)
            | (go_at_call 60; (with_reducible refine (HI.out _ b5).mono ?_); rintro e W6 ⟨rfl, b6⟩))
          have HB6 := Lib.hid (below2 b5 b6)
          clear k0 k1 k2 k3 k4 k5 k6 k7 k8 k9 y0 y1 y2 y3 y4 y5 y6 y7 y8 y9 b5 b6
          have hK6 := HK.out.below HB6.out hbl
          obtain ⟨k0, k1, k2, k3, k4, k5, k6, k7, k8, k9⟩ := hK6
          have HU6 := Lib.hid (owns_below HU.out HB6.out)
          have HW6 : Hid (w.heap.size ≤ W6.heap.size) := Nat.le_trans HB.out.size HB6.out.size
          have hlen2 : (onesT (l.take k) ++ [x]).length = (onesT (l.take k)).length + 1 := by simp
          have hfl : (onesT (l.take k) ++ [x]).flatMap peV = (onesT (l.take k)).flatMap peV ++ peV x := by rw [List.flatMap_append]; simp
          have HL := Lib.hid hlen2; have HFl := Lib.hid hfl
          clear hlen2 hfl HU HZ HI HR
          go_wp2_with (at_builtin; refine list_app_reads peRow rfl (.tmp 44) (.tmp 49) rfl w.heap.size _ (onesT (l.take k)).length ((onesT (l.take k)).flatMap peV) rfl (HU6.out.alloc _) _ 1 (peV x) rfl (reads_one (us := peV x) rfl (Nat.succ_pos 9)) (peV_one1 x) (by omega) (by omega) (by have := HW6.out; simp; omega) w.heap.size W6 ((Below.refl _ _).alloc HW6.out _) (Nat.le_refl _) ?_; intro v7 w7 o7 b7)
          go_roundw
          case rel => exact ⟨k + 1, by omega, by go_num, by rw [HN.out, HL.out, HFl.out]; exact o7, (HB.out.trans (HB6.out.mono HB.out.size)).trans b7⟩
          case measure => simp [intOf]; omega
        · have HN : Hid (onesT (l.take (k + 1)) = onesT (l.take k)) := by show _ = _; rw [HS.out]; exact oneT_no (Or.inr (by rw [← HZ.out]; exact hz0))
          have hzd : decide (z < 0) = false := decide_eq_false hz0
          clear hr
          go_wp2_with (first
            | (go_at_call 59; (with_reducible refine (HR.out _).mono ?_); rintro e w5 ⟨rfl, b5⟩; have hK5 := HK.out.below b5 hbl; obtain ⟨y0, y1, y2, y3, y4, y5, y6, y7, y8, y9⟩ := hK5)
            | (go_at_call 60; (with_reducible refine (HI.out _ b5).mono ?_); rintro e W6 ⟨rfl, b6⟩))
          go_roundw
          case rel => exact ⟨k + 1, by omega, by go_num, by rw [HN.out]; exact owns_below HU.out (below2 b5 b6), below2 HB.out (below2 b5 b6)⟩
          case measure => simp [intOf]; omega
    · obtain rfl : k = l.length := by omega
      have hTk : l.take l.length = l := List.take_length
      rw [hTk] at HU
      clear h3 hlt hTk
      generalize onesT l = R at HU HON
      obtain ⟨wo, rfl⟩ : ∃ wo : World, wo = wr := ⟨_, rfl⟩
      have hRl : R.length ≤ 60 := by have := HON.out.2.1; omega
      have hfR : ∀ x ∈ R, x.en.ad.fits := fun x hx => hl x (HON.out.2.2 x hx)
      have HOn : Hid (Ones R) := HON.out.1
      clear HON hl
      rcases Nat.eq_zero_or_pos R.length with hR0 | hR0
      · obtain rfl : R = [] := List.eq_nil_of_length_eq_zero hR0
        have HBL := Lib.hid (fun w => below_none n w)
        have h00 : ([] : List Pe).length = 0 := rfl
        have HRR0 : Hid (∀ (a : Option Addr) (c : Nat) (W : World), ReadsL peV 10 W (.slice a 0 c) []) := fun a c W => ⟨rfl, by simp, Or.inl ⟨rfl, a, c, rfl⟩⟩
        have HR0r : Hid (∀ (a : Option Addr) (c : Nat) (W : World), Reads W (.slice a 0 c) 0 10 []) := fun a c W => ⟨rfl, by omega, Or.inl ⟨rfl, a, c, rfl⟩⟩
        rcases HU.out.2 with ⟨rfl, _⟩ | ⟨g, cp, cur, rfl, _⟩
        · try rw [h00]
          clear h00 HU
          go_upto_region 10 with (go_at_call 61; (with_reducible refine (HBL.out _).mono ?_); rintro e w' ⟨rfl, rfl⟩)
          go_region_held3 (fun _ => True) (first | trivial) (first | (refine step_app_reads peRow (by rfl) (.tmp 55) (.tmp 58) (by rfl) wo.heap.size _ 0 [] (by rfl) (World.ownsRow_made _ #[] 0 (Nat.le_refl _) (Nat.zero_le _) rfl) _ 0 [] (by rfl) (HR0r.out _ _ _) (by simp) (by omega) (by omega) (by simp) wo.heap.size wo (by (repeat (first | with_reducible assumption | with_reducible exact Below.refl _ _ | with_reducible refine Below.setCell ?_ (by first | omega | (simp; done) | (simp; omega)) _ | with_reducible refine Below.alloc ?_ (by first | omega | (simp; done) | (simp; omega)) _ | with_reducible refine Below.drew ?_ | (with_reducible refine Below.trans ?_ (Below.mono (by with_reducible assumption) (by first | omega | (simp; done) | (simp; omega)))) | (refine Below.trans ?_ (Below.mono (by assumption) (by first | omega | (simp; done) | (simp; omega))))))) (Nat.le_refl _) ?_; intro v1 w1 o1 b1; simp only [Nat.zero_add, List.nil_append] at o1) | (refine step_app_reads peRow (by rfl) (.tmp 59) (.tmp 62) (by rfl) wo.heap.size v1 0 [] (by rfl) o1 _ 0 [] (by rfl) (HR0r.out _ _ _) (by simp) (by omega) (by omega) (b1.size) wo.heap.size wo b1 (Nat.le_refl _) ?_; intro v2 w2 o2 b2))
          obtain ⟨R, hRe⟩ : ∃ R : List Pe, R = [] := ⟨_, rfl⟩
          obtain ⟨T, hTe⟩ : ∃ T : List Pe, T = [] := ⟨_, rfl⟩
          have HRT : Hid (ReadsL peV 10 w2 v2 T) := by rw [hTe]; exact owns_readsL (l := []) o2
          have hTf : ∀ x ∈ T, x.en.ad.fits := by rw [hTe]; simp
          have hTl : T.length ≤ 60 := by rw [hTe]; simp
          have HT : Hid (Ones T) := by rw [hTe]; exact HOn.out
          have HTP : Hid (pstL T = pstL R) := by show _ = _; rw [hTe, hRe]
          have HRR : Hid (ReadsL peV 10 w2 (.slice none 0 0) R) := by rw [hRe]; exact HRR0.out _ _ _
          rw [← hRe] at HOn hfR hRl
          have HB2 := Lib.hid (below2 HB.out b2)
          clear hRe hTe o1 o2 b1 b2 HBL HB HRR0 HR0r
          have HSo := Lib.hid (fun W (hW : Below w2.heap.size w2 W) => tsorted_any _ R W (ReadsL.below HRR.out hW) (by omega))
          have HPR := Lib.hid (pst_right HOn.out)
          obtain ⟨hmT, pT, cT, rfl, h3T⟩ := pes_open HRT.out
          go_upto_region 12 with (go_at_call 62; (with_reducible refine (HSo.out _ (Below.refl _ _)).mono ?_); rintro e w3 ⟨r3, rfl, rd3, b3⟩; obtain ⟨hm3, p3, c3, rfl, -⟩ := pes_open rd3)
          have HS3 := Lib.hid rd3; have HB3 := Lib.hid b3
          clear rd3 b3 HSo
          go_wp2_with fail
          go_loopw [10, 11] (fun u' i' wr => ∃ k : Nat, k ≤ T.length ∧ i' = .int .i64 k ∧ Hid (ReadsL peV 10 wr u' (pstL (T.take k))) ∧ Hid (Below w3.heap.size w3 wr)) (fun _ i' _ => T.length - (intOf i').toNat)
          case atStart => exact ⟨0, by omega, rfl, ⟨rfl, Nat.zero_le _, Or.inl ⟨rfl, none, 0, rfl⟩⟩, Below.refl _ _⟩
          case round =>
            obtain ⟨k, hk, rfl, HO, HBr⟩ := hrel
            have HBr2 := Lib.hid (below2 HB3.out HBr.out)
            by_cases hlt : k < T.length
            · obtain ⟨x, hx⟩ : ∃ x, T[k]? = some x := ⟨_, List.getElem?_eq_getElem hlt⟩
              obtain ⟨b, o, rfl, h4, h5, h6⟩ := h3T (by omega)
              have hK := (h6 k x hx).below HBr2.out h5
              obtain ⟨k0, k1, k2, k3, k4, k5, k6, k7, k8, k9⟩ := hK
              have q1 : (0 : Int) ≤ (k : Int) := by omega
              have q2 : (k : Int) < (T.length : Int) := by omega
              have hA := fun W (hW : Below wr.heap.size wr W) => tadd_any _ (pstL (T.take k)) x (hTf x (List.mem_of_getElem? hx)) W (ReadsL.below HO.out hW) (by rw [pstL_len, List.length_take]; omega)
              rw [pst_add HT.out hx] at hA
              have HAd := Lib.hid hA
              have HRk := Lib.hid (fun (r : Value) (W : World) (hr : ReadsL peV 10 W r (pstL (T.take (k + 1)))) => tright_any r _ W hr (fun y hy => hTf y (List.mem_of_mem_take (ssortT_mem.1 (by rw [← pst_srt]; exact hy)))))
              rw [pst_rightK HT.out] at HRk
              clear hx h6 h3T hA
              go_wp2_with (first
                | (go_at_call 63; (with_reducible refine (HAd.out _ (Below.refl _ _)).mono ?_); rintro e w6 ⟨r6, rfl, rd6, b6⟩)
                | (go_at_call 64; (with_reducible refine (HRk.out _ _ rd6).mono ?_); rintro e w7 ⟨rfl, b7⟩))
              go_roundw
              case rel => exact ⟨k + 1, by omega, by go_num, ReadsL.below rd6 b7, below2 HBr.out (below2 b6 b7)⟩
              case measure => simp [intOf]; omega
            · obtain rfl : k = T.length := by omega
              have hTk : T.take T.length = T := List.take_length
              rw [hTk, HTP.out] at HO
              have HS5 := Lib.hid (ReadsL.below HS3.out HBr.out)
              have hfS : ∀ y ∈ pstL R, y.en.ad.fits := fun y hy => hfR y (ssortT_mem.1 (by rw [← pst_srt]; exact hy))
              have HRS := Lib.hid (fun W (hW : Below wr.heap.size wr W) => tright_any _ (pstL R) W (ReadsL.below HS5.out hW) hfS)
              rw [HPR.out] at HRS
              have HSoT := Lib.hid (fun W (hW : Below wr.heap.size wr W) => tsorted_any _ T W (ReadsL.below HRT.out (below2 HBr2.out hW)) (by omega))
              rw [HTP.out] at HSoT
              have HC1 := Lib.hid (fun W (hW : Below wr.heap.size wr W) => tcount_any _ (pstL R) true W (ReadsL.below HS5.out hW))
              have HC2 := Lib.hid (fun W (hW : Below wr.heap.size wr W) => tcount_any _ (pstL R) false W (ReadsL.below HS5.out hW))
              have hsum := cnt_sum (pstL R)
              have hpl := pstL_len R
              generalize cntL true (pstL R) = ct at HC1 hsum
              generalize cntL false (pstL R) = cf at HC2 hsum
              have hsi : (ct : Int) + (cf : Int) = ((pstL R).length : Int) := by omega
              have hsw : IntKind.i64.wrap ((pstL R).length : Int) = ((pstL R).length : Int) := by rw [IntKind.wrap_i64]; omega
              have hsw2 : IntKind.i64.wrap ((ct : Int) + (cf : Int)) = ((pstL R).length : Int) := by rw [hsi]; exact hsw
              have HPS := Lib.hid HO.out
              clear hTk h3T hlt hfS hsum hpl hsi hsw HO
              generalize pstL R = S at *
              go_wp2_with (first
                | (go_at_call 64; (with_reducible refine (HRS.out _ (Below.refl _ _)).mono ?_); rintro e w11 ⟨rfl, b11⟩)
                | (go_at_call 44; (with_reducible refine (peers_same _ _ _ _ (ReadsL.below HS5.out b11) (ReadsL.below HPS.out b11)).mono ?_); rintro e w12 ⟨rfl, b12⟩; have x12 := below2 b11 b12)
                | (go_at_call 62; (with_reducible refine (HSoT.out _ x12).mono ?_); rintro e w13 ⟨r13, rfl, rd13, b13⟩; have x13 := below2 x12 b13)
                | (go_at_call 44; (with_reducible refine (peers_same _ _ _ _ (ReadsL.below HS5.out x13) rd13).mono ?_); rintro e w14 ⟨rfl, b14⟩; have x14 := below2 x13 b14)
                | (go_at_call 65; (with_reducible refine (HC1.out _ x14).mono ?_); rintro e w15 ⟨rfl, b15⟩; have x15 := below2 x14 b15)
                | (go_at_call 65; (with_reducible refine (HC2.out _ x15).mono ?_); rintro e w16 ⟨rfl, b16⟩; have x16 := below2 x15 b16)
                | (go_at_call 58; (with_reducible refine (HA.out _).mono ?_); rintro e w17 ⟨rfl, b17⟩))
              go_ret
              exact ⟨rfl, below2 HB2.out (below2 HBr2.out (below2 x16 b17))⟩
        · try rw [h00]
          clear h00 HU
          go_upto_region 10 with (go_at_call 61; (with_reducible refine (HBL.out _).mono ?_); rintro e w' ⟨rfl, rfl⟩)
          go_region_held3 (fun _ => True) (first | trivial) (first | (refine step_app_reads peRow (by rfl) (.tmp 55) (.tmp 58) (by rfl) wo.heap.size _ 0 [] (by rfl) (World.ownsRow_made _ #[] 0 (Nat.le_refl _) (Nat.zero_le _) rfl) _ 0 [] (by rfl) (HR0r.out _ _ _) (by simp) (by omega) (by omega) (by simp) wo.heap.size wo (by (repeat (first | with_reducible assumption | with_reducible exact Below.refl _ _ | with_reducible refine Below.setCell ?_ (by first | omega | (simp; done) | (simp; omega)) _ | with_reducible refine Below.alloc ?_ (by first | omega | (simp; done) | (simp; omega)) _ | with_reducible refine Below.drew ?_ | (with_reducible refine Below.trans ?_ (Below.mono (by with_reducible assumption) (by first | omega | (simp; done) | (simp; omega)))) | (refine Below.trans ?_ (Below.mono (by assumption) (by first | omega | (simp; done) | (simp; omega))))))) (Nat.le_refl _) ?_; intro v1 w1 o1 b1; simp only [Nat.zero_add, List.nil_append] at o1) | (refine step_app_reads peRow (by rfl) (.tmp 59) (.tmp 62) (by rfl) wo.heap.size v1 0 [] (by rfl) o1 _ 0 [] (by rfl) (HR0r.out _ _ _) (by simp) (by omega) (by omega) (b1.size) wo.heap.size wo b1 (Nat.le_refl _) ?_; intro v2 w2 o2 b2))
          obtain ⟨R, hRe⟩ : ∃ R : List Pe, R = [] := ⟨_, rfl⟩
          obtain ⟨T, hTe⟩ : ∃ T : List Pe, T = [] := ⟨_, rfl⟩
          have HRT : Hid (ReadsL peV 10 w2 v2 T) := by rw [hTe]; exact owns_readsL (l := []) o2
          have hTf : ∀ x ∈ T, x.en.ad.fits := by rw [hTe]; simp
          have hTl : T.length ≤ 60 := by rw [hTe]; simp
          have HT : Hid (Ones T) := by rw [hTe]; exact HOn.out
          have HTP : Hid (pstL T = pstL R) := by show _ = _; rw [hTe, hRe]
          have HRR : Hid (ReadsL peV 10 w2 (.slice (some ⟨g, 0, none⟩) 0 cp) R) := by rw [hRe]; exact HRR0.out _ _ _
          rw [← hRe] at HOn hfR hRl
          have HB2 := Lib.hid (below2 HB.out b2)
          clear hRe hTe o1 o2 b1 b2 HBL HB HRR0 HR0r
          have HSo := Lib.hid (fun W (hW : Below w2.heap.size w2 W) => tsorted_any _ R W (ReadsL.below HRR.out hW) (by omega))
          have HPR := Lib.hid (pst_right HOn.out)
          obtain ⟨hmT, pT, cT, rfl, h3T⟩ := pes_open HRT.out
          go_upto_region 12 with (go_at_call 62; (with_reducible refine (HSo.out _ (Below.refl _ _)).mono ?_); rintro e w3 ⟨r3, rfl, rd3, b3⟩; obtain ⟨hm3, p3, c3, rfl, -⟩ := pes_open rd3)
          have HS3 := Lib.hid rd3; have HB3 := Lib.hid b3
          clear rd3 b3 HSo
          go_wp2_with fail
          go_loopw [10, 11] (fun u' i' wr => ∃ k : Nat, k ≤ T.length ∧ i' = .int .i64 k ∧ Hid (ReadsL peV 10 wr u' (pstL (T.take k))) ∧ Hid (Below w3.heap.size w3 wr)) (fun _ i' _ => T.length - (intOf i').toNat)
          case atStart => exact ⟨0, by omega, rfl, ⟨rfl, Nat.zero_le _, Or.inl ⟨rfl, none, 0, rfl⟩⟩, Below.refl _ _⟩
          case round =>
            obtain ⟨k, hk, rfl, HO, HBr⟩ := hrel
            have HBr2 := Lib.hid (below2 HB3.out HBr.out)
            by_cases hlt : k < T.length
            · obtain ⟨x, hx⟩ : ∃ x, T[k]? = some x := ⟨_, List.getElem?_eq_getElem hlt⟩
              obtain ⟨b, o, rfl, h4, h5, h6⟩ := h3T (by omega)
              have hK := (h6 k x hx).below HBr2.out h5
              obtain ⟨k0, k1, k2, k3, k4, k5, k6, k7, k8, k9⟩ := hK
              have q1 : (0 : Int) ≤ (k : Int) := by omega
              have q2 : (k : Int) < (T.length : Int) := by omega
              have hA := fun W (hW : Below wr.heap.size wr W) => tadd_any _ (pstL (T.take k)) x (hTf x (List.mem_of_getElem? hx)) W (ReadsL.below HO.out hW) (by rw [pstL_len, List.length_take]; omega)
              rw [pst_add HT.out hx] at hA
              have HAd := Lib.hid hA
              have HRk := Lib.hid (fun (r : Value) (W : World) (hr : ReadsL peV 10 W r (pstL (T.take (k + 1)))) => tright_any r _ W hr (fun y hy => hTf y (List.mem_of_mem_take (ssortT_mem.1 (by rw [← pst_srt]; exact hy)))))
              rw [pst_rightK HT.out] at HRk
              clear hx h6 h3T hA
              go_wp2_with (first
                | (go_at_call 63; (with_reducible refine (HAd.out _ (Below.refl _ _)).mono ?_); rintro e w6 ⟨r6, rfl, rd6, b6⟩)
                | (go_at_call 64; (with_reducible refine (HRk.out _ _ rd6).mono ?_); rintro e w7 ⟨rfl, b7⟩))
              go_roundw
              case rel => exact ⟨k + 1, by omega, by go_num, ReadsL.below rd6 b7, below2 HBr.out (below2 b6 b7)⟩
              case measure => simp [intOf]; omega
            · obtain rfl : k = T.length := by omega
              have hTk : T.take T.length = T := List.take_length
              rw [hTk, HTP.out] at HO
              have HS5 := Lib.hid (ReadsL.below HS3.out HBr.out)
              have hfS : ∀ y ∈ pstL R, y.en.ad.fits := fun y hy => hfR y (ssortT_mem.1 (by rw [← pst_srt]; exact hy))
              have HRS := Lib.hid (fun W (hW : Below wr.heap.size wr W) => tright_any _ (pstL R) W (ReadsL.below HS5.out hW) hfS)
              rw [HPR.out] at HRS
              have HSoT := Lib.hid (fun W (hW : Below wr.heap.size wr W) => tsorted_any _ T W (ReadsL.below HRT.out (below2 HBr2.out hW)) (by omega))
              rw [HTP.out] at HSoT
              have HC1 := Lib.hid (fun W (hW : Below wr.heap.size wr W) => tcount_any _ (pstL R) true W (ReadsL.below HS5.out hW))
              have HC2 := Lib.hid (fun W (hW : Below wr.heap.size wr W) => tcount_any _ (pstL R) false W (ReadsL.below HS5.out hW))
              have hsum := cnt_sum (pstL R)
              have hpl := pstL_len R
              generalize cntL true (pstL R) = ct at HC1 hsum
              generalize cntL false (pstL R) = cf at HC2 hsum
              have hsi : (ct : Int) + (cf : Int) = ((pstL R).length : Int) := by omega
              have hsw : IntKind.i64.wrap ((pstL R).length : Int) = ((pstL R).length : Int) := by rw [IntKind.wrap_i64]; omega
              have hsw2 : IntKind.i64.wrap ((ct : Int) + (cf : Int)) = ((pstL R).length : Int) := by rw [hsi]; exact hsw
              have HPS := Lib.hid HO.out
              clear hTk h3T hlt hfS hsum hpl hsi hsw HO
              generalize pstL R = S at *
              go_wp2_with (first
                | (go_at_call 64; (with_reducible refine (HRS.out _ (Below.refl _ _)).mono ?_); rintro e w11 ⟨rfl, b11⟩)
                | (go_at_call 44; (with_reducible refine (peers_same _ _ _ _ (ReadsL.below HS5.out b11) (ReadsL.below HPS.out b11)).mono ?_); rintro e w12 ⟨rfl, b12⟩; have x12 := below2 b11 b12)
                | (go_at_call 62; (with_reducible refine (HSoT.out _ x12).mono ?_); rintro e w13 ⟨r13, rfl, rd13, b13⟩; have x13 := below2 x12 b13)
                | (go_at_call 44; (with_reducible refine (peers_same _ _ _ _ (ReadsL.below HS5.out x13) rd13).mono ?_); rintro e w14 ⟨rfl, b14⟩; have x14 := below2 x13 b14)
                | (go_at_call 65; (with_reducible refine (HC1.out _ x14).mono ?_); rintro e w15 ⟨rfl, b15⟩; have x15 := below2 x14 b15)
                | (go_at_call 65; (with_reducible refine (HC2.out _ x15).mono ?_); rintro e w16 ⟨rfl, b16⟩; have x16 := below2 x15 b16)
                | (go_at_call 58; (with_reducible refine (HA.out _).mono ?_); rintro e w17 ⟨rfl, b17⟩))
              go_ret
              exact ⟨rfl, below2 HB2.out (below2 HBr2.out (below2 x16 b17))⟩
      · obtain ⟨g, cp, rfl⟩ := owns_sliceP HU.out hR0
        obtain ⟨k, hk, hB⟩ := below_any n R.length hn hR0 (by omega)
        have HBL := Lib.hid hB
        have hRr : ReadsL peV 10 wo (.slice (some ⟨g, 0, none⟩) R.length cp) R := owns_readsL HU.out
        have hcp := (owns_blk2 HU.out).2.1
        have hd1 : (R.drop k).length = R.length - k := List.length_drop
        have hd2 : (R.take k).length = k := by rw [List.length_take]; omega
        have r1 := reads_dropP hRr (Nat.le_of_lt hk)
        have r2 := reads_takeP hRr (Nat.le_of_lt hk)
        unfold ReadsL at r1 r2
        rw [hd1, Nat.zero_add] at r1
        rw [hd2] at r2
        have R1 := Lib.hid r1; have R2 := Lib.hid r2; have HRr := Lib.hid hRr
        have hk1 := Lib.hid hd1; have hk2 := Lib.hid hd2
        clear r1 r2 hd1 hd2 hB hRr
        have q1 : (0 : Int) ≤ (k : Int) := by omega
        have q2 : (k : Int) ≤ (R.length : Int) := by omega
        have q3 : (k : Int) ≤ (cp : Int) := by omega
        have hck : ¬ cp = k := by omega
        have hckz : ¬ (cp : Int) = (k : Int) := by omega
        have zt1 : ((R.length : Int) - (k : Int)).toNat = R.length - k := by omega
        have zt2 : ((cp : Int) - (k : Int)).toNat = cp - k := by omega
        go_upto_region 10 with (go_at_call 61; (with_reducible refine (HBL.out _).mono ?_); rintro e w' ⟨rfl, rfl⟩)
        go_region_held3 (fun _ => True) (first | trivial) (first | (refine step_app_reads peRow (by rfl) (.tmp 55) (.tmp 58) (by rfl) wo.heap.size _ 0 [] (by rfl) (World.ownsRow_made _ #[] 0 (Nat.le_refl _) (Nat.zero_le _) rfl) _ (R.length - k) ((R.drop k).flatMap peV) (by rfl) (Reads.below R1.out (by (repeat (first | with_reducible assumption | with_reducible exact Below.refl _ _ | with_reducible refine Below.setCell ?_ (by first | omega | (simp; done) | (simp; omega)) _ | with_reducible refine Below.alloc ?_ (by first | omega | (simp; done) | (simp; omega)) _ | with_reducible refine Below.drew ?_ | (with_reducible refine Below.trans ?_ (Below.mono (by with_reducible assumption) (by first | omega | (simp; done) | (simp; omega)))) | (refine Below.trans ?_ (Below.mono (by assumption) (by first | omega | (simp; done) | (simp; omega)))))))) (peV_ones _) (by omega) (by omega) (by simp) wo.heap.size wo (by (repeat (first | with_reducible assumption | with_reducible exact Below.refl _ _ | with_reducible refine Below.setCell ?_ (by first | omega | (simp; done) | (simp; omega)) _ | with_reducible refine Below.alloc ?_ (by first | omega | (simp; done) | (simp; omega)) _ | with_reducible refine Below.drew ?_ | (with_reducible refine Below.trans ?_ (Below.mono (by with_reducible assumption) (by first | omega | (simp; done) | (simp; omega)))) | (refine Below.trans ?_ (Below.mono (by assumption) (by first | omega | (simp; done) | (simp; omega))))))) (Nat.le_refl _) ?_; intro v1 w1 o1 b1; simp only [Nat.zero_add, List.nil_append] at o1) | (refine step_app_reads peRow (by rfl) (.tmp 59) (.tmp 62) (by rfl) wo.heap.size v1 (R.length - k) ((R.drop k).flatMap peV) (by rfl) o1 _ k ((R.take k).flatMap peV) (by rfl) (Reads.below R2.out b1) (peV_ones _) (by omega) (by omega) (b1.size) wo.heap.size wo b1 (Nat.le_refl _) ?_; intro v2 w2 o2 b2))
        have hT := ones_turn HOn.out k
        have hTf : ∀ x ∈ R.drop k ++ R.take k, x.en.ad.fits := fun x hx => hfR x ((turn_mem R k x).1 hx)
        have hTp := pst_turn HOn.out k
        obtain ⟨T, hTT⟩ : ∃ t, t = R.drop k ++ R.take k := ⟨_, rfl⟩
        have htlen : T.length = R.length - k + k := by rw [hTT, List.length_append, hk1.out, hk2.out]
        have hO2 : w2.ownsRow wo.heap.size 66 10 v2 T.length (T.flatMap peV) := by
          rw [htlen, hTT, List.flatMap_append]; exact o2
        rw [← hTT] at hT hTp hTf
        have hTl : T.length ≤ 60 := by omega
        have HT := Lib.hid hT; have HTP := Lib.hid hTp; have HRT := Lib.hid (owns_readsL hO2); have HRR := Lib.hid (ReadsL.below HRr.out b2); have HB2 := Lib.hid (below2 HB.out b2)
        clear hT hTp hTT htlen hO2 o1 o2 b1 b2 R1 R2 hk1 hk2 q1 q2 q3 hck hckz zt1 zt2 HU HB HBL HRr hcp hk
        have HSo := Lib.hid (fun W (hW : Below w2.heap.size w2 W) => tsorted_any _ R W (ReadsL.below HRR.out hW) (by omega))
        have HPR := Lib.hid (pst_right HOn.out)
        obtain ⟨hmT, pT, cT, rfl, h3T⟩ := pes_open HRT.out
        go_upto_region 12 with (go_at_call 62; (with_reducible refine (HSo.out _ (Below.refl _ _)).mono ?_); rintro e w3 ⟨r3, rfl, rd3, b3⟩; obtain ⟨hm3, p3, c3, rfl, -⟩ := pes_open rd3)
        have HS3 := Lib.hid rd3; have HB3 := Lib.hid b3
        clear rd3 b3 HSo
        go_wp2_with fail
        go_loopw [10, 11] (fun u' i' wr => ∃ k : Nat, k ≤ T.length ∧ i' = .int .i64 k ∧ Hid (ReadsL peV 10 wr u' (pstL (T.take k))) ∧ Hid (Below w3.heap.size w3 wr)) (fun _ i' _ => T.length - (intOf i').toNat)
        case atStart => exact ⟨0, by omega, rfl, ⟨rfl, Nat.zero_le _, Or.inl ⟨rfl, none, 0, rfl⟩⟩, Below.refl _ _⟩
        case round =>
          obtain ⟨k, hk, rfl, HO, HBr⟩ := hrel
          have HBr2 := Lib.hid (below2 HB3.out HBr.out)
          by_cases hlt : k < T.length
          · obtain ⟨x, hx⟩ : ∃ x, T[k]? = some x := ⟨_, List.getElem?_eq_getElem hlt⟩
            obtain ⟨b, o, rfl, h4, h5, h6⟩ := h3T (by omega)
            have hK := (h6 k x hx).below HBr2.out h5
            obtain ⟨k0, k1, k2, k3, k4, k5, k6, k7, k8, k9⟩ := hK
            have q1 : (0 : Int) ≤ (k : Int) := by omega
            have q2 : (k : Int) < (T.length : Int) := by omega
            have hA := fun W (hW : Below wr.heap.size wr W) => tadd_any _ (pstL (T.take k)) x (hTf x (List.mem_of_getElem? hx)) W (ReadsL.below HO.out hW) (by rw [pstL_len, List.length_take]; omega)
            rw [pst_add HT.out hx] at hA
            have HAd := Lib.hid hA
            have HRk := Lib.hid (fun (r : Value) (W : World) (hr : ReadsL peV 10 W r (pstL (T.take (k + 1)))) => tright_any r _ W hr (fun y hy => hTf y (List.mem_of_mem_take (ssortT_mem.1 (by rw [← pst_srt]; exact hy)))))
            rw [pst_rightK HT.out] at HRk
            clear hx h6 h3T hA
            go_wp2_with (first
              | (go_at_call 63; (with_reducible refine (HAd.out _ (Below.refl _ _)).mono ?_); rintro e w6 ⟨r6, rfl, rd6, b6⟩)
              | (go_at_call 64; (with_reducible refine (HRk.out _ _ rd6).mono ?_); rintro e w7 ⟨rfl, b7⟩))
            go_roundw
            case rel => exact ⟨k + 1, by omega, by go_num, ReadsL.below rd6 b7, below2 HBr.out (below2 b6 b7)⟩
            case measure => simp [intOf]; omega
          · obtain rfl : k = T.length := by omega
            have hTk : T.take T.length = T := List.take_length
            rw [hTk, HTP.out] at HO
            have HS5 := Lib.hid (ReadsL.below HS3.out HBr.out)
            have hfS : ∀ y ∈ pstL R, y.en.ad.fits := fun y hy => hfR y (ssortT_mem.1 (by rw [← pst_srt]; exact hy))
            have HRS := Lib.hid (fun W (hW : Below wr.heap.size wr W) => tright_any _ (pstL R) W (ReadsL.below HS5.out hW) hfS)
            rw [HPR.out] at HRS
            have HSoT := Lib.hid (fun W (hW : Below wr.heap.size wr W) => tsorted_any _ T W (ReadsL.below HRT.out (below2 HBr2.out hW)) (by omega))
            rw [HTP.out] at HSoT
            have HC1 := Lib.hid (fun W (hW : Below wr.heap.size wr W) => tcount_any _ (pstL R) true W (ReadsL.below HS5.out hW))
            have HC2 := Lib.hid (fun W (hW : Below wr.heap.size wr W) => tcount_any _ (pstL R) false W (ReadsL.below HS5.out hW))
            have hsum := cnt_sum (pstL R)
            have hpl := pstL_len R
            generalize cntL true (pstL R) = ct at HC1 hsum
            generalize cntL false (pstL R) = cf at HC2 hsum
            have hsi : (ct : Int) + (cf : Int) = ((pstL R).length : Int) := by omega
            have hsw : IntKind.i64.wrap ((pstL R).length : Int) = ((pstL R).length : Int) := by rw [IntKind.wrap_i64]; omega
            have hsw2 : IntKind.i64.wrap ((ct : Int) + (cf : Int)) = ((pstL R).length : Int) := by rw [hsi]; exact hsw
            have HPS := Lib.hid HO.out
            clear hTk h3T hlt hfS hsum hpl hsi hsw HO
            generalize pstL R = S at *
            go_wp2_with (first
              | (go_at_call 64; (with_reducible refine (HRS.out _ (Below.refl _ _)).mono ?_); rintro e w11 ⟨rfl, b11⟩)
              | (go_at_call 44; (with_reducible refine (peers_same _ _ _ _ (ReadsL.below HS5.out b11) (ReadsL.below HPS.out b11)).mono ?_); rintro e w12 ⟨rfl, b12⟩; have x12 := below2 b11 b12)
              | (go_at_call 62; (with_reducible refine (HSoT.out _ x12).mono ?_); rintro e w13 ⟨r13, rfl, rd13, b13⟩; have x13 := below2 x12 b13)
              | (go_at_call 44; (with_reducible refine (peers_same _ _ _ _ (ReadsL.below HS5.out x13) rd13).mono ?_); rintro e w14 ⟨rfl, b14⟩; have x14 := below2 x13 b14)
              | (go_at_call 65; (with_reducible refine (HC1.out _ x14).mono ?_); rintro e w15 ⟨rfl, b15⟩; have x15 := below2 x14 b15)
              | (go_at_call 65; (with_reducible refine (HC2.out _ x15).mono ?_); rintro e w16 ⟨rfl, b16⟩; have x16 := below2 x15 b16)
              | (go_at_call 58; (with_reducible refine (HA.out _).mono ?_); rintro e w17 ⟨rfl, b17⟩))
            go_ret
            exact ⟨rfl, below2 HB2.out (below2 HBr2.out (below2 x16 b17))⟩
end Go.Proofs.Ytppmjbnhghaffaa
