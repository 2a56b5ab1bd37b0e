/- Texts put together: LawShardB. No condition. -/
import Derived.Test.YtppmjbnhghaffaaRdxvejzytze
import Derived.Test.YtppmjbnhghaffaaRenfvyjetnc
namespace Go.Proofs.Ytppmjbnhghaffaa
open Go.RowKit Go.Lib

set_option maxRecDepth 100000 in
set_option maxHeartbeats 16000000 in
theorem shardBack_any (v : Value) (l : List Pe) (s : Nat) (hs : s < 18446744073709551616) (n : Int) (w : World) (h : ReadsL peV 10 w v l) (hf : ∀ p ∈ l, p.en.ad.fits) :
    Calls Try.prog 8 #[v, .int .u64 s, .int .i64 n] w fun e w' => e = .returned (.bool true) ∧ Below w.heap.size w w' := by
  have HV := Lib.hid h
  have HA := Lib.hid (fun w => awake31_any w)
  obtain ⟨hm1, pa, ca, rfl, -⟩ := pes_open h
  clear h
  rcases Int.lt_or_le 30 (l.length : Int) with hlen | hlen
  · go_enter Try.func8, Try.ntmps8
    go_wp2_with (go_at_call 41; (with_reducible refine (HA.out _).mono ?_); rintro e w2 ⟨rfl, b2⟩)
    go_ret
    exact ⟨rfl, b2⟩
  have HRt := Lib.hid (refTright_any _ l w HV.out hf)
  cases hr : rgtT l with
  | false =>
    rw [hr] at HRt
    clear hr
    go_enter Try.func8, Try.ntmps8
    go_wp2_with (first | (go_at_call 55; (with_reducible refine HRt.out.mono ?_); rintro e w1 ⟨rfl, b1⟩) | (go_at_call 41; (with_reducible refine (HA.out _).mono ?_); rintro e w2 ⟨rfl, b2⟩))
    go_ret
    exact ⟨rfl, below2 b1 b2⟩
  | true =>
    rw [hr] at HRt
    have HG := Lib.hid ((rgtT_good l).1 hr)
    clear hr
    have HSp := Lib.hid (fun W (hW : Below w.heap.size w W) => shSplit_any _ l s hs n W (ReadsL.below HV.out hW) hf (by omega))
    have HF := Lib.hid (fun (a : Ad) (fa : a.fits) W => shOf_any a fa s hs n W)
    have HFt := Lib.hid hf
    have hmm := partsN_is n
    have hd1 : decide ((30 : Int) < (l.length : Int)) = false := decide_eq_false (by omega)
    have hd2 : ¬ (30 : Int) < (l.length : Int) := by omega
    have hd3 : ¬ 30 < l.length := by omega
    go_enter Try.func8, Try.ntmps8
    go_upto_region 4 with (first | (go_at_call 55; (with_reducible refine HRt.out.mono ?_); rintro e w1 ⟨rfl, b1⟩) | (go_at_call 51; (with_reducible refine (HSp.out _ b1).mono ?_); rintro e w2 ⟨r2, ss, rfl, rd2, hp2, b2⟩))
    have HP := Lib.hid hp2; have HR := Lib.hid rd2; have HB2 := Lib.hid (below2 b1 b2)
    obtain ⟨hms, a2, c2, rfl, h3⟩ := shs_open rd2.1
    have hlq := hp2.1
    obtain ⟨m, hm⟩ : ∃ m, m = ss.length := ⟨_, rfl⟩
    have hmx : min (max n 1) 8 = (m : Int) := by rw [← hmm, hm, hlq]
    have hm8 : m ≤ 8 := by rw [hm, hlq]; exact (partsN_in n).2
    rw [← hm] at h3
    rw [← hm]
    have HM := Lib.hid hm
    have HJ := Lib.hid (fun W (hW : Below w2.heap.size w2 W) => shJoin_any _ ss W (HR.out.below hW) (parts_l_le HP.out (by omega)) (parts_flat_le HP.out (by omega)))
    rw [partsJ_same HP.out HG.out, ← hm] at HJ
    clear hmm hlq hm rd2 hp2 b1 b2 HSp HRt hf hms
    go_upto_region 6 with (first
      | (go_at_call 53; (with_reducible refine (HJ.out _ (Below.refl _ _)).mono ?_); rintro e w3 ⟨r3, rfl, rd3, b3⟩)
      | (go_at_call 44; (with_reducible refine (peers_same _ _ _ _ rd3 (ReadsL.below HV.out (below2 HB2.out b3))).mono ?_); rintro e w4 ⟨rfl, b4⟩))
    have HB4 := Lib.hid (below2 b3 b4)
    clear rd3 b3 b4 HJ hmx
    go_wp2_with fail
    go_loopw [8] (fun i' wr => ∃ i : Nat, i ≤ m ∧ i' = .int .i64 i ∧ Hid (Below w2.heap.size w2 wr)) (fun i' _ => m - (intOf i').toNat)
    case atStart => exact ⟨0, by omega, rfl, HB4.out⟩
    case round =>
      clear HB4
      obtain ⟨i, hi, rfl, HB⟩ := hrel
      obtain ⟨wo, rfl⟩ : ∃ wo : World, wo = wr := ⟨_, rfl⟩
      have q1 : (0 : Int) ≤ (i : Int) := by omega
      by_cases hil : i < m
      · obtain ⟨⟨z, v1, L⟩, hx⟩ : ∃ x, ss[i]? = some x := ⟨_, List.getElem?_eq_getElem (by have := HM.out; omega)⟩
        obtain ⟨b, o, rfl, h4, h5, h6⟩ := h3 (by omega)
        have hc := h6 i _ hx
        have hr := HR.out.2 _ (List.mem_of_getElem? hx)
        have hL := (HP.out.2 i _ hx).2
        simp only at hc hr hL
        obtain ⟨hmL, p1, d1, rfl, h3a⟩ := pes_open hr
        have q2 : (i : Int) < (m : Int) := by omega
        have HL := Lib.hid hL; have HC := Lib.hid hc; have H5 := Lib.hid h5
        clear hx h6 hr hL h3 hc h5
        go_wp2_with fail
        go_loopw [9] (fun k' wr => ∃ k : Nat, k ≤ L.length ∧ k' = .int .i64 k ∧ Hid (Below w2.heap.size w2 wr)) (fun k' _ => L.length - (intOf k').toNat)
        case atStart => exact ⟨0, by omega, rfl, HB.out⟩
        case round =>
          clear HB
          obtain ⟨k, hk, rfl, HB⟩ := hrel
          have s1 := keep HB.out H5.out HC.out.1
          have s2 := keep HB.out H5.out HC.out.2
          have p1' : (0 : Int) ≤ (k : Int) := by omega
          by_cases hkl : k < L.length
          · obtain ⟨x, hx⟩ : ∃ x, L[k]? = some x := ⟨_, List.getElem?_eq_getElem hkl⟩
            obtain ⟨b3, o3, rfl, h43, h53, h63⟩ := h3a (by omega)
            obtain ⟨x0, x1, x2, x3, x4, x5, x6, x7, x8, x9⟩ := (h63 k x hx).below HB.out h53
            have p2' : (k : Int) < (L.length : Int) := by omega
            have hmem : x ∈ partL l s n i := by rw [← HL.out]; exact List.mem_of_getElem? hx
            have hxl := (List.mem_filter.1 hmem).1
            have hof := of_decide_eq_true (List.mem_filter.1 hmem).2
            have hO := fun W => HF.out x.en.ad (HFt.out x hxl) W
            rw [hof] at hO
            have HO := Lib.hid hO
            clear hx h63 h3a hmem hxl hof hO
            go_wp2_with (go_at_call 42; (with_reducible refine (HO.out _).mono ?_); rintro e w5 ⟨rfl, b5⟩)
            go_roundw
            case rel => exact ⟨k + 1, by omega, by go_num, below2 HB.out b5⟩
            case measure => simp [intOf]; omega
          · obtain rfl : k = L.length := by omega
            go_wp2_with fail
            go_roundw
            case rel => exact ⟨i + 1, by omega, by go_num, HB.out⟩
            case measure => simp [intOf]; omega
      · obtain rfl : i = m := by omega
        clear h3
        go_wp2_with (go_at_call 41; (with_reducible refine (HA.out _).mono ?_); rintro e w9 ⟨rfl, b9⟩)
        go_ret
        exact ⟨rfl, below2 HB2.out (below2 HB.out b9)⟩
end Go.Proofs.Ytppmjbnhghaffaa
