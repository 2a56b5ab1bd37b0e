/- Texts put together: BfD. No condition. -/
import Derived.Test.YtnplgagaoeckoaaGreatRxzjjbatyix
import Derived.Test.YtnplgagaoeckoaaGreatReaewgdwmzm
import Derived.Test.YtnplgagaoeckoaaGreatRcmwflpomgm
import Derived.Test.YtnplgagaoeckoaaGreatRmmudejbcaa
import Derived.Test.YtnplgagaoeckoaaGreatRanpeybqetz
import Derived.Test.YtnplgagaoeckoaaGreatRfwnkgoffnn
import Derived.Deep.RegionWith
import Derived.BigRegion
import Derived.Test.YtnplgagaoeckoaaGreatRows
import Derived.Test.YtnplgagaoeckoaaGreatShelf
import Derived.Lib.Builder
import Derived.Lib.AppendStr
import Derived.Lib.UnsafeStr
import Derived.Laws.Externs
import Derived.WalkKit
namespace Go.Proofs.YtnplgagaoeckoaaGreat
open Go.RowKit

set_option maxRecDepth 100000 in
set_option maxHeartbeats 16000000 in
theorem refBfRight_any (v : Value) (l : List Ba) (w : World) (h : ReadsL baV 5 w v l) (hf : ∀ x ∈ l, x.nt.ad.fits) :
    Calls Tryz.prog 59 #[v] w fun e w' => ∃ bb, e = .returned (.bool bb) ∧ (bb = true ↔ bfRight l) ∧ Below w.heap.size w w' := by
  obtain ⟨hm, p, c, rfl, h3⟩ := bas_open h
  clear h
  have mixed : Tryz.prog.follows .mixedOrders = true := by kernel_rfl
  go_enter Tryz.func59, Tryz.ntmps59
  go_wp2_with fail
  go_loopw [3, 4] (fun i' _ wr => ∃ i : Nat, i ≤ l.length ∧ i' = .int .i64 i ∧ Hid (∀ x, x ∈ l.take i → baRight x = true) ∧ Hid ((l.take i).Pairwise fun a b => ntCmp a.nt b.nt < 0) ∧ Hid (Below w.heap.size w wr)) (fun i' _ _ => l.length - (intOf i').toNat)
  case atStart => exact ⟨0, by omega, rfl, fun x hx => by simp at hx, List.Pairwise.nil, Below.refl _ _⟩
  case round =>
    obtain ⟨i, hi, rfl, HR, HP, HB⟩ := hrel
    by_cases hlt : i < l.length
    · obtain ⟨x, hx⟩ : ∃ x, l[i]? = some x := ⟨_, List.getElem?_eq_getElem hlt⟩
      obtain ⟨b, o, rfl, h4, h5, h6⟩ := h3 (by omega)
      have K := (h6 i x hx).below HB.out h5
      have q1 : (0 : Int) ≤ (i : Int) := by omega
      have q2 : (i : Int) < (l.length : Int) := by omega
      have hfx := hf x (List.mem_of_getElem? hx)
      have HRx := Lib.hid (fun W => refBaRight_any x hfx W)
      have HX := Lib.hid hx; have H6 := Lib.hid h6
      obtain ⟨k0, k1, k2, k3, k4⟩ := K
      clear h3 h6 hx
      obtain ⟨wo, hwo⟩ : ∃ wo : World, wo = wr := ⟨_, rfl⟩
      subst hwo
      cases hr : baRight x with
      | false =>
        rw [hr] at HRx
        have HRR := Lib.hid hr
        clear hr
        go_wp2_with (go_at_call 82; (with_reducible refine (HRx.out _).mono ?_); rintro e w1 ⟨rfl, b1⟩)
        go_ret
        exact ⟨false, rfl, ⟨fun e => (by cases e), fun e => (by have := (e.1 x (List.mem_of_getElem? HX.out)).2; rw [HRR.out] at this; cases this)⟩, below2 HB.out b1⟩
      | true =>
        rw [hr] at HRx
        have HRR := Lib.hid hr
        clear hr
        go_wp2_with (go_at_call 82; (with_reducible refine (HRx.out _).mono ?_); rintro e w1 ⟨rfl, b1⟩)
        have HB1 := Lib.hid (below2 HB.out b1)
        clear b1 k0 k1 k2 k3 k4
        go_loopw [4] (fun j' wr => ∃ j : Nat, j ≤ i ∧ j' = .int .i64 j ∧ Hid (∀ y, y ∈ l.take j → ntCmp y.nt x.nt < 0) ∧ Hid (Below w.heap.size w wr)) (fun j' _ => i - (intOf j').toNat)
        case atStart => exact ⟨0, by omega, rfl, fun y hy => by simp at hy, HB1.out⟩
        case round =>
          clear HB1
          obtain ⟨j, hj, rfl, HL, HB2⟩ := hrel
          by_cases hjl : j < i
          · obtain ⟨y, hy⟩ : ∃ y, l[j]? = some y := ⟨_, List.getElem?_eq_getElem (by omega)⟩
            have KX : ∀ Y, BaIn (Go.Proofs.YtnplgagaoeckoaaGreat.ext wr Y) b (o + i * 5) x := fun Y => (((H6.out i x HX.out).below HB2.out h5).below (ext_below wr Y) (Nat.lt_of_lt_of_le h5 HB2.out.size))
            have KY : ∀ Y, BaIn (Go.Proofs.YtnplgagaoeckoaaGreat.ext wr Y) b (o + j * 5) y := fun Y => (((H6.out j y hy).below HB2.out h5).below (ext_below wr Y) (Nat.lt_of_lt_of_le h5 HB2.out.size))
            have x0 := fun Y => (KX Y).1; have x1 := fun Y => (KX Y).2.1; have x2 := fun Y => (KX Y).2.2.1; have x3 := fun Y => (KX Y).2.2.2.1
            have y0 := fun Y => (KY Y).1; have y1 := fun Y => (KY Y).2.1; have y2 := fun Y => (KY Y).2.2.1; have y3 := fun Y => (KY Y).2.2.2.1
            have p1 : (0 : Int) ≤ (j : Int) := by omega
            have p2 : (j : Int) < (l.length : Int) := by omega
            have p3 : (j : Int) < (i : Int) := by omega
            have HC := Lib.hid (fun W => refNtCmp_any y.nt x.nt W)
            have HY := Lib.hid hy
            clear hy KX KY
            obtain ⟨z, hz⟩ : ∃ z, z = ntCmp y.nt x.nt := ⟨_, rfl⟩
            rw [← hz] at HC
            have HZ := Lib.hid hz
            clear hz
            go_wp2_with fail
            refine wp_region_ext (by kernel_rfl) (by kernel_rfl) ?_
            repeat (go_big_quiet_step ((first | (go_at_call 83; with_reducible exact qe (HC.out _)))))
            refine wpQuiet_nil ?_
            intro _ hw'
            obtain ⟨gx, hw''⟩ := hw'
            subst hw''
            clear x0 x1 x2 x3 y0 y1 y2 y3
            have HBG := Lib.hid (HB2.out.trans ((ext_below wr gx).mono HB2.out.size))
            rcases Int.lt_or_le z 0 with hz0 | hz0
            · have hz1 : ¬ ((0 : Int) ≤ z) := by omega
              go_wp2_with fail
              go_roundw
              case rel =>
                refine ⟨j + 1, by omega, by go_num, fun q hq => ?_, HBG.out⟩
                rw [List.take_add_one, HY.out, Option.toList_some] at hq
                rcases List.mem_append.1 hq with hq | hq
                · exact HL.out q hq
                · rw [List.mem_singleton.1 hq, ← HZ.out]; exact hz0
              case measure => simp [intOf]; omega
            · go_wp2_with fail
              go_ret
              exact ⟨false, rfl, ⟨fun e => (by cases e), fun e => (by
                obtain ⟨_, ey⟩ := List.getElem?_eq_some_iff.1 HY.out
                obtain ⟨hil, ex⟩ := List.getElem?_eq_some_iff.1 HX.out
                have := List.pairwise_iff_getElem.1 e.2 j i (by omega) hil hjl
                rw [ey, ex, ← HZ.out] at this
                omega)⟩, HBG.out⟩
          · obtain rfl : j = i := by omega
            go_wp2_with fail
            go_roundw
            case rel =>
              refine ⟨j + 1, by omega, by go_num, fun q hq => ?_, ?_, HB2.out⟩
              · rw [List.take_add_one, HX.out, Option.toList_some] at hq
                rcases List.mem_append.1 hq with hq | hq
                · exact HR.out q hq
                · rw [List.mem_singleton.1 hq]; exact HRR.out
              · unfold Hid
                rw [List.take_add_one, HX.out, Option.toList_some, List.pairwise_append]
                exact ⟨HP.out, List.pairwise_singleton _ _, fun a ha q hq => by rw [List.mem_singleton.1 hq]; exact HL.out a ha⟩
            case measure => simp [intOf]; omega
    · obtain rfl : i = l.length := by omega
      have hr := HR.out; have hp := HP.out
      rw [List.take_length] at hr hp
      have HQ := Lib.hid (show bfRight l from ⟨fun q hq => ⟨hf q hq, hr q hq⟩, hp⟩)
      clear hr hp
      go_wp2_with fail
      go_ret
      exact ⟨true, rfl, ⟨fun _ => HQ.out, fun _ => rfl⟩, HB.out⟩
theorem refBfRight_yes (v : Value) (l : List Ba) (w : World) (h : ReadsL baV 5 w v l) (hf : ∀ x ∈ l, x.nt.ad.fits) (hr : bfRight l) :
    Calls Tryz.prog 59 #[v] w fun e w' => e = .returned (.bool true) ∧ Below w.heap.size w w' :=
  (refBfRight_any v l w h hf).mono fun e w' ⟨bb, he, hb, b⟩ => ⟨by rw [he, hb.2 hr], b⟩
theorem refBfRight_no (v : Value) (l : List Ba) (w : World) (h : ReadsL baV 5 w v l) (hf : ∀ x ∈ l, x.nt.ad.fits) (hr : ¬ bfRight l) :
    Calls Tryz.prog 59 #[v] w fun e w' => e = .returned (.bool false) ∧ Below w.heap.size w w' :=
  (refBfRight_any v l w h hf).mono fun e w' ⟨bb, he, hb, b⟩ => ⟨by rw [he]; cases bb with | false => rfl | true => exact absurd (hb.1 rfl) hr, b⟩
end Go.Proofs.YtnplgagaoeckoaaGreat
