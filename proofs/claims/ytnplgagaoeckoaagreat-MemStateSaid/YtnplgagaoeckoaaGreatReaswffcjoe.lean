/- Texts put together: TabE, TabQ, TabU. No condition. -/
import Derived.Test.YtnplgagaoeckoaaGreatRslantadajh
import Derived.Test.YtnplgagaoeckoaaGreatRogdwbisbxe
import Derived.Test.YtnplgagaoeckoaaGreatRngqlbtqdzu
namespace Go.Proofs.YtnplgagaoeckoaaGreat
open Go.RowKit Go.Lib
set_option linter.unusedSimpArgs false
set_option linter.unusedVariables false

/-- one place of a right table -/
def stepR (l : List Pe) (k : Nat) : Bool := match l[k]? with
  | none => true
  | some p => peRight p && (match k with
    | 0 => true
    | j + 1 => match l[j]? with
      | some q => decide (enCmp q.en p.en < 0)
      | none => true)
def rgtT (l : List Pe) : Bool := (List.range l.length).all (stepR l)
theorem rgtT_yes {l : List Pe} (h : ∀ k, k < l.length → stepR l k = true) : rgtT l = true := by
  unfold rgtT
  rw [List.all_eq_true]
  exact fun k hk => h k (List.mem_range.1 hk)
end Go.Proofs.YtnplgagaoeckoaaGreat
namespace Go.Proofs.YtnplgagaoeckoaaGreat
open Go.RowKit Go.Lib
set_option linter.unusedSimpArgs false
set_option linter.unusedVariables false

theorem rgtT_good (l : List Pe) : rgtT l = true ↔ GoodT l := by
  constructor
  · intro h
    unfold rgtT at h
    rw [List.all_eq_true] at h
    refine goodT_next fun i x hx => ?_
    have hs := h i (List.mem_range.2 (List.getElem?_eq_some_iff.1 hx).1)
    unfold stepR at hs
    rw [hx] at hs
    cases i with
    | zero => exact ⟨by simpa using hs, fun j y hj => by omega⟩
    | succ i =>
      simp only [Bool.and_eq_true] at hs
      refine ⟨hs.1, fun j y hj hy => ?_⟩
      obtain rfl : j = i := by omega
      have := hs.2
      rw [hy] at this
      exact of_decide_eq_true this
  · intro h
    refine rgtT_yes fun k hk => ?_
    obtain ⟨x, hx⟩ : ∃ x, l[k]? = some x := ⟨_, List.getElem?_eq_getElem hk⟩
    unfold stepR
    rw [hx]
    cases k with
    | zero => simp [(h 0 x hx).1]
    | succ k =>
      obtain ⟨y, hy⟩ : ∃ y, l[k]? = some y := ⟨_, List.getElem?_eq_getElem (by omega)⟩
      simp only [hy, (h _ x hx).1, Bool.true_and]
      exact decide_eq_true ((h _ x hx).2 k y (by omega) hy)
theorem rgtT_bad {l : List Pe} {i : Nat} {x : Pe} (hx : l[i]? = some x) (h : peRight x = false) : rgtT l = false := by
  cases e : rgtT l with
  | false => rfl
  | true => have := (((rgtT_good l).1 e) i x hx).1; rw [h] at this; cases this
theorem rgtT_bad2 {l : List Pe} {i j : Nat} {x y : Pe} (hx : l[i]? = some x) (hy : l[j]? = some y) (hj : j < i) (h : 0 ≤ enCmp y.en x.en) : rgtT l = false := by
  cases e : rgtT l with
  | false => rfl
  | true => have := (((rgtT_good l).1 e) i x hx).2 j y hj hy; omega
set_option maxRecDepth 100000 in
set_option maxHeartbeats 8000000 in
theorem refTright_any (v : Value) (l : List Pe) (w : World) (h : ReadsL peV 10 w v l) (hf : ∀ p ∈ l, p.en.ad.fits) :
    Calls Tryz.prog 61 #[v] w fun e w' => e = .returned (.bool (rgtT l)) ∧ Below w.heap.size w w' := by
  obtain ⟨hm, p, c, rfl, h3⟩ := pes_open h
  clear h
  go_enter Tryz.func61, Tryz.ntmps61
  go_wp2_with fail
  go_loopw [3] (fun i' wr => ∃ k : Nat, k ≤ l.length ∧ i' = .int .i64 k ∧ Hid (∀ (i : Nat) (x : Pe), i < k → l[i]? = some x → peRight x = true ∧ ∀ (j : Nat) (y : Pe), j < i → l[j]? = some y → enCmp y.en x.en < 0) ∧ Hid (Below w.heap.size w wr)) (fun i' _ => l.length - (intOf i').toNat)
  case atStart => exact ⟨0, by omega, rfl, fun i x hi => absurd hi (Nat.not_lt_zero _), Below.refl _ _⟩
  case round =>
    obtain ⟨k, hk, rfl, HP, HB⟩ := hrel
    by_cases hlt : k < l.length
    · obtain ⟨x, hx⟩ : ∃ x, l[k]? = some x := ⟨_, List.getElem?_eq_getElem hlt⟩
      obtain ⟨b, o, rfl, h4, h5, h6⟩ := h3 (by omega)
      have K := (h6 k x hx).below HB.out h5
      have q1 : (0 : Int) ≤ (k : Int) := by omega
      have q2 : (k : Int) < (l.length : Int) := by omega
      have hfx := hf x (List.mem_of_getElem? hx)
      have HK := Lib.hid hlt; have HX := Lib.hid hx; have H6 := Lib.hid h6; have HH5 := Lib.hid h5; have HM := Lib.hid hm
      obtain ⟨k0, k1, k2, k3, k4, k5, k6, k7, k8, k9⟩ := K
      have HR := Lib.hid (fun W => refPeRight_any x hfx W)
      clear hx h6 h3
      cases hr : peRight x with
      | false =>
        have HN : Hid (rgtT l = false) := rgtT_bad HX.out hr
        rw [hr] at HR
        clear hr
        go_wp2_with (go_at_call 86; (with_reducible refine (HR.out _).mono ?_); rintro e w5 ⟨rfl, b5⟩)
        go_ret
        exact ⟨by rw [HN.out]; rfl, below2 HB.out b5⟩
      | true =>
        rw [hr] at HR
        have HR' := Lib.hid hr
        clear hr
        go_wp2_with (go_at_call 86; (with_reducible refine (HR.out _).mono ?_); rintro e w5 ⟨rfl, b5⟩)
        have HB5 := Lib.hid (below2 HB.out b5)
        clear k0 k1 k2 k3 k4 k5 k6 k7 k8 k9 b5 HB HR
        go_loopw [4] (fun j' wr => ∃ j : Nat, j ≤ k ∧ j' = .int .i64 j ∧ Hid (∀ (i : Nat) (y : Pe), i < j → l[i]? = some y → enCmp y.en x.en < 0) ∧ Hid (Below w.heap.size w wr)) (fun j' _ => k - (intOf j').toNat)
        case atStart => exact ⟨0, by omega, rfl, fun i y hi => absurd hi (Nat.not_lt_zero _), HB5.out⟩
        case round =>
          clear HB5
          obtain ⟨j, hj, rfl, HJ, HB⟩ := hrel
          by_cases hjk : j < k
          · obtain ⟨y, hy⟩ : ∃ y, l[j]? = some y := ⟨_, List.getElem?_eq_getElem (by omega)⟩
            have hbl := Nat.lt_of_lt_of_le HH5.out HB.out.size
            have KY : ∀ Y, PeIn (Go.Proofs.YtnplgagaoeckoaaGreat.ext wr Y) b (o + j * 10) y := fun Y => ((H6.out j y hy).below HB.out HH5.out).below (ext_below wr Y) hbl
            have KX : ∀ Y, PeIn (Go.Proofs.YtnplgagaoeckoaaGreat.ext wr Y) b (o + k * 10) x := fun Y => ((H6.out k x HX.out).below HB.out HH5.out).below (ext_below wr Y) hbl
            have y0 := fun y => (KY y).1; have y1 := fun y => (KY y).2.1; have y2 := fun y => (KY y).2.2.1; have y3 := fun y => (KY y).2.2.2.1; have y4 := fun y => (KY y).2.2.2.2.1; have y5 := fun y => (KY y).2.2.2.2.2.1; have y6 := fun y => (KY y).2.2.2.2.2.2.1; have y7 := fun y => (KY y).2.2.2.2.2.2.2.1; have y8 := fun y => (KY y).2.2.2.2.2.2.2.2.1; have y9 := fun y => (KY y).2.2.2.2.2.2.2.2.2
            have x0 := fun y => (KX y).1; have x1 := fun y => (KX y).2.1; have x2 := fun y => (KX y).2.2.1; have x3 := fun y => (KX y).2.2.2.1; have x4 := fun y => (KX y).2.2.2.2.1; have x5 := fun y => (KX y).2.2.2.2.2.1; have x6 := fun y => (KX y).2.2.2.2.2.2.1; have x7 := fun y => (KX y).2.2.2.2.2.2.2.1; have x8 := fun y => (KX y).2.2.2.2.2.2.2.2.1; have x9 := fun y => (KX y).2.2.2.2.2.2.2.2.2
            have qj1 : (0 : Int) ≤ (j : Int) := by omega
            have qj2 : (j : Int) < (l.length : Int) := by omega
            have qj3 : (j : Int) < (k : Int) := by omega
            have HC := Lib.hid (fun W => refEnCmp_any y.en x.en W)
            obtain ⟨z, hz⟩ : ∃ z, z = enCmp y.en x.en := ⟨_, rfl⟩
            rw [← hz] at HC
            have HZ := Lib.hid hz; have HY := Lib.hid hy
            clear hz hy KY KX
            by_cases hz0 : 0 ≤ z
            · have hzd : decide (0 ≤ z) = true := decide_eq_true hz0
              have HN : Hid (rgtT l = false) := rgtT_bad2 HX.out HY.out hjk (by rw [← HZ.out]; exact hz0)
              go_wp2_with fail
              refine wp_region_ext (by kernel_rfl) (by kernel_rfl) ?_
              repeat (go_big_quiet_step ((first | (go_at_call 85; with_reducible exact qe (HC.out _)))))
              refine wpQuiet_nil ?_
              intro _ hw'
              obtain ⟨gx, HW⟩ := hw'
              subst HW
              clear y0 y1 y2 y3 y4 y5 y6 y7 y8 y9 x0 x1 x2 x3 x4 x5 x6 x7 x8 x9
              go_wp2_with fail
              go_ret
              exact ⟨by rw [HN.out]; rfl, HB.out.trans ((ext_below wr gx).mono HB.out.size)⟩
            · have hzd : decide (0 ≤ z) = false := decide_eq_false hz0
              go_wp2_with fail
              refine wp_region_ext (by kernel_rfl) (by kernel_rfl) ?_
              repeat (go_big_quiet_step ((first | (go_at_call 85; with_reducible exact qe (HC.out _)))))
              refine wpQuiet_nil ?_
              intro _ hw'
              obtain ⟨gx, HW⟩ := hw'
              subst HW
              clear y0 y1 y2 y3 y4 y5 y6 y7 y8 y9 x0 x1 x2 x3 x4 x5 x6 x7 x8 x9
              go_wp2_with fail
              go_roundw
              case rel =>
                refine ⟨j + 1, by omega, by go_num, fun i q hi hq => ?_, HB.out.trans ((ext_below wr gx).mono HB.out.size)⟩
                rcases Nat.lt_or_ge i j with e | e
                · exact HJ.out i q e hq
                · rw [show i = j by omega, HY.out] at hq
                  injection hq with hq
                  subst hq
                  rw [← HZ.out]; omega
              case measure => simp [intOf]; omega
          · obtain rfl : j = k := by omega
            go_wp2_with fail
            go_roundw
            case rel =>
              refine ⟨j + 1, by have := HK.out; omega, by go_num, fun i q hi hq => ?_, HB.out⟩
              rcases Nat.lt_or_ge i j with e | e
              · exact HP.out i q e hq
              · rw [show i = j by omega, HX.out] at hq
                injection hq with hq
                subst hq
                exact ⟨HR'.out, fun i' y hi' hy => HJ.out i' y (by omega) hy⟩
            case measure => have := HK.out; simp [intOf]; omega
    · obtain rfl : k = l.length := by omega
      have HN : Hid (rgtT l = true) := (rgtT_good l).2 fun i x hx => HP.out i x (List.getElem?_eq_some_iff.1 hx).1 hx
      go_wp2_with fail
      go_ret
      exact ⟨by rw [HN.out]; rfl, HB.out⟩
end Go.Proofs.YtnplgagaoeckoaaGreat
namespace Go.Proofs.YtnplgagaoeckoaaGreat
open Go.RowKit Go.Lib Go.Sort

theorem wo_ltEn : WO ltEn := wo_en
theorem pst_srt (l : List Pe) : pstL l = ssort ltEn l := by
  unfold pstL ssort
  exact (ssort_pst l []).symm
end Go.Proofs.YtnplgagaoeckoaaGreat
