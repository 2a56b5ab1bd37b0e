/- Texts put together: TabE. No condition. -/
import Derived.Test.YtppmjbnhghaffaaRqsaivrcoph
import Derived.Test.YtppmjbnhghaffaaRntuplqrurp
namespace Go.Proofs.Ytppmjbnhghaffaa
open Go.RowKit Go.Lib
set_option linter.unusedSimpArgs false
set_option linter.unusedVariables false

/-- one place of a right table -/
def stepR (l : List Pe) (k : Nat) : Bool := match l[k]? with
  | none => true
  | some p => peRight p && (match k with
    | 0 => true
    | j + 1 => match l[j]? with
      | some q => decide (enCmp q.en p.en < 0)
      | none => true)
def rgtT (l : List Pe) : Bool := (List.range l.length).all (stepR l)
theorem rgtT_no {l : List Pe} {k : Nat} (hk : k < l.length) (h : stepR l k = false) : rgtT l = false := by
  unfold rgtT
  rw [List.all_eq_false]
  exact ⟨k, List.mem_range.2 hk, by rw [h]; simp⟩
theorem rgtT_yes {l : List Pe} (h : ∀ k, k < l.length → stepR l k = true) : rgtT l = true := by
  unfold rgtT
  rw [List.all_eq_true]
  exact fun k hk => h k (List.mem_range.1 hk)
set_option maxRecDepth 100000 in
set_option maxHeartbeats 8000000 in
theorem tright_any (v : Value) (l : List Pe) (w : World) (h : ReadsL peV 10 w v l) (hf : ∀ p ∈ l, p.en.ad.fits) :
    Calls Try.prog 64 #[v] w fun e w' => e = .returned (.bool (rgtT l)) ∧ Below w.heap.size w w' := by
  obtain ⟨hm, p, c, rfl, h3⟩ := pes_open h
  have mixed : Try.prog.follows .mixedOrders = true := by kernel_rfl
  clear h
  go_enter Try.func64, Try.ntmps64
  go_wp2_with fail
  go_loopw [7] (fun i' wr => ∃ k : Nat, k ≤ l.length ∧ i' = .int .i64 k ∧ Hid (∀ j, j < k → stepR l j = true) ∧ Hid (Below w.heap.size w wr)) (fun i' _ => l.length - (intOf i').toNat)
  case atStart => exact ⟨0, by omega, rfl, fun j hj => absurd hj (Nat.not_lt_zero _), Below.refl _ _⟩
  case round =>
    obtain ⟨k, hk, rfl, HP, HB⟩ := hrel
    by_cases hlt : k < l.length
    · obtain ⟨x, hx⟩ : ∃ x, l[k]? = some x := ⟨_, List.getElem?_eq_getElem hlt⟩
      obtain ⟨b, o, rfl, h4, h5, h6⟩ := h3 (by omega)
      have K := (h6 k x hx).below HB.out h5
      have q1 : (0 : Int) ≤ (k : Int) := by omega
      have q2 : (k : Int) < (l.length : Int) := by omega
      have hfx := hf x (List.mem_of_getElem? hx)
      have HK := Lib.hid hlt; have HX := Lib.hid hx; have H6 := Lib.hid h6; have HH5 := Lib.hid h5
      obtain ⟨k0, k1, k2, k3, k4, k5, k6, k7, k8, k9⟩ := K
      clear hx h6 hlt
      go_upto_region 4 with (refine list_store_blk rfl 66 _ _ rfl (wr.heap.size) _ _ 66 (BlockIs.newAt' _ _ _ (by simp)) rfl rfl (by kernel_rfl) rfl (by simp [Value.oneCell']) wr.heap.size wr (by (repeat (first | with_reducible assumption | with_reducible exact Below.refl _ _ | with_reducible refine Below.setCell ?_ (by first | omega | (simp; done) | (simp; omega)) _ | with_reducible refine Below.alloc ?_ (by first | omega | (simp; done) | (simp; omega)) _ | with_reducible refine Below.drew ?_ | (with_reducible refine Below.trans ?_ (Below.mono (by with_reducible assumption) (by first | omega | (simp; done) | (simp; omega)))) | (refine Below.trans ?_ (Below.mono (by assumption) (by first | omega | (simp; done) | (simp; omega))))))) (Nat.le_refl _) ?_; intro W5 hP hoth hsz b5; clear hoth hsz; dsimp only [Act.put])
      clear k0 k1 k2 k3 k4 k5 k6 k7 k8 k9
      have HB5 := Lib.hid (HB.out.trans (b5.mono HB.out.size))
      have hPl := hP.lt
      have KX : ∀ Y, PeIn (Go.Proofs.Ytppmjbnhghaffaa.ext W5 Y) wr.heap.size 0 x := fun Y => peIn_box (hP.below (ext_below W5 Y))
      have x0 := fun y => (KX y).1; have x1 := fun y => (KX y).2.1; have x2 := fun y => (KX y).2.2.1; have x3 := fun y => (KX y).2.2.2.1; have x4 := fun y => (KX y).2.2.2.2.1; have x5 := fun y => (KX y).2.2.2.2.2.1; have x6 := fun y => (KX y).2.2.2.2.2.2.1; have x7 := fun y => (KX y).2.2.2.2.2.2.2.1; have x8 := fun y => (KX y).2.2.2.2.2.2.2.2.1; have x9 := fun y => (KX y).2.2.2.2.2.2.2.2.2
      simp only [Nat.zero_add] at x0 x1 x2 x3 x4 x5 x6 x7 x8 x9
      cases hr : peRight x with
      | false =>
        have HN : Hid (rgtT l = false) := rgtT_no HK.out (by unfold stepR; rw [HX.out]; simp [hr])
        have HR := Lib.hid (fun W => peRight_any x hfx W)
        rw [hr] at HR
        clear hr
        refine wp_region_ext (by kernel_rfl) (by kernel_rfl) ?_
        repeat (go_big_quiet_step ((first | (go_at_call 108; with_reducible exact qe (HR.out _)))))
        refine wpQuiet_nil ?_
        intro _ hw'
        obtain ⟨gx, hw''⟩ := hw'
        subst hw''
        go_wp2_with fail
        go_ret
        exact ⟨by rw [HN.out]; rfl, HB5.out.trans ((ext_below W5 gx).mono HB5.out.size)⟩
      | true =>
        have HR := Lib.hid (fun W => peRight_any x hfx W)
        rw [hr] at HR
        have HR' := Lib.hid hr
        clear hr
        cases k with
        | zero =>
          have HN : Hid (stepR l 0 = true) := by show _ = _; unfold stepR; rw [HX.out]; simp [HR'.out]
          refine wp_region_ext (by kernel_rfl) (by kernel_rfl) ?_
          repeat (go_big_quiet_step ((first | (go_at_call 108; with_reducible exact qe (HR.out _)))))
          refine wpQuiet_nil ?_
          intro _ hw'
          obtain ⟨gx, hw''⟩ := hw'
          subst hw''
          go_wp2_with fail
          go_roundw
          case rel => exact ⟨1, by omega, by go_num, fun j hj => (by rw [show j = 0 by omega]; exact HN.out), HB5.out.trans ((ext_below W5 gx).mono HB5.out.size)⟩
          case measure => simp [intOf]; omega
        | succ j =>
          obtain ⟨y, hy⟩ : ∃ y, l[j]? = some y := ⟨_, List.getElem?_eq_getElem (by omega)⟩
          have KY : ∀ Y, PeIn (Go.Proofs.Ytppmjbnhghaffaa.ext W5 Y) b (o + j * 10) y := fun Y => (((H6.out j y hy).below HB.out HH5.out).below b5 (Nat.lt_of_lt_of_le HH5.out HB.out.size)).below (ext_below W5 Y) (Nat.lt_of_lt_of_le HH5.out HB5.out.size)
          have y0 := fun y => (KY y).1; have y1 := fun y => (KY y).2.1; have y2 := fun y => (KY y).2.2.1; have y3 := fun y => (KY y).2.2.2.1; have y4 := fun y => (KY y).2.2.2.2.1; have y5 := fun y => (KY y).2.2.2.2.2.1; have y6 := fun y => (KY y).2.2.2.2.2.2.1; have y7 := fun y => (KY y).2.2.2.2.2.2.2.1; have y8 := fun y => (KY y).2.2.2.2.2.2.2.2.1; have y9 := fun y => (KY y).2.2.2.2.2.2.2.2.2
          have HO := Lib.hid (fun W => order_any y x W)
          have HS : Hid (stepR l (j + 1) = decide (enCmp y.en x.en < 0)) := by show _ = _; unfold stepR; rw [HX.out]; simp only [hy, HR'.out, Bool.true_and]
          have hwj : IntKind.i64.wrap (j : Int) = (j : Int) := by rw [IntKind.wrap_i64]; omega
          have qj1 : (0 : Int) ≤ (j : Int) := by omega
          have qj2 : (j : Int) < (l.length : Int) := by omega
          have qj3 : (0 : Int) < (j : Int) + 1 := by omega
          have qj4 : decide ((0 : Int) < (j : Int) + 1) = true := decide_eq_true qj3
          clear hy KY KX
          generalize enCmp y.en x.en = z at HO HS
          by_cases hz : z < 0
          · have hz1 : decide ((0 : Int) ≤ z) = false := decide_eq_false (by omega)
            have hz2 : ¬ ((0 : Int) ≤ z) := by omega
            have HN : Hid (stepR l (j + 1) = true) := by show _ = _; rw [HS.out]; exact decide_eq_true hz
            refine wp_region_ext (by kernel_rfl) (by kernel_rfl) ?_
            repeat (go_big_quiet_step ((first | (go_at_call 108; with_reducible exact qe (HR.out _)) | (go_at_call 107; with_reducible exact qe (HO.out _)))))
            refine wpQuiet_nil ?_
            intro _ hw'
            obtain ⟨gx, hw''⟩ := hw'
            subst hw''
            go_wp2_with fail
            go_roundw
            case rel => exact ⟨j + 2, by omega, by go_num, fun i hi => (by
              rcases Nat.lt_or_ge i (j + 1) with e | e
              · exact HP.out i e
              · rw [show i = j + 1 by omega]; exact HN.out), HB5.out.trans ((ext_below W5 gx).mono HB5.out.size)⟩
            case measure => simp [intOf]; omega
          · have hz1 : decide ((0 : Int) ≤ z) = true := decide_eq_true (by omega)
            have hz2 : (0 : Int) ≤ z := by omega
            have HN : Hid (rgtT l = false) := rgtT_no HK.out (by rw [HS.out]; exact decide_eq_false hz)
            refine wp_region_ext (by kernel_rfl) (by kernel_rfl) ?_
            repeat (go_big_quiet_step ((first | (go_at_call 108; with_reducible exact qe (HR.out _)) | (go_at_call 107; with_reducible exact qe (HO.out _)))))
            refine wpQuiet_nil ?_
            intro _ hw'
            obtain ⟨gx, hw''⟩ := hw'
            subst hw''
            go_wp2_with fail
            go_ret
            exact ⟨by rw [HN.out]; rfl, HB5.out.trans ((ext_below W5 gx).mono HB5.out.size)⟩
    · obtain rfl : k = l.length := by omega
      have HR : Hid (rgtT l = true) := rgtT_yes HP.out
      go_wp2_with fail
      go_ret
      exact ⟨by rw [HR.out]; rfl, HB.out⟩
end Go.Proofs.Ytppmjbnhghaffaa
