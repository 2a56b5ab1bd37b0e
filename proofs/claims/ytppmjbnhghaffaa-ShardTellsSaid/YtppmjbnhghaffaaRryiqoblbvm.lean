/- Texts put together: ShF. No condition. -/
import Derived.Test.YtppmjbnhghaffaaRtzjkwnvvgc
namespace Go.Proofs.Ytppmjbnhghaffaa
open Go.RowKit Go.Lib
set_option linter.unusedSimpArgs false
set_option linter.unusedVariables false

set_option maxRecDepth 100000 in
set_option maxHeartbeats 8000000 in
theorem shWrites_own (v u : Value) (was now : List Pe) (w : World) (h : ReadsL peV 10 w v was) (h2 : ReadsL peV 10 w u now) (hl : now.length ≤ 1000000) :
    Calls Try.prog 48 #[v, u] w fun e w' => ∃ r, e = .returned r ∧ w'.ownsRow w.heap.size 3 1 r (wrtL was now).length ((wrtL was now).map natV) ∧ Below w.heap.size w w' := by
  obtain ⟨hm, a0, c, rfl, h3⟩ := pes_open h
  obtain ⟨hm2, a2, c2, rfl, h32⟩ := pes_open h2
  have mixed : Try.prog.follows .mixedOrders = true := by kernel_rfl
  clear h h2
  go_enter Try.func48, Try.ntmps48
  go_wp2_with fail
  go_loopw [5, 6, 10] (fun u' _ i' wr => ∃ k : Nat, k ≤ now.length ∧ i' = .int .i64 k ∧ Hid (wr.ownsRow w.heap.size 3 1 u' (wrtK was now k).length ((wrtK was now k).map natV)) ∧ Hid (Below w.heap.size w wr)) (fun _ _ i' _ => now.length - (intOf i').toNat)
  case atStart => exact ⟨0, by omega, rfl, World.ownsRow_nil _ _ _ _, Below.refl _ _⟩
  case round =>
    obtain ⟨k, hk, rfl, HU, HB⟩ := hrel
    by_cases hlt : k < now.length
    · obtain ⟨x, hx⟩ : ∃ x, now[k]? = some x := ⟨_, List.getElem?_eq_getElem hlt⟩
      obtain ⟨b, o, rfl, h4, h5, h6⟩ := h32 (by omega)
      have hbl := Nat.lt_of_lt_of_le h5 HB.out.size
      have KX := (h6 k x hx).below HB.out h5
      obtain ⟨k0, k1, k2, k3, k4, k5, k6, k7, k8, k9⟩ := KX
      have q1 : (0 : Int) ≤ (k : Int) := by omega
      have q2 : (k : Int) < (now.length : Int) := by omega
      have hS := wrtK_succ was now k
      rw [hx] at hS
      have HS := Lib.hid hS
      have hcl := wrtK_len was now k
      clear hx hS h6 h32
      go_upto_region 5 with (refine list_store_blk rfl 66 _ _ rfl (wr.heap.size) _ _ 66 (BlockIs.newAt' _ _ _ (by simp)) rfl rfl (by kernel_rfl) rfl (by simp [Value.oneCell']) wr.heap.size wr (by (repeat (first | with_reducible assumption | with_reducible exact Below.refl _ _ | with_reducible refine Below.setCell ?_ (by first | omega | (simp; done) | (simp; omega)) _ | with_reducible refine Below.alloc ?_ (by first | omega | (simp; done) | (simp; omega)) _ | with_reducible refine Below.drew ?_ | (with_reducible refine Below.trans ?_ (Below.mono (by with_reducible assumption) (by first | omega | (simp; done) | (simp; omega)))) | (refine Below.trans ?_ (Below.mono (by assumption) (by first | omega | (simp; done) | (simp; omega))))))) (Nat.le_refl _) ?_; intro W5 hP hoth hsz b5; clear hoth hsz; dsimp only [Act.put])
      clear k0 k1 k2 k3 k4 k5 k6 k7 k8 k9
      have HB5 := Lib.hid (HB.out.trans (b5.mono HB.out.size))
      have HU5 := Lib.hid (owns_below HU.out b5)
      have KX : ∀ Y, PeIn (Go.Proofs.Ytppmjbnhghaffaa.ext W5 Y) wr.heap.size 0 x := fun Y => peIn_box (hP.below (ext_below W5 Y))
      have x0 := fun y => (KX y).1; have x1 := fun y => (KX y).2.1; have x2 := fun y => (KX y).2.2.1; have x3 := fun y => (KX y).2.2.2.1; have x4 := fun y => (KX y).2.2.2.2.1; have x5 := fun y => (KX y).2.2.2.2.2.1; have x6 := fun y => (KX y).2.2.2.2.2.2.1; have x7 := fun y => (KX y).2.2.2.2.2.2.2.1; have x8 := fun y => (KX y).2.2.2.2.2.2.2.2.1; have x9 := fun y => (KX y).2.2.2.2.2.2.2.2.2
      simp only [Nat.zero_add] at x0 x1 x2 x3 x4 x5 x6 x7 x8 x9
      clear KX hP b5 HU HB hbl
      have HB := HB5; have HU := HU5
      have yes : ∀ (gx : Grow), Hid (Below w.heap.size w (Go.Proofs.Ytppmjbnhghaffaa.ext W5 gx)) := fun gx => HB.out.trans ((ext_below W5 gx).mono HB.out.size)
      clear HB5 HU5
      have HL : Hid ((wrtK was now k ++ [k]).length = (wrtK was now k).length + 1) := by show _ = _; simp
      have HFl : Hid ((wrtK was now k ++ [k]).map natV = (wrtK was now k).map natV ++ [natV k]) := by show _ = _; simp
      by_cases hw : k < was.length
      · obtain ⟨y, hy⟩ : ∃ y, was[k]? = some y := ⟨_, List.getElem?_eq_getElem hw⟩
        obtain ⟨b2, o2, rfl, h42, h52, h62⟩ := h3 (by omega)
        have hbl2 := Nat.lt_of_lt_of_le h52 HB.out.size
        have KY : ∀ Y, PeIn (Go.Proofs.Ytppmjbnhghaffaa.ext W5 Y) b2 (o2 + k * 10) y := fun Y => ((h62 k y hy).below HB.out h52).below (ext_below W5 Y) hbl2
        have y0 := fun y => (KY y).1; have y1 := fun y => (KY y).2.1; have y2 := fun y => (KY y).2.2.1; have y3 := fun y => (KY y).2.2.2.1; have y4 := fun y => (KY y).2.2.2.2.1; have y5 := fun y => (KY y).2.2.2.2.2.1; have y6 := fun y => (KY y).2.2.2.2.2.2.1; have y7 := fun y => (KY y).2.2.2.2.2.2.2.1; have y8 := fun y => (KY y).2.2.2.2.2.2.2.2.1; have y9 := fun y => (KY y).2.2.2.2.2.2.2.2.2
        rw [hy] at HS
        have q3 : (k : Int) < (was.length : Int) := by omega
        have q3d : decide ((was.length : Int) ≤ (k : Int)) = false := decide_eq_false (by omega)
        have q3e : decide (was.length ≤ k) = false := decide_eq_false (by omega)
        have hNE := neqPeS y x
        clear hy h62 KY h3
        by_cases hq : y = x
        · have hqd : (!decide (y = x)) = false := by simp [hq]
          rw [hqd] at hNE
          have HN : Hid (wrtK was now (k + 1) = wrtK was now k) := by show _ = _; rw [HS.out, if_neg (by simp [hq])]
          clear hq hqd
          refine wp_region_ext (by kernel_rfl) (by kernel_rfl) ?_
          repeat (go_big_quiet_step (fail))
          refine wpQuiet_nil ?_
          intro _ hw'
          obtain ⟨gx, HW⟩ := hw'
          subst HW
          clear x0 x1 x2 x3 x4 x5 x6 x7 x8 x9 y0 y1 y2 y3 y4 y5 y6 y7 y8 y9 hNE
          go_wp2_with fail
          go_roundw
          case rel => exact ⟨k + 1, by omega, by go_num, by rw [HN.out]; exact owns_below HU.out (ext_below W5 gx), (yes gx).out⟩
          case measure => simp [intOf]; omega
        · have hqd : (!decide (y = x)) = true := by simp [hq]
          rw [hqd] at hNE
          have HN : Hid (wrtK was now (k + 1) = wrtK was now k ++ [k]) := by show _ = _; rw [HS.out, if_pos (by simpa using hq)]
          clear hq hqd
          refine wp_region_ext (by kernel_rfl) (by kernel_rfl) ?_
          repeat (go_big_quiet_step (fail))
          refine wpQuiet_nil ?_
          intro _ hw'
          obtain ⟨gx, HW⟩ := hw'
          subst HW
          have HU6 := Lib.hid (owns_below HU.out (ext_below W5 gx)); have HB6 := yes gx
          clear x0 x1 x2 x3 x4 x5 x6 x7 x8 x9 y0 y1 y2 y3 y4 y5 y6 y7 y8 y9 hNE yes HU HB
          generalize Go.Proofs.Ytppmjbnhghaffaa.ext W5 gx = W6 at *
          have HW6 : Hid (w.heap.size ≤ W6.heap.size) := HB6.out.size
          go_wp2_with (at_builtin; refine list_app_reads intRow rfl (.tmp 27) (.tmp 29) rfl w.heap.size _ (wrtK was now k).length ((wrtK was now k).map natV) rfl (HU6.out.alloc _) _ 1 [natV k] rfl (reads_one (us := [natV k]) rfl (Nat.succ_pos 0)) (natV_one k) (by omega) (by omega) (by have := HW6.out; simp; omega) w.heap.size W6 ((Below.refl _ _).alloc HW6.out _) (Nat.le_refl _) ?_; intro v7 w7 o7 b7)
          go_roundw
          case rel => exact ⟨k + 1, by omega, by go_num, by rw [HN.out, HL.out, HFl.out]; exact o7, HB6.out.trans b7⟩
          case measure => simp [intOf]; omega
      · have hy : was[k]? = none := List.getElem?_eq_none (by omega)
        rw [hy] at HS
        have q3d : decide ((was.length : Int) ≤ (k : Int)) = true := decide_eq_true (by omega)
        have q3e : decide (was.length ≤ k) = true := decide_eq_true (by omega)
        have HN : Hid (wrtK was now (k + 1) = wrtK was now k ++ [k]) := by show _ = _; rw [HS.out, if_pos (by simp)]
        clear hy h3
        refine wp_region_ext (by kernel_rfl) (by kernel_rfl) ?_
        repeat (go_big_quiet_step (fail))
        refine wpQuiet_nil ?_
        intro _ hw'
        obtain ⟨gx, HW⟩ := hw'
        subst HW
        have HU6 := Lib.hid (owns_below HU.out (ext_below W5 gx)); have HB6 := yes gx
        clear x0 x1 x2 x3 x4 x5 x6 x7 x8 x9 yes HU HB
        generalize Go.Proofs.Ytppmjbnhghaffaa.ext W5 gx = W6 at *
        have HW6 : Hid (w.heap.size ≤ W6.heap.size) := HB6.out.size
        go_wp2_with (at_builtin; refine list_app_reads intRow rfl (.tmp 27) (.tmp 29) rfl w.heap.size _ (wrtK was now k).length ((wrtK was now k).map natV) rfl (HU6.out.alloc _) _ 1 [natV k] rfl (reads_one (us := [natV k]) rfl (Nat.succ_pos 0)) (natV_one k) (by omega) (by omega) (by have := HW6.out; simp; omega) w.heap.size W6 ((Below.refl _ _).alloc HW6.out _) (Nat.le_refl _) ?_; intro v7 w7 o7 b7)
        go_roundw
        case rel => exact ⟨k + 1, by omega, by go_num, by rw [HN.out, HL.out, HFl.out]; exact o7, HB6.out.trans b7⟩
        case measure => simp [intOf]; omega
    · obtain rfl : k = now.length := by omega
      go_wp2_with fail
      go_ret
      exact ⟨_, rfl, HU.out, HB.out⟩
theorem shWrites_any (v u : Value) (was now : List Pe) (w : World) (h : ReadsL peV 10 w v was) (h2 : ReadsL peV 10 w u now) (hl : now.length ≤ 1000000) :
    Calls Try.prog 48 #[v, u] w fun e w' => ∃ r, e = .returned r ∧ Reads w' r (wrtL was now).length 1 ((wrtL was now).map natV) ∧ Below w.heap.size w w' :=
  (shWrites_own v u was now w h h2 hl).mono fun e w' ⟨r, he, ho, hb⟩ => ⟨r, he, owns_reads ho, hb⟩
end Go.Proofs.Ytppmjbnhghaffaa
