/- The contracts of heap: what sinks and rises in a row of the call's own. -/
import Derived.Test.YtppmjbnhghaffaaHeapC
import Derived.BigRegion
import Derived.Laws.OwnMore
namespace Go.Proofs.Ytppmjbnhghaffaa
open Go.RowKit

def setMany (xs : List Value) (k : Nat) : List Value → List Value
  | [] => xs
  | u :: us => setMany (xs.set k u) (k + 1) us
theorem setMany_len (us : List Value) : ∀ (xs : List Value) (k : Nat), (setMany xs k us).length = xs.length := by
  induction us with
  | nil => intro xs k; rfl
  | cons u us ih => intro xs k; unfold setMany; rw [ih]; simp
theorem setMany_get (us : List Value) : ∀ (xs : List Value) (k j : Nat), k + us.length ≤ xs.length → (setMany xs k us)[j]? = if k ≤ j ∧ j < k + us.length then us[j - k]? else xs[j]? := by
  induction us with
  | nil => intro xs k j _; unfold setMany; rw [if_neg (by simp only [List.length_nil]; omega)]
  | cons u us ih =>
    intro xs k j h
    simp only [List.length_cons] at h ⊢
    unfold setMany
    rw [ih _ _ _ (by simp; omega)]
    by_cases h1 : k + 1 ≤ j ∧ j < k + 1 + us.length
    · rw [if_pos h1, if_pos (by omega), show j - k = (j - (k + 1)) + 1 from by omega, List.getElem?_cons_succ]
    · rw [if_neg h1]
      by_cases h2 : j = k
      · subst h2; rw [if_pos (by omega), List.getElem?_set_self (by omega)]; simp
      · rw [if_neg (by omega), List.getElem?_set_ne (fun e => h2 e.symm)]
theorem flat_set {α : Type} (f : α → List Value) (n : Nat) (hf : ∀ x, (f x).length = n) (l : List α) (i : Nat) (x : α) (hi : i < l.length) : (l.set i x).flatMap f = setMany (l.flatMap f) (i * n) (f x) := by
  apply List.ext_getElem?
  intro j
  have hle : i * n + n ≤ l.length * n := by rw [← Nat.succ_mul]; exact Nat.mul_le_mul_right _ hi
  rw [setMany_get _ _ _ _ (by rw [hf, flat_len f n hf]; exact hle), hf]
  rcases Nat.eq_zero_or_pos n with h0 | h0
  · subst h0
    have e1 : (l.set i x).flatMap f = [] := List.eq_nil_of_length_eq_zero (by rw [flat_len f 0 hf]; simp)
    have e2 : l.flatMap f = [] := List.eq_nil_of_length_eq_zero (by rw [flat_len f 0 hf]; simp)
    rw [e1, e2]; simp
  have hj : j = (j / n) * n + j % n := by have := Nat.div_add_mod j n; rw [Nat.mul_comm] at this; omega
  have hm : j % n < n := Nat.mod_lt _ h0
  by_cases h1 : i * n ≤ j ∧ j < i * n + n
  · rw [if_pos h1]
    have hq : j / n = i := by
      apply Nat.le_antisymm
      · exact Nat.le_of_lt_succ ((Nat.div_lt_iff_lt_mul h0).2 (by rw [Nat.succ_mul]; omega))
      · exact (Nat.le_div_iff_mul_le h0).2 h1.1
    rw [hq] at hj
    conv => lhs; rw [hj]
    rw [flat_get f n hf (l.set i x) i x (by simp [hi]) _ hm]
    congr 1; omega
  · rw [if_neg h1]
    have hq : j / n ≠ i := by
      intro e; rw [e] at hj; omega
    rcases Nat.lt_or_ge (j / n) l.length with hl | hl
    · conv => lhs; rw [hj]
      conv => rhs; rw [hj]
      rw [flat_get f n hf (l.set i x) (j / n) (l[j / n]'hl) (by rw [List.getElem?_set_ne (fun e => hq e.symm)]; exact List.getElem?_eq_getElem hl) _ hm, flat_get f n hf l (j / n) _ (List.getElem?_eq_getElem hl) _ hm]
    · have hge : l.length * n ≤ j := (Nat.le_div_iff_mul_le h0).1 hl
      rw [List.getElem?_eq_none (by rw [flat_len f n hf]; simpa using hge), List.getElem?_eq_none (by rw [flat_len f n hf]; exact hge)]
/-- an item's five cells stored into a row of one's own -/
theorem own_set5 {w : World} {base g n cap : Nat} {e : TypeId} {l : List It} (h : w.ownsRow base e 5 (.slice (some ⟨g, 0, none⟩) n cap) n (l.flatMap itV)) (i : Nat) (x : It) (hi : i < l.length) :
    (((((w.setCell ⟨g, i * 5, none⟩ (.int .i64 x.key)).setCell ⟨g, i * 5 + 1, none⟩ (.bool x.en.ad.v6)).setCell ⟨g, i * 5 + 2, none⟩ (.int .u64 x.en.ad.hi)).setCell ⟨g, i * 5 + 3, none⟩ (.int .u64 x.en.ad.lo)).setCell ⟨g, i * 5 + 4, none⟩ (.int .i64 x.en.port)).ownsRow base e 5 (.slice (some ⟨g, 0, none⟩) n cap) n ((l.set i x).flatMap itV) ∧
    w.grownBy (((((w.setCell ⟨g, i * 5, none⟩ (.int .i64 x.key)).setCell ⟨g, i * 5 + 1, none⟩ (.bool x.en.ad.v6)).setCell ⟨g, i * 5 + 2, none⟩ (.int .u64 x.en.ad.hi)).setCell ⟨g, i * 5 + 3, none⟩ (.int .u64 x.en.ad.lo)).setCell ⟨g, i * 5 + 4, none⟩ (.int .i64 x.en.port)) (some g) := by
  rw [flat_set itV 5 itV_len l i x hi]
  obtain ⟨h0, g0⟩ := h.stored (i * 5) (.int .i64 x.key)
  obtain ⟨h1, g1⟩ := h0.stored (i * 5 + 1) (.bool x.en.ad.v6)
  obtain ⟨h2, g2⟩ := h1.stored (i * 5 + 2) (.int .u64 x.en.ad.hi)
  obtain ⟨h3, g3⟩ := h2.stored (i * 5 + 3) (.int .u64 x.en.ad.lo)
  obtain ⟨h4, g4⟩ := h3.stored (i * 5 + 4) (.int .i64 x.en.port)
  exact ⟨h4, ((((g0.trans g1).trans g2).trans g3).trans g4)⟩
/-- two items exchanged in a row of one's own -/
theorem own_swap {w : World} {base g n cap : Nat} {e : TypeId} {l : List It} (h : w.ownsRow base e 5 (.slice (some ⟨g, 0, none⟩) n cap) n (l.flatMap itV)) (i j : Nat) (x y : It) (hi : i < l.length) (hj : j < l.length) {W : World}
    (hW : W = (((((((((w.setCell ⟨g, i * 5, none⟩ (.int .i64 y.key)).setCell ⟨g, i * 5 + 1, none⟩ (.bool y.en.ad.v6)).setCell ⟨g, i * 5 + 2, none⟩ (.int .u64 y.en.ad.hi)).setCell ⟨g, i * 5 + 3, none⟩ (.int .u64 y.en.ad.lo)).setCell ⟨g, i * 5 + 4, none⟩ (.int .i64 y.en.port)).setCell ⟨g, j * 5, none⟩ (.int .i64 x.key)).setCell ⟨g, j * 5 + 1, none⟩ (.bool x.en.ad.v6)).setCell ⟨g, j * 5 + 2, none⟩ (.int .u64 x.en.ad.hi)).setCell ⟨g, j * 5 + 3, none⟩ (.int .u64 x.en.ad.lo)).setCell ⟨g, j * 5 + 4, none⟩ (.int .i64 x.en.port)) :
    W.ownsRow base e 5 (.slice (some ⟨g, 0, none⟩) n cap) n ((Hp.swp l i j x y).flatMap itV) ∧ w.grownBy W (some g) := by
  subst hW
  obtain ⟨h1, g1⟩ := own_set5 h i y hi
  obtain ⟨h2, g2⟩ := own_set5 h1 j x (by simpa using hj)
  exact ⟨h2, g1.trans g2⟩
/-- from child k on, with the best so far -/
def bfrom (h : List It) (i k b : Nat) : Nat := if k = 2 * i + 1 then Hp.pick itLt h (Hp.pick itLt h b (2 * i + 1)) (2 * i + 2) else if k = 2 * i + 2 then Hp.pick itLt h b (2 * i + 2) else b
theorem bfrom_at (h : List It) (i : Nat) : Hp.best itLt h i = bfrom h i (2 * i + 1) i := by unfold bfrom; rw [if_pos rfl]; rfl
theorem bfrom_step (h : List It) (i k b : Nat) (h1 : 2 * i + 1 ≤ k) (h2 : k ≤ 2 * i + 2) : bfrom h i k b = bfrom h i (k + 1) (Hp.pick itLt h b k) := by
  unfold bfrom
  rcases (by omega : k = 2 * i + 1 ∨ k = 2 * i + 2) with e | e
  · subst e; rw [if_pos rfl, if_neg (by omega), if_pos rfl]
  · subst e; rw [if_neg (by omega), if_pos rfl, if_neg (by omega), if_neg (by omega)]
theorem pick_out {h : List It} {b k : Nat} (hk : h.length ≤ k) : Hp.pick itLt h b k = b := by
  unfold Hp.pick; rw [List.getElem?_eq_none hk]
theorem bfrom_end (h : List It) (i k b : Nat) (h1 : 2 * i + 1 ≤ k) (h2 : 2 * i + 2 < k ∨ h.length ≤ k) : bfrom h i k b = b := by
  unfold bfrom
  split
  · rename_i e; rw [pick_out (b := b) (by omega), pick_out (by omega)]
  · split
    · rw [pick_out (by omega)]
    · rfl
theorem pick_yes {h : List It} {b k : Nat} {x y : It} (hx : h[k]? = some x) (hy : h[b]? = some y) (hl : itLt x y = true) : Hp.pick itLt h b k = k := by
  unfold Hp.pick; rw [hx, hy]; simp [hl]
theorem pick_no {h : List It} {b k : Nat} {x y : It} (hx : h[k]? = some x) (hy : h[b]? = some y) (hl : itLt x y = false) : Hp.pick itLt h b k = b := by
  unfold Hp.pick; rw [hx, hy]; simp [hl]
theorem own_it {w : World} {base g n cap : Nat} {e : TypeId} {l : List It} (h : w.ownsRow base e 5 (.slice (some ⟨g, 0, none⟩) n cap) n (l.flatMap itV)) {i : Nat} {x : It} (hx : l[i]? = some x) : itAt w g (i * 5) x := by
  have hn : n * 5 = l.length * 5 := by rw [← h.1, flat_len itV 5 itV_len]
  have hi := (List.getElem?_eq_some_iff.1 hx).1
  have c := fun (j : Nat) (u : Value) (hj : j < 5) (hu : (itV x)[j]? = some u) => (h.cellAt (i * 5 + j) (by omega)).trans ((flat_get itV 5 itV_len l i x hx j hj).trans hu)
  exact ⟨c 0 _ (by omega) rfl, c 1 _ (by omega) rfl, c 2 _ (by omega) rfl, c 3 _ (by omega) rfl, c 4 _ (by omega) rfl⟩
/-- what becomes of a row of one's own that is turned in place -/
def OwnPost (base : Nat) (T : TypeId) (v : Value) (n : Nat) (l : List It) (w w' : World) : Prop := w'.ownsRow base T 5 v n (l.flatMap itV) ∧ w.grownBy w' v.ownBlock
theorem grown_below {w w1 w2 : World} {row : Option Nat} (h : w.grownBy w1 row) (hb : Below w1.heap.size w1 w2) : w.grownBy w2 row :=
  h.trans ⟨hb.os, hb.tape, hb.output, hb.size, fun k hk _ => hb.block k hk⟩
theorem grown_drew {w w1 : World} {row : Option Nat} (h : w.grownBy w1 row) : w.grownBy w1.drew row := ⟨h.os, h.tape, h.output, h.size, h.block⟩
set_option maxRecDepth 100000 in
set_option maxHeartbeats 1000000 in
theorem down_any (v : Value) (l : List It) (i : Nat) (w : World) (base : Nat) (hown : w.ownsRow base 38 5 v l.length (l.flatMap itV)) (hl : l.length ≤ 1000000) (hi : i < l.length) :
    Calls Try.prog 90 #[v, .int .i64 i] w fun e w' => e = .returned (.tuple #[]) ∧ OwnPost base 38 v l.length (Hp.down itLt l i) w w' := by
  obtain ⟨g, cap, hv, hg0, hg1⟩ : ∃ g cap, v = .slice (some ⟨g, 0, none⟩) l.length cap ∧ base ≤ g ∧ l.length ≤ cap := by
    rcases hown.2 with ⟨_, h0⟩ | ⟨g, cap, cur, e, h1, _, h2, _⟩
    · omega
    · exact ⟨g, cap, e, h1, h2⟩
  subst hv
  have HO := Lib.hid hown; clear hown
  go_enter Try.func90, Try.ntmps90
  go_wp2_with fail
  go_loopw [1, 4, 5] (fun s1 _ _ wr => ∃ (i' : Nat) (h : List It), s1 = .int .i64 i' ∧ i' < l.length ∧ Hid (h.length = l.length) ∧ Hid (Hp.down itLt l i = Hp.down itLt h i') ∧ Hid (wr.ownsRow base 38 5 (.slice (some ⟨g, 0, none⟩) l.length cap) l.length (h.flatMap itV)) ∧ Hid (w.grownBy wr (some g))) (fun s1 _ _ _ => l.length - (intOf s1).toNat)
  case atStart => exact ⟨i, l, rfl, hi, rfl, rfl, HO.out, World.grownBy.refl _ _⟩
  case round =>
    obtain ⟨i', h, rfl, hi', HL, HD, HW, HG⟩ := hrel
    obtain ⟨wo, rfl⟩ : ∃ wo : World, wo = wr := ⟨_, rfl⟩
    go_wp2_with fail
    go_loopw [4, 5] (fun s4 s5 wr => ∃ b k : Nat, s4 = .int .i64 b ∧ s5 = .int .i64 k ∧ 2 * i' + 1 ≤ k ∧ k ≤ 2 * i' + 3 ∧ b < l.length ∧ Hid (Hp.best itLt h i' = bfrom h i' k b) ∧ Below wo.heap.size wo wr) (fun _ s5 _ => 2 * i' + 3 - (intOf s5).toNat)
    case atStart => exact ⟨i', 2 * i' + 1, rfl, by go_num, by omega, by omega, hi', bfrom_at h i', Below.refl _ _⟩
    case round =>
      obtain ⟨b, k, rfl, rfl, hk1, hk2, hb1, HB, hbr⟩ := hrel
      have HW2 := Lib.hid (owns_below HW.out hbr)
      by_cases hgo : k ≤ 2 * i' + 2 ∧ k < l.length
      · obtain ⟨hk3, hk4⟩ := hgo
        have hk5 : (k : Int) ≤ 2 * (i' : Int) + 2 := by omega
        obtain ⟨x, hx⟩ : ∃ x, h[k]? = some x := ⟨_, List.getElem?_eq_getElem (by have := HL.out; omega)⟩
        obtain ⟨p, hp⟩ : ∃ p, h[b]? = some p := ⟨_, List.getElem?_eq_getElem (by have := HL.out; omega)⟩
        have hgl := (HW2.out.lt g rfl).2
        have X := fun y => itAt_ext (own_it HW2.out hx) y hgl
        have P := fun y => itAt_ext (own_it HW2.out hp) y hgl
        have x0 := fun y => (X y).1; have x1 := fun y => (X y).2.1; have x2 := fun y => (X y).2.2.1; have x3 := fun y => (X y).2.2.2.1; have x4 := fun y => (X y).2.2.2.2
        have p0 := fun y => (P y).1; have p1 := fun y => (P y).2.1; have p2 := fun y => (P y).2.2.1; have p3 := fun y => (P y).2.2.2.1; have p4 := fun y => (P y).2.2.2.2
        have q1 : (0 : Int) ≤ (k : Int) := by omega
        have q2 : (k : Int) < (l.length : Int) := by omega
        have q3 : (0 : Int) ≤ (b : Int) := by omega
        have q4 : (b : Int) < (l.length : Int) := by omega
        have HX := Lib.hid hx; have HP := Lib.hid hp
        clear hx hp X P
        go_wp2_with fail
        refine wp_region_ext (by kernel_rfl) (by kernel_rfl) ?_
        repeat (go_big_quiet_step ((go_at_call 31; exact qe (ahead_any x p _))))
        refine wpQuiet_nil ?_
        intro _ hw'
        obtain ⟨y, hw''⟩ := hw'
        subst hw''
        clear x0 x1 x2 x3 x4 p0 p1 p2 p3 p4
        have hb2 := below2 hbr (ext_below wr y)
        cases hl : itLt x p
        · have HL2 := Lib.hid hl
          clear hl
          go_wp2_with fail
          go_roundw
          case rel => exact ⟨b, k + 1, rfl, by go_num, by omega, by omega, hb1, by rw [HB.out, bfrom_step h i' k b hk1 hk3, pick_no HX.out HP.out HL2.out]; exact rfl, hb2⟩
          case measure => simp [intOf]; omega
        · have HL2 := Lib.hid hl
          clear hl
          go_wp2_with fail
          go_roundw
          case rel => exact ⟨k, k + 1, rfl, by go_num, by omega, by omega, hk4, by rw [HB.out, bfrom_step h i' k b hk1 hk3, pick_yes HX.out HP.out HL2.out]; exact rfl, hb2⟩
          case measure => simp [intOf]; omega
      · have hbest : Hp.best itLt h i' = b := by rw [HB.out]; exact bfrom_end h i' k b hk1 (by have := HL.out; omega)
        have HBE := Lib.hid hbest; clear hbest
        by_cases hk5 : (k : Int) ≤ 2 * (i' : Int) + 2
        all_goals
          by_cases hbi : b = i'
          · have hq : ((b : Int) == (i' : Int)) = true := by rw [hbi]; simp
            have HBI := Lib.hid hbi; clear hbi
            go_wp2_with fail
            refine bodyPost_ret (results_none rfl _ _ _) rfl ⟨rfl, ?_, ?_⟩
            · rw [HD.out, Hp.down_stop (by rw [HBE.out, HBI.out])]; exact HW2.out
            · exact grown_below HG.out hbr
          · have hq : ((b : Int) == (i' : Int)) = false := by simp; omega
            have HBI := Lib.hid hbi; clear hbi
            obtain ⟨x, hx⟩ : ∃ x, h[i']? = some x := ⟨_, List.getElem?_eq_getElem (by have := HL.out; omega)⟩
            obtain ⟨y, hy⟩ : ∃ y, h[b]? = some y := ⟨_, List.getElem?_eq_getElem (by have := HL.out; omega)⟩
            obtain ⟨x0, x1, x2, x3, x4⟩ := own_it HW2.out hx
            obtain ⟨y0, y1, y2, y3, y4⟩ := own_it HW2.out hy
            have ff := fun j => HW2.out.frozenAt j
            have q1 : (0 : Int) ≤ (b : Int) := by omega
            have q2 : (b : Int) < (l.length : Int) := by omega
            have q3 : (0 : Int) ≤ (i' : Int) := by omega
            have q4 : (i' : Int) < (l.length : Int) := by omega
            have HX := Lib.hid hx; have HY := Lib.hid hy
            clear hx hy
            go_wp2_with fail
            have hne1 : ¬ i' = b := fun e => HBI.out e.symm
            have hne2 : ¬ b = i' := HBI.out
            have hne3 : ¬ i' * 5 = b * 5 := by omega
            have hne4 : ¬ b * 5 = i' * 5 := by omega
            go_region
            go_wp2_with fail
            obtain ⟨o1, o2⟩ := own_swap HW2.out i' b x y (by have := HL.out; omega) (by have := HL.out; omega) rfl
            go_roundw
            case rel => exact ⟨b, Hp.swp h i' b x y, rfl, hb1, (Hp.swp_len _ _ _ _ _).trans HL.out, by rw [HD.out, Hp.down_go (by rw [HBE.out]; exact HBI.out) HX.out (by rw [HBE.out]; exact HY.out), HBE.out]; exact rfl, o1.drew, grown_drew ((grown_below HG.out hbr).trans o2)⟩
            case measure =>
              have hib : i' < b := by have := HBI.out; rcases Hp.best_cases (lt := itLt) h i' with e | e | e <;> rw [HBE.out] at e <;> omega
              simp [intOf]; omega
set_option maxRecDepth 100000 in
set_option maxHeartbeats 1000000 in
theorem up_any (v : Value) (l : List It) (i : Nat) (w : World) (base : Nat) (hown : w.ownsRow base 38 5 v l.length (l.flatMap itV)) (hl : l.length ≤ 1000000) (hi : i < l.length) :
    Calls Try.prog 91 #[v, .int .i64 i] w fun e w' => e = .returned (.tuple #[]) ∧ OwnPost base 38 v l.length (Hp.up itLt l i) w w' := by
  obtain ⟨g, cap, hv, hg0, hg1⟩ : ∃ g cap, v = .slice (some ⟨g, 0, none⟩) l.length cap ∧ base ≤ g ∧ l.length ≤ cap := by
    rcases hown.2 with ⟨_, h0⟩ | ⟨g, cap, cur, e, h1, _, h2, _⟩
    · omega
    · exact ⟨g, cap, e, h1, h2⟩
  subst hv
  have HO := Lib.hid hown; clear hown
  go_enter Try.func91, Try.ntmps91
  go_wp2_with fail
  go_loopw [1] (fun s1 wr => ∃ (i' : Nat) (h : List It), s1 = .int .i64 i' ∧ i' < l.length ∧ Hid (h.length = l.length) ∧ Hid (Hp.up itLt l i = Hp.up itLt h i') ∧ Hid (wr.ownsRow base 38 5 (.slice (some ⟨g, 0, none⟩) l.length cap) l.length (h.flatMap itV)) ∧ Hid (w.grownBy wr (some g))) (fun s1 _ => (intOf s1).toNat)
  case atStart => exact ⟨i, l, rfl, hi, rfl, rfl, HO.out, World.grownBy.refl _ _⟩
  case round =>
    obtain ⟨i', h, rfl, hi', HL, HD, HW, HG⟩ := hrel
    by_cases h0 : 0 < i'
    · have hd : decide ((0 : Int) < (i' : Int)) = true := by simpa using h0
      have hpl : Hp.par i' < i' := by unfold Hp.par; omega
      obtain ⟨x, hx⟩ : ∃ x, h[i']? = some x := ⟨_, List.getElem?_eq_getElem (by have := HL.out; omega)⟩
      obtain ⟨p, hp⟩ : ∃ p, h[Hp.par i']? = some p := ⟨_, List.getElem?_eq_getElem (by have := HL.out; omega)⟩
      have hgl := (HW.out.lt g rfl).2
      have X := fun y => itAt_ext (own_it HW.out hx) y hgl
      have P := fun y => itAt_ext (own_it HW.out hp) y hgl
      have x0 := fun y => (X y).1; have x1 := fun y => (X y).2.1; have x2 := fun y => (X y).2.2.1; have x3 := fun y => (X y).2.2.2.1; have x4 := fun y => (X y).2.2.2.2
      have p0 := fun y => (P y).1; have p1 := fun y => (P y).2.1; have p2 := fun y => (P y).2.2.1; have p3 := fun y => (P y).2.2.2.1; have p4 := fun y => (P y).2.2.2.2
      have q1 : (0 : Int) ≤ (i' : Int) := by omega
      have q2 : (i' : Int) < (l.length : Int) := by omega
      have q3 : (0 : Int) ≤ ((Hp.par i' : Nat) : Int) := by omega
      have q4 : ((Hp.par i' : Nat) : Int) < (l.length : Int) := by omega
      have HX := Lib.hid hx; have HP := Lib.hid hp
      clear hx hp X P
      go_wp2_with fail
      refine wp_region_ext (by kernel_rfl) (by kernel_rfl) ?_
      repeat (go_big_quiet_step ((first | (go_at_call 86; exact qs (parent_nat i' h0 (by omega) _)) | (go_at_call 31; exact qe (ahead_any x p _)))))
      refine wpQuiet_nil ?_
      intro _ hw'
      obtain ⟨y, hw''⟩ := hw'
      subst hw''
      clear x0 x1 x2 x3 x4 p0 p1 p2 p3 p4
      have HW2 := Lib.hid (owns_below HW.out (ext_below wr y))
      have HG2 := Lib.hid (grown_below HG.out (ext_below wr y))
      generalize ext wr y = W at HW2 HG2
      cases hl : itLt x p
      · have HL2 := Lib.hid hl
        clear hl
        go_wp2_with fail
        go_end0
        refine ⟨rfl, ?_, ?_⟩
        · rw [HD.out, Hp.up_stop HX.out HP.out HL2.out]; exact HW2.out
        · exact HG2.out
      · have HL2 := Lib.hid hl
        clear hl
        obtain ⟨x0, x1, x2, x3, x4⟩ := own_it HW2.out HX.out
        obtain ⟨p0, p1, p2, p3, p4⟩ := own_it HW2.out HP.out
        have ff := fun j => HW2.out.frozenAt j
        have hne1 : ¬ i' = Hp.par i' := by omega
        have hne2 : ¬ Hp.par i' = i' := by omega
        have hne3 : ¬ i' * 5 = Hp.par i' * 5 := by omega
        have hne4 : ¬ Hp.par i' * 5 = i' * 5 := by omega
        go_wp2_with fail
        go_region_with (go_at_call 86; refine (parent_nat i' h0 (by omega) _).mono ?_; rintro e w' ⟨rfl, rfl⟩)
        all_goals
          go_wp2_with (go_at_call 86; refine (parent_nat i' h0 (by omega) _).mono ?_; rintro e w' ⟨rfl, rfl⟩)
          obtain ⟨o1, o2⟩ := own_swap HW2.out i' (Hp.par i') x p (by have := HL.out; omega) (by have := HL.out; omega) rfl
          go_roundw
          case rel => exact ⟨Hp.par i', Hp.swp h i' (Hp.par i') x p, rfl, by omega, (Hp.swp_len _ _ _ _ _).trans HL.out, by rw [HD.out, Hp.up_go h0 HX.out HP.out HL2.out]; exact rfl, o1.drew, grown_drew (HG2.out.trans o2)⟩
          case measure => simp [intOf]; omega
    · obtain rfl : i' = 0 := by omega
      have hd : decide ((0 : Int) < ((0 : Nat) : Int)) = false := by decide
      go_wp2_with fail
      refine wp_region_ext (by kernel_rfl) (by kernel_rfl) ?_
      repeat (go_big_quiet_step (fail))
      refine wpQuiet_nil ?_
      intro _ hw'
      obtain ⟨y, hw''⟩ := hw'
      subst hw''
      go_wp2_with fail
      go_end0
      refine ⟨rfl, ?_, ?_⟩
      · rw [HD.out, Hp.up_zero]; exact owns_below HW.out (ext_below wr y)
      · exact grown_below HG.out (ext_below wr y)
end Go.Proofs.Ytppmjbnhghaffaa
