/- Texts put together: IntB. No condition. -/
import Derived.Test.YtnplgagaoeckoaaGreatRdzhdbwziqn
import Derived.Test.YtnplgagaoeckoaaGreatRfnolrsgeod
import Derived.Test.YtnplgagaoeckoaaGreatShelf
import Derived.WalkLawsBesides
import Derived.BigGuardPart
import Derived.BigQuiet
import Derived.Deep.QuietTactic
import Derived.Deep.Light
import Derived.Deep.DeepCutAuto
import Derived.Handy
set_option maxRecDepth 100000
set_option linter.unusedSimpArgs false
set_option linter.unusedVariables false
namespace Go.Proofs.YtnplgagaoeckoaaGreat
open Go.RowKit
set_option maxHeartbeats 4000000 in
theorem intIndex_any (v : Value) (l : List Int) (n : Int) (w : World) (h : ReadsL inV 1 w v l) :
  Calls Tryz.prog 77 #[v, .int .i64 n] w fun e w' => ∃ z : Int, e = .returned (.int .i64 z) ∧ (0 ≤ z ↔ n ∈ l) ∧ Below w.heap.size w w' := by
 obtain ⟨hm, p, c, rfl, h3⟩ := ins_open h
 clear h
 go_enter Tryz.func77, Tryz.ntmps77
 go_wp2_with fail
 go_loopw [8] (fun i' wr => ∃ k : Nat, k ≤ l.length ∧ i' = .int .i64 k ∧ Hid (Below w.heap.size w wr) ∧ Hid (∀ j q, j < k → l[j]? = some q → q ≠ n)) (fun i' _ => l.length - (intOf i').toNat)
 case atStart => exact ⟨0, by omega, rfl, Below.refl _ _, fun j q hj => absurd hj (Nat.not_lt_zero _)⟩
 case round =>
  obtain ⟨k, hk, rfl, HB, HA⟩ := hrel
  by_cases hlt : k < l.length
  ·obtain ⟨x, hx⟩ : ∃ x, l[k]? = some x := ⟨_, List.getElem?_eq_getElem hlt⟩
   obtain ⟨b, o, rfl, h4, h5, h6⟩ := h3 (by omega)
   have K := keep HB.out h5 (h6 k x hx)
   have HX := zh hx
   have q1 : (0 : Int) ≤ (k : Int) := by omega
   have q2 : (k : Int) < (l.length : Int) := by omega
   clear hx h6 h3
   by_cases hq : n = x
   ·have e1 : (n == x) = true := beq_iff_eq.2 hq
    have HQ := zh hq
    clear hq
    go_wp2_with fail
    go_ret
    exact ⟨k, rfl, ⟨fun _ => by rw [HQ.out]; exact List.mem_of_getElem? HX.out, fun _ => q1⟩, HB.out⟩
   ·have e1 : (n == x) = false := beq_eq_false_iff_ne.2 hq
    have HQ := zh hq
    clear hq
    go_wp2_with fail
    go_roundw
    case rel =>
     refine ⟨k + 1, by omega, by go_num, HB.out, fun j q hj hq => ?_⟩
     rcases Nat.lt_or_ge j k with e | e
     ·exact HA.out j q e hq
     ·have : j = k := by omega
      subst this
      rw [HX.out] at hq; injection hq with hq; subst hq; exact fun e => HQ.out e.symm
    case measure => simp [intOf]; omega
  ·obtain rfl : k = l.length := by omega
   go_wp2_with fail
   go_ret
   refine ⟨-1, rfl, ⟨fun e => absurd e (by decide), fun e => ?_⟩, HB.out⟩
   obtain ⟨j, hj⟩ := List.mem_iff_getElem?.1 e
   exact absurd rfl (HA.out j n (List.getElem?_eq_some_iff.1 hj).1 hj)
theorem intContains_any (v : Value) (l : List Int) (n : Int) (w : World) (h : ReadsL inV 1 w v l) :
  Calls Tryz.prog 55 #[v, .int .i64 n] w fun e w' => e = .returned (.bool (decide (n ∈ l))) ∧ Below w.heap.size w w' := by
 have HI := zh (intIndex_any v l n w h)
 obtain ⟨hm, p, c, rfl, _⟩ := ins_open h
 clear h
 go_enter Tryz.func55, Tryz.ntmps55
 go_wp2_with (go_at_call 77; (with_reducible refine HI.out.mono ?_); rintro e w1 ⟨z, rfl, hz, b1⟩)
 go_ret
 exact ⟨by first | rfl | exact ret_bool (decide_eq_decide.2 hz), b1⟩
/-- the first place at which it holds, or -1 -/
def fnN (l : List Int) (t : Int → Bool) : Int := match l.findIdx? t with | some i => (i : Int) | none => -1
theorem fnN_hit {l : List Int} {t : Int → Bool} {k : Nat} {p : Int} (hp : l[k]? = some p) (ht : t p = true) (hA : ∀ j q, j < k → l[j]? = some q → t q = false) : fnN l t = k := by
 have h : l.findIdx? t = some k := by
  rw [List.findIdx?_eq_some_iff_getElem]
  obtain ⟨hk, e⟩ := List.getElem?_eq_some_iff.1 hp
  refine ⟨hk, by rw [e]; exact ht, fun j hj => ?_⟩
  rw [hA j _ hj (List.getElem?_eq_getElem (by omega))]; simp
 unfold fnN; rw [h]
theorem fnN_miss {l : List Int} {t : Int → Bool} (hA : ∀ j q, j < l.length → l[j]? = some q → t q = false) : fnN l t = -1 := by
 have h : l.findIdx? t = none := by
  rw [List.findIdx?_eq_none_iff]
  intro x hx
  obtain ⟨j, hj, e⟩ := List.getElem_of_mem hx
  exact hA j x hj (by rw [List.getElem?_eq_getElem hj, e])
 unfold fnN; rw [h]
theorem fnN_cases (l : List Int) (t : Int → Bool) : (fnN l t = -1 ∧ ∀ x ∈ l, t x = false) ∨ ∃ k : Nat, k < l.length ∧ fnN l t = k ∧ (∀ x, l[k]? = some x → t x = true) ∧ ∀ x ∈ l.take k, t x = false := by
 unfold fnN
 cases h : l.findIdx? t with
 | none => exact Or.inl ⟨rfl, fun x hx => by rw [List.findIdx?_eq_none_iff] at h; exact h x hx⟩
 | some k =>
  rw [List.findIdx?_eq_some_iff_getElem] at h
  obtain ⟨hk, h1, h2⟩ := h
  refine Or.inr ⟨k, hk, rfl, fun x hx => ?_, fun x hx => ?_⟩
  ·obtain ⟨_, e⟩ := List.getElem?_eq_some_iff.1 hx; rw [← e]; exact h1
  ·obtain ⟨j, hj, e⟩ := List.getElem_of_mem hx
   rw [List.length_take] at hj
   rw [List.getElem_take] at e
   have := h2 j (by omega)
   rw [e] at this; simpa using this
set_option maxHeartbeats 4000000 in
theorem intIndexFunc (g : Nat) (lb : Array Value) (t : Int → Bool) (v : Value) (l : List Int) (w : World) (h : ReadsL inV 1 w v l)
  (hp : ∀ (W : World) (x : Int), x ∈ l → Below w.heap.size w W → Calls Tryz.prog g (#[.int .i64 x] ++ lb) W fun e w' => e = .returned (.bool (t x)) ∧ Below w.heap.size w w') :
  (∀ args w, (callFunc g args).run Tryz.prog w = .ok (.enter g args) w) →
  Calls Tryz.prog 73 #[v, .func (.func g) #[] lb] w fun e w' => e = .returned (.int .i64 (fnN l t)) ∧ Below w.heap.size w w' := by
 intro eg
 obtain ⟨hm, p, c, rfl, h3⟩ := ins_open h
 clear h
 have HP := zh hp
 clear hp
 go_enter Tryz.func73, Tryz.ntmps73
 go_wp2_with fail
 go_loopw [5, 8] (fun _ i' wr => ∃ k : Nat, k ≤ l.length ∧ i' = .int .i64 k ∧ Hid (Below w.heap.size w wr) ∧ Hid (∀ j q, j < k → l[j]? = some q → t q = false)) (fun _ i' _ => l.length - (intOf i').toNat)
 case atStart => exact ⟨0, by omega, rfl, Below.refl _ _, fun j q hj => absurd hj (Nat.not_lt_zero _)⟩
 case round =>
  obtain ⟨k, hk, rfl, HB, HA⟩ := hrel
  by_cases hlt : k < l.length
  ·obtain ⟨x, hx⟩ : ∃ x, l[k]? = some x := ⟨_, List.getElem?_eq_getElem hlt⟩
   obtain ⟨b, o, rfl, h4, h5, h6⟩ := h3 (by omega)
   have K := keep HB.out h5 (h6 k x hx)
   have HC := HP.out wr x (List.mem_of_getElem? hx) HB.out
   have HX := zh hx
   have q1 : (0 : Int) ≤ (k : Int) := by omega
   have q2 : (k : Int) < (l.length : Int) := by omega
   clear hx h6 HP h3
   cases hq : t x with
   | true =>
    rw [hq] at HC
    have HQ := zh hq
    clear hq
    go_wp2_with (go_at_fn g; (with_reducible refine HC.mono ?_); rintro e w' ⟨rfl, hb'⟩)
    go_ret
    refine ⟨?_, hb'⟩
    rw [fnN_hit HX.out HQ.out HA.out]; rfl
   | false =>
    rw [hq] at HC
    have HQ := zh hq
    clear hq
    go_wp2_with (go_at_fn g; (with_reducible refine HC.mono ?_); rintro e w' ⟨rfl, hb'⟩)
    go_roundw
    case rel =>
     refine ⟨k + 1, by omega, by go_num, hb', fun j q hj hq => ?_⟩
     rcases Nat.lt_or_ge j k with e | e
     ·exact HA.out j q e hq
     ·have : j = k := by omega
      subst this
      rw [HX.out] at hq; injection hq with hq; subst hq; exact HQ.out
    case measure => simp [intOf]; omega
  ·obtain rfl : k = l.length := by omega
   go_wp2_with fail
   go_ret
   exact ⟨by rw [fnN_miss HA.out]; rfl, HB.out⟩
/-! ### DeleteFunc -/
/-- the row of a round: kept ones ahead, what is not yet asked behind -/
def KeptAt (cur : List Value) (l : List Int) (t : Int → Bool) (i j cap : Nat) : Prop :=
 cur.length = cap ∧ cur.take i = ((l.take j).filter fun x => !t x).map (fun n => .int .i64 n) ∧ ((l.take j).filter fun x => !t x).length = i ∧ ∀ k x, j ≤ k → l[k]? = some x → cur[k]? = some (.int .i64 x)
theorem KeptAt.drop {cur : List Value} {l : List Int} {t : Int → Bool} {i j cap : Nat} {x : Int} (h : KeptAt cur l t i j cap) (hx : l[j]? = some x) (ht : t x = true) : KeptAt cur l t i (j + 1) cap := by
 obtain ⟨h1, h2, h3, h4⟩ := h
 have e : (l.take (j + 1)).filter (fun x => !t x) = (l.take j).filter (fun x => !t x) := by
  rw [List.take_add_one, hx, Option.toList_some, List.filter_append, List.filter_cons_of_neg (by simp [ht]), List.filter_nil, List.append_nil]
 exact ⟨h1, by rw [e]; exact h2, by rw [e]; exact h3, fun k y hk hy => h4 k y (by omega) hy⟩
theorem KeptAt.keep {cur : List Value} {l : List Int} {t : Int → Bool} {i j cap : Nat} {x : Int} (h : KeptAt cur l t i j cap) (hx : l[j]? = some x) (ht : t x = false) (hij : i ≤ j) (hi : i < cap) : KeptAt (cur.set i (.int .i64 x)) l t (i + 1) (j + 1) cap := by
 obtain ⟨h1, h2, h3, h4⟩ := h
 have e : (l.take (j + 1)).filter (fun x => !t x) = (l.take j).filter (fun x => !t x) ++ [x] := by
  rw [List.take_add_one, hx, Option.toList_some, List.filter_append, List.filter_cons_of_pos (by simp [ht]), List.filter_nil]
 refine ⟨by rw [List.length_set]; exact h1, ?_, by rw [e, List.length_append, h3]; rfl, fun k y hk hy => ?_⟩
 ·rw [e, List.map_append, ← h2, List.take_add_one, List.getElem?_set_self (by omega), List.take_set_of_le (Nat.le_refl i)]; rfl
 ·rw [List.getElem?_set_ne (by omega)]
  exact h4 k y (by omega) hy
set_option maxHeartbeats 8000000 in
theorem intDeleteFunc (fg : Nat) (lb : Array Value) (t : Int → Bool) (v : Value) (l : List Int) (base : Nat) (w : World) (hown : w.ownsRow base 3 1 v l.length (l.flatMap inV)) (hbase : base ≤ w.heap.size) (hl : l.length ≤ 1000000)
  (hp : ∀ (W : World) (x : Int), Below base w W → Calls Tryz.prog fg (#[.int .i64 x] ++ lb) W fun e w' => e = .returned (.bool (t x)) ∧ Below W.heap.size W w') :
  (∀ args w, (callFunc fg args).run Tryz.prog w = .ok (.enter fg args) w) →
  Calls Tryz.prog 44 #[v, .func (.func fg) #[] lb] w fun e w' => ∃ r, e = .returned r ∧ w'.ownsRow base 3 1 r (l.filter fun x => !t x).length ((l.filter fun x => !t x).flatMap inV) ∧ Below base w w' := by
 intro eg
 have HIx := zh (intIndexFunc fg lb t v l w (owns_readsL hown) (fun W x _ hb => (hp W x (hb.mono hbase)).mono fun e w' ⟨h1, h2⟩ => ⟨h1, below2 hb h2⟩) eg)
 have HP := zh hp
 have HO := zh hown
 rcases fnN_cases l t with ⟨hz, hall⟩ | ⟨k0, hk0, hz, ht0, hall⟩
 ·rw [hz] at HIx
  have hf : (l.filter fun x => !t x) = l := List.filter_eq_self.2 fun x hx => by rw [hall x hx]; rfl
  rw [hf]
  obtain ⟨hm, p, c, rfl, _⟩ := ins_open (owns_readsL hown)
  clear hp hown hz hall hf
  go_enter Tryz.func44, Tryz.ntmps44
  go_wp2_with (go_at_call 73; (with_reducible refine HIx.out.mono ?_); rintro e w1 ⟨rfl, b1⟩)
  go_ret
  exact ⟨_, rfl, owns_below HO.out b1, b1.mono hbase⟩
 ·rw [hz] at HIx
  have hv : ∃ g cap, v = .slice (some ⟨g, 0, none⟩) l.length cap := by
   rcases hown.2 with ⟨_, h0⟩ | ⟨g, cap, _, rfl, _⟩
   ·omega
   ·exact ⟨_, _, rfl⟩
  obtain ⟨g, cap, rfl⟩ := hv
  obtain ⟨hbg, hnc, hcm, cur, hR, hcur⟩ := owns_blk2 hown
  have hgl : g < w.heap.size := (hown.lt g rfl).2
  have hcap : cap ≤ 9223372036854775807 := by unfold maxLen at hcm; omega
  have hlen : cur.length = cap := by have := hR.2; omega
  have hcells : ∀ (k : Nat) (x : Int), l[k]? = some x → cur[k]? = some (Value.int .i64 x) := fun k x hx => by
   have hk := (List.getElem?_eq_some_iff.1 hx).1
   have : (cur.take (l.length * 1))[k]? = some (Value.int .i64 x) := by rw [hcur, inV_map, List.getElem?_map, hx]; rfl
   rw [List.getElem?_take] at this
   split at this
   ·exact this
   ·cases this
  have hft : (l.take k0).filter (fun x => !t x) = l.take k0 := List.filter_eq_self.2 fun x hx => by rw [hall x hx]; rfl
  have hK0 : KeptAt cur l t k0 k0 cap := ⟨hlen, by
   rw [hft, List.map_take, ← inV_map, ← hcur, List.take_take, Nat.min_eq_left (by omega)], by rw [hft, List.length_take]; omega, fun k x _ hx => hcells k x hx⟩
  obtain ⟨x0, hx0⟩ : ∃ x, l[k0]? = some x := ⟨_, List.getElem?_eq_getElem hk0⟩
  have HK := zh (hK0.drop hx0 (ht0 x0 hx0))
  have HBk : Hid (BlockIs w g cur 3) := hR.1
  clear hp hown hz hall hft hK0 hcells hcur hlen hR hx0 ht0
  have w0 : IntKind.i64.wrap ((k0 : Int) + 1) = (k0 : Int) + 1 := by rw [IntKind.wrap_i64]; omega
  have n0 : ((k0 : Int) == -1) = false := beq_eq_false_iff_ne.2 (by omega)
  go_enter Tryz.func44, Tryz.ntmps44
  go_wp2_with (go_at_call 73; (with_reducible refine HIx.out.mono ?_); rintro e w1 ⟨rfl, b1⟩)
  have HB1 : Hid (BlockIs w1 g cur 3) := HBk.out.below b1
  have HW1 := zh (b1.mono hbase)
  clear b1 HBk HIx
  go_loopw [5, 6] (fun i' j' wr => ∃ (i j : Nat) (cs : List Value), i' = .int .i64 i ∧ j' = .int .i64 j ∧ i < j ∧ j ≤ l.length ∧ Hid (BlockIs wr g cs 3) ∧ Hid (KeptAt cs l t i j cap) ∧ Hid (Below base w wr)) (fun _ j' _ => l.length - (intOf j').toNat)
  case atStart => exact ⟨k0, k0 + 1, cur, rfl, by go_num, by omega, by omega, HB1.out, HK.out, HW1.out⟩
  case round =>
   clear HB1 HK HW1
   obtain ⟨i, j, cs, rfl, rfl, hij, hj, HBk, HK, HB⟩ := hrel
   have hBk := HBk.out
   have hlt := hBk.lt
   have hfz := hBk.frozen
   by_cases hjl : j < l.length
   ·obtain ⟨x, hx⟩ : ∃ x, l[j]? = some x := ⟨_, List.getElem?_eq_getElem hjl⟩
    have hc := hBk.cell (i := j) (HK.out.2.2.2 j x (Nat.le_refl _) hx)
    have HC := HP.out wr x HB.out
    have HX := zh hx
    have q1 : (0 : Int) ≤ (j : Int) := by omega
    have q2 : (j : Int) < (l.length : Int) := by omega
    have q3 : (i : Int) < (l.length : Int) := by omega
    have q4 : (0 : Int) ≤ (i : Int) := by omega
    clear hx hBk
    cases hq : t x with
    | true =>
     rw [hq] at HC
     have HK2 := zh (HK.out.drop HX.out hq)
     clear hq
     go_wp2_with (go_at_fn fg; (with_reducible refine HC.mono ?_); rintro e w2 ⟨rfl, b2⟩)
     go_roundw
     case rel => exact ⟨i, j + 1, cs, rfl, by go_num, by omega, by omega, HBk.out.below b2, HK2.out, HB.out.trans (b2.mono (Nat.le_trans hbase HB.out.size))⟩
     case measure => simp [intOf]; omega
    | false =>
     rw [hq] at HC
     have HK2 := zh (HK.out.keep HX.out hq (Nat.le_of_lt hij) (by omega))
     obtain ⟨y, hy⟩ : ∃ y, cs[i]? = some y := ⟨_, List.getElem?_eq_getElem (by rw [HK.out.1]; omega)⟩
     have HY := zh hy
     clear hq hy
     go_wp2_with (go_at_fn fg; (with_reducible refine HC.mono ?_); rintro e w2 ⟨rfl, b2⟩; have hB2 := HBk.out.below b2; have c2 := hB2.cell (i := i) HY.out; have f2 := hB2.frozen; have HB2 := zh hB2)
     go_roundw
     case rel => exact ⟨i + 1, j + 1, cs.set i (.int .i64 x), by go_num, by go_num, by omega, by omega, HB2.out.set i _, HK2.out, (HB.out.trans (b2.mono (Nat.le_trans hbase HB.out.size))).setCell (p := ⟨g, i, none⟩) hbg _⟩
     case measure => simp [intOf]; omega
   ·obtain rfl : j = l.length := by omega
    obtain ⟨k1, k2, k3, k4⟩ := HK.out
    rw [List.take_length] at k2 k3
    have hRd : RowBlk wr 3 g cap 1 cs := ⟨HBk.out, by rw [k1]; omega⟩
    obtain ⟨w2, cur2, hr2, hg2, hR2, ht2⟩ := run_clear2 (P := Tryz.prog) inRow hRd (.int .i64 0) zeroIn (fun u hu => by simp [go_sem] at hu; subst hu; rfl) (by simp [go_sem]) i (l.length - i) (by omega) (by omega) 0 (cap - i)
    have hfin : w2.ownsRow base 3 1 (.slice (some ⟨g, 0, none⟩) i cap) i ((l.filter fun x => !t x).flatMap inV) := by
     have := blk_owns (e := 3) (size := 1) (n := i) hR2 hbg (by omega) hcm
     rw [ht2, Nat.mul_one, k2, ← inV_map] at this
     exact this
    have hbel : Below base w w2 := below_farB HB.out hg2 hbg hlt
    have HF := zh (And.intro hfin hbel)
    have HN := zh k3
    simp only [Nat.mul_one] at hr2
    have q3 : (i : Int) ≤ (l.length : Int) := by omega
    have q4 : (0 : Int) ≤ (i : Int) := by omega
    have q5 : (i : Int) ≤ (cap : Int) := by omega
    have q6 : ¬ cap = i := by omega
    clear hfin hbel hg2 hR2 ht2 hRd k1 k2 k3 k4 hBk
    go_wp2_with fail
    go_ret
    exact ⟨_, rfl, by rw [HN.out]; exact HF.out.1, HF.out.2⟩
end Go.Proofs.YtnplgagaoeckoaaGreat
