/- Texts put together: TabD, PlTable, PlGood, CfV, OpC, PlOpB, OpW, OpV. No condition. -/
import Derived.Test.YtnplgagaoeckoaaGreatRslantadajh
import Derived.Test.YtnplgagaoeckoaaGreatRrgnxqgbryl
import Derived.Test.YtnplgagaoeckoaaGreatRiqzrrrcefq
import Derived.Test.YtnplgagaoeckoaaGreatRhshflinjux
import Derived.Test.YtnplgagaoeckoaaGreatRjfjqandfij
import Derived.Test.YtnplgagaoeckoaaGreatRrwpejfwmem
import Derived.Test.YtnplgagaoeckoaaGreatRpoqwmuhffv
import Derived.Test.YtnplgagaoeckoaaGreatRypywmygvkt
import Derived.Test.YtnplgagaoeckoaaGreatRmmudejbcaa
import Derived.Test.YtnplgagaoeckoaaGreatRhdezyeoumd
import Derived.Test.YtnplgagaoeckoaaGreatRzycbhslslf
import Derived.Test.YtnplgagaoeckoaaGreatRvzsdaqrozm
import Derived.BigRegion
import Derived.Lib.ItoaWalk
import Derived.Handy
import Derived.Deep.RegionHeld3
import Derived.Deep.DeepCutAuto
import Derived.Test.YtnplgagaoeckoaaGreatRows
import Derived.WalkKit
import Derived.WalkSpells
import Derived.WalkLawsBesides
import Derived.BigGuardPart
import Derived.BigQuiet
import Derived.Deep.QuietTactic
import Derived.Deep.Light
import Derived.OwnWalk
import Derived.Laws.OwnMore
import Derived.StillTailTactics
import Derived.Deep.WholeRow
namespace Go.Proofs.YtnplgagaoeckoaaGreat
open Go.RowKit Go.Lib
set_option linter.unusedSimpArgs false
set_option linter.unusedVariables false

def cntL (b : Bool) (l : List Pe) : Nat := (l.filter fun p => p.came == b).length
theorem cntL_snoc (b : Bool) (l : List Pe) (x : Pe) : cntL b (l ++ [x]) = cntL b l + (if x.came = b then 1 else 0) := by
  unfold cntL
  rw [List.filter_append, List.length_append]
  by_cases h : x.came = b <;> simp [h]
theorem cntL_le (b : Bool) (l : List Pe) : cntL b l ≤ l.length := List.length_filter_le _ _

set_option maxRecDepth 100000 in
set_option maxHeartbeats 4000000 in
theorem tcount_true (v : Value) (l : List Pe) (w : World) (h : ReadsL peV 10 w v l) :
    Calls Tryz.prog 30 #[v, .bool true] w fun e w' => e = .returned (.int .i64 (cntL true l)) ∧ Below w.heap.size w w' := by
  obtain ⟨hm, p, c, rfl, h3⟩ := pes_open h
  clear h
  go_enter Tryz.func30, Tryz.ntmps30
  go_wp2_with fail
  go_loopw [5, 10] (fun n' i' wr => ∃ k : Nat, k ≤ l.length ∧ i' = .int .i64 k ∧ n' = .int .i64 (cntL true (l.take k)) ∧ Hid (Below w.heap.size w wr)) (fun _ i' _ => l.length - (intOf i').toNat)
  case atStart => exact ⟨0, by omega, rfl, rfl, Below.refl _ _⟩
  case round =>
    obtain ⟨k, hk, rfl, rfl, HB⟩ := hrel
    by_cases hlt : k < l.length
    · obtain ⟨x, hx⟩ : ∃ x, l[k]? = some x := ⟨_, List.getElem?_eq_getElem hlt⟩
      obtain ⟨b, o, rfl, h4, h5, h6⟩ := h3 (by omega)
      have K := (h6 k x hx).below HB.out h5
      have q1 : (0 : Int) ≤ (k : Int) := by omega
      have q2 : (k : Int) < (l.length : Int) := by omega
      have hS := cntL_snoc true (l.take k) x
      rw [← show l.take (k + 1) = l.take k ++ [x] by rw [List.take_add_one, hx, Option.toList_some]] at hS
      have HS := Lib.hid hS
      have hcl : cntL true (l.take k) ≤ k := Nat.le_trans (cntL_le _ _) (by rw [List.length_take]; omega)
      obtain ⟨k0, k1, k2, k3, k4, k5, k6, k7, k8, k9⟩ := K
      clear hx h6 hS
      go_upto_region 5 with (refine list_store_blk rfl 52 _ _ rfl (wr.heap.size) _ _ 52 (BlockIs.newAt' _ _ _ (by simp)) rfl rfl (by kernel_rfl) rfl (by simp [Value.oneCell']) wr.heap.size wr (by exact bel) (Nat.le_refl _) ?_; intro W5 hP hoth hsz b5; clear hoth hsz)
      clear k0 k1 k2 k3 k4 k5 k6 k7 k8 k9
      have HB5 := Lib.hid (HB.out.trans (b5.mono HB.out.size))
      have x0 := hP.cell (i := 0) rfl
      have x1 := hP.cell (i := 1) rfl
      have x2 := hP.cell (i := 2) rfl
      have x3 := hP.cell (i := 3) rfl
      have x4 := hP.cell (i := 4) rfl
      have x5 := hP.cell (i := 5) rfl
      have x6 := hP.cell (i := 6) rfl
      have x7 := hP.cell (i := 7) rfl
      have x8 := hP.cell (i := 8) rfl
      have x9 := hP.cell (i := 9) rfl
      have xf := hP.frozen
      have xl := hP.lt
      rcases (show x.came = true ∨ x.came = false from by cases x.came <;> simp) with hc | hc
      · have HS2 : Hid (cntL true (l.take (k + 1)) = cntL true (l.take k) + 1) := by show _ = _; rw [HS.out, hc]; simp
        rw [hc] at x4
        clear hc
        go_wp2_with fail
        go_roundw
        case rel => exact ⟨k + 1, by omega, by go_num, by rw [HS2.out]; go_num, HB5.out⟩
        case measure => simp [intOf]; omega
      · have HS2 : Hid (cntL true (l.take (k + 1)) = cntL true (l.take k)) := by show _ = _; rw [HS.out, hc]; simp
        rw [hc] at x4
        clear hc
        go_wp2_with fail
        go_roundw
        case rel => exact ⟨k + 1, by omega, by go_num, by rw [HS2.out], HB5.out⟩
        case measure => simp [intOf]; omega
    · obtain rfl : k = l.length := by omega
      have HR : Hid (cntL true (l.take l.length) = cntL true l) := by show _ = _; rw [List.take_length]
      go_wp2_with fail
      go_ret
      exact ⟨by rw [HR.out]; rfl, HB.out⟩
set_option maxRecDepth 100000 in
set_option maxHeartbeats 4000000 in
theorem refTcount_true (v : Value) (l : List Pe) (w : World) (h : ReadsL peV 10 w v l) :
    Calls Tryz.prog 34 #[v, .bool true] w fun e w' => e = .returned (.int .i64 (cntL true l)) ∧ Below w.heap.size w w' := by
  obtain ⟨hm, p, c, rfl, h3⟩ := pes_open h
  clear h
  go_enter Tryz.func34, Tryz.ntmps34
  go_wp2_with fail
  go_loopw [5, 6] (fun n' i' wr => ∃ k : Nat, k ≤ l.length ∧ i' = .int .i64 k ∧ n' = .int .i64 (cntL true (l.take k)) ∧ Hid (Below w.heap.size w wr)) (fun _ i' _ => l.length - (intOf i').toNat)
  case atStart => exact ⟨0, by omega, rfl, rfl, Below.refl _ _⟩
  case round =>
    obtain ⟨k, hk, rfl, rfl, HB⟩ := hrel
    by_cases hlt : k < l.length
    · obtain ⟨x, hx⟩ : ∃ x, l[k]? = some x := ⟨_, List.getElem?_eq_getElem hlt⟩
      obtain ⟨b, o, rfl, h4, h5, h6⟩ := h3 (by omega)
      have K := (h6 k x hx).below HB.out h5
      have q1 : (0 : Int) ≤ (k : Int) := by omega
      have q2 : (k : Int) < (l.length : Int) := by omega
      have hS := cntL_snoc true (l.take k) x
      rw [← show l.take (k + 1) = l.take k ++ [x] by rw [List.take_add_one, hx, Option.toList_some]] at hS
      have HS := Lib.hid hS
      have hcl : cntL true (l.take k) ≤ k := Nat.le_trans (cntL_le _ _) (by rw [List.length_take]; omega)
      obtain ⟨k0, k1, k2, k3, k4, k5, k6, k7, k8, k9⟩ := K
      clear hx h6 hS
      rcases (show x.came = true ∨ x.came = false from by cases x.came <;> simp) with hc | hc
      · have HS2 : Hid (cntL true (l.take (k + 1)) = cntL true (l.take k) + 1) := by show _ = _; rw [HS.out, hc]; simp
        rw [hc] at k4
        clear hc
        go_wp2_with fail
        go_roundw
        case rel => exact ⟨k + 1, by omega, by go_num, by rw [HS2.out]; go_num, HB.out⟩
        case measure => simp [intOf]; omega
      · have HS2 : Hid (cntL true (l.take (k + 1)) = cntL true (l.take k)) := by show _ = _; rw [HS.out, hc]; simp
        rw [hc] at k4
        clear hc
        go_wp2_with fail
        go_roundw
        case rel => exact ⟨k + 1, by omega, by go_num, by rw [HS2.out], HB.out⟩
        case measure => simp [intOf]; omega
    · obtain rfl : k = l.length := by omega
      have HR : Hid (cntL true (l.take l.length) = cntL true l) := by show _ = _; rw [List.take_length]
      go_wp2_with fail
      go_ret
      exact ⟨by rw [HR.out]; rfl, HB.out⟩
set_option maxRecDepth 100000 in
set_option maxHeartbeats 4000000 in
theorem tcount_false (v : Value) (l : List Pe) (w : World) (h : ReadsL peV 10 w v l) :
    Calls Tryz.prog 30 #[v, .bool false] w fun e w' => e = .returned (.int .i64 (cntL false l)) ∧ Below w.heap.size w w' := by
  obtain ⟨hm, p, c, rfl, h3⟩ := pes_open h
  clear h
  go_enter Tryz.func30, Tryz.ntmps30
  go_wp2_with fail
  go_loopw [5, 10] (fun n' i' wr => ∃ k : Nat, k ≤ l.length ∧ i' = .int .i64 k ∧ n' = .int .i64 (cntL false (l.take k)) ∧ Hid (Below w.heap.size w wr)) (fun _ i' _ => l.length - (intOf i').toNat)
  case atStart => exact ⟨0, by omega, rfl, rfl, Below.refl _ _⟩
  case round =>
    obtain ⟨k, hk, rfl, rfl, HB⟩ := hrel
    by_cases hlt : k < l.length
    · obtain ⟨x, hx⟩ : ∃ x, l[k]? = some x := ⟨_, List.getElem?_eq_getElem hlt⟩
      obtain ⟨b, o, rfl, h4, h5, h6⟩ := h3 (by omega)
      have K := (h6 k x hx).below HB.out h5
      have q1 : (0 : Int) ≤ (k : Int) := by omega
      have q2 : (k : Int) < (l.length : Int) := by omega
      have hS := cntL_snoc false (l.take k) x
      rw [← show l.take (k + 1) = l.take k ++ [x] by rw [List.take_add_one, hx, Option.toList_some]] at hS
      have HS := Lib.hid hS
      have hcl : cntL false (l.take k) ≤ k := Nat.le_trans (cntL_le _ _) (by rw [List.length_take]; omega)
      obtain ⟨k0, k1, k2, k3, k4, k5, k6, k7, k8, k9⟩ := K
      clear hx h6 hS
      go_upto_region 5 with (refine list_store_blk rfl 52 _ _ rfl (wr.heap.size) _ _ 52 (BlockIs.newAt' _ _ _ (by simp)) rfl rfl (by kernel_rfl) rfl (by simp [Value.oneCell']) wr.heap.size wr (by exact bel) (Nat.le_refl _) ?_; intro W5 hP hoth hsz b5; clear hoth hsz)
      clear k0 k1 k2 k3 k4 k5 k6 k7 k8 k9
      have HB5 := Lib.hid (HB.out.trans (b5.mono HB.out.size))
      have x0 := hP.cell (i := 0) rfl
      have x1 := hP.cell (i := 1) rfl
      have x2 := hP.cell (i := 2) rfl
      have x3 := hP.cell (i := 3) rfl
      have x4 := hP.cell (i := 4) rfl
      have x5 := hP.cell (i := 5) rfl
      have x6 := hP.cell (i := 6) rfl
      have x7 := hP.cell (i := 7) rfl
      have x8 := hP.cell (i := 8) rfl
      have x9 := hP.cell (i := 9) rfl
      have xf := hP.frozen
      have xl := hP.lt
      rcases (show x.came = false ∨ x.came = true from by cases x.came <;> simp) with hc | hc
      · have HS2 : Hid (cntL false (l.take (k + 1)) = cntL false (l.take k) + 1) := by show _ = _; rw [HS.out, hc]; simp
        rw [hc] at x4
        clear hc
        go_wp2_with fail
        go_roundw
        case rel => exact ⟨k + 1, by omega, by go_num, by rw [HS2.out]; go_num, HB5.out⟩
        case measure => simp [intOf]; omega
      · have HS2 : Hid (cntL false (l.take (k + 1)) = cntL false (l.take k)) := by show _ = _; rw [HS.out, hc]; simp
        rw [hc] at x4
        clear hc
        go_wp2_with fail
        go_roundw
        case rel => exact ⟨k + 1, by omega, by go_num, by rw [HS2.out], HB5.out⟩
        case measure => simp [intOf]; omega
    · obtain rfl : k = l.length := by omega
      have HR : Hid (cntL false (l.take l.length) = cntL false l) := by show _ = _; rw [List.take_length]
      go_wp2_with fail
      go_ret
      exact ⟨by rw [HR.out]; rfl, HB.out⟩
set_option maxRecDepth 100000 in
set_option maxHeartbeats 4000000 in
theorem refTcount_false (v : Value) (l : List Pe) (w : World) (h : ReadsL peV 10 w v l) :
    Calls Tryz.prog 34 #[v, .bool false] w fun e w' => e = .returned (.int .i64 (cntL false l)) ∧ Below w.heap.size w w' := by
  obtain ⟨hm, p, c, rfl, h3⟩ := pes_open h
  clear h
  go_enter Tryz.func34, Tryz.ntmps34
  go_wp2_with fail
  go_loopw [5, 6] (fun n' i' wr => ∃ k : Nat, k ≤ l.length ∧ i' = .int .i64 k ∧ n' = .int .i64 (cntL false (l.take k)) ∧ Hid (Below w.heap.size w wr)) (fun _ i' _ => l.length - (intOf i').toNat)
  case atStart => exact ⟨0, by omega, rfl, rfl, Below.refl _ _⟩
  case round =>
    obtain ⟨k, hk, rfl, rfl, HB⟩ := hrel
    by_cases hlt : k < l.length
    · obtain ⟨x, hx⟩ : ∃ x, l[k]? = some x := ⟨_, List.getElem?_eq_getElem hlt⟩
      obtain ⟨b, o, rfl, h4, h5, h6⟩ := h3 (by omega)
      have K := (h6 k x hx).below HB.out h5
      have q1 : (0 : Int) ≤ (k : Int) := by omega
      have q2 : (k : Int) < (l.length : Int) := by omega
      have hS := cntL_snoc false (l.take k) x
      rw [← show l.take (k + 1) = l.take k ++ [x] by rw [List.take_add_one, hx, Option.toList_some]] at hS
      have HS := Lib.hid hS
      have hcl : cntL false (l.take k) ≤ k := Nat.le_trans (cntL_le _ _) (by rw [List.length_take]; omega)
      obtain ⟨k0, k1, k2, k3, k4, k5, k6, k7, k8, k9⟩ := K
      clear hx h6 hS
      rcases (show x.came = false ∨ x.came = true from by cases x.came <;> simp) with hc | hc
      · have HS2 : Hid (cntL false (l.take (k + 1)) = cntL false (l.take k) + 1) := by show _ = _; rw [HS.out, hc]; simp
        rw [hc] at k4
        clear hc
        go_wp2_with fail
        go_roundw
        case rel => exact ⟨k + 1, by omega, by go_num, by rw [HS2.out]; go_num, HB.out⟩
        case measure => simp [intOf]; omega
      · have HS2 : Hid (cntL false (l.take (k + 1)) = cntL false (l.take k)) := by show _ = _; rw [HS.out, hc]; simp
        rw [hc] at k4
        clear hc
        go_wp2_with fail
        go_roundw
        case rel => exact ⟨k + 1, by omega, by go_num, by rw [HS2.out], HB.out⟩
        case measure => simp [intOf]; omega
    · obtain rfl : k = l.length := by omega
      have HR : Hid (cntL false (l.take l.length) = cntL false l) := by show _ = _; rw [List.take_length]
      go_wp2_with fail
      go_ret
      exact ⟨by rw [HR.out]; rfl, HB.out⟩
theorem refTcount_any (v : Value) (l : List Pe) (b : Bool) (w : World) (h : ReadsL peV 10 w v l) :
    Calls Tryz.prog 34 #[v, .bool b] w fun e w' => e = .returned (.int .i64 (cntL b l)) ∧ Below w.heap.size w w' := by
  cases b
  · exact refTcount_false v l w h
  · exact refTcount_true v l w h
end Go.Proofs.YtnplgagaoeckoaaGreat
namespace Go.Proofs.YtnplgagaoeckoaaGreat

section
variable {α : Type} {lt : α → α → Bool}
/-- rising, none twice -/
def Strict (lt : α → α → Bool) (l : List α) : Prop := l.Pairwise fun x y => lt x y = true
theorem strict_sput (h : WO lt) (x : α) : ∀ {l : List α}, Strict lt l → (∀ y ∈ l, lt x y = true ∨ lt y x = true) → Strict lt (sput lt x l)
  | [], _, _ => List.pairwise_singleton _ _
  | y :: r, hl, hd => by
    have h1 := List.pairwise_cons.1 hl
    unfold sput
    cases hxy : lt x y with
    | true =>
      rw [if_pos rfl]
      refine List.pairwise_cons.2 ⟨fun z hz => ?_, hl⟩
      rcases List.mem_cons.1 hz with rfl | hz
      · exact hxy
      · exact h.tr hxy (h1.1 z hz)
    | false =>
      rw [if_neg (by simp)]
      refine List.pairwise_cons.2 ⟨fun z hz => ?_, strict_sput h x h1.2 fun z hz => hd z (List.mem_cons_of_mem _ hz)⟩
      rcases sput_mem.1 hz with rfl | hz
      · rcases hd y (List.mem_cons_self ..) with e | e
        · rw [hxy] at e; cases e
        · exact e
      · exact h1.1 z hz
theorem ssortT_mem {l : List α} {y : α} : y ∈ ssort lt l ↔ y ∈ l := by
  rw [← List.reverse_reverse l]
  induction l.reverse with
  | nil => simp [ssort]
  | cons x r ih => rw [List.reverse_cons, ssort_snoc, sput_mem, ih]; simp [or_comm]
theorem strict_ssort (h : WO lt) : ∀ {l : List α}, l.Pairwise (fun x y => lt x y = true ∨ lt y x = true) → Strict lt (ssort lt l) := by
  intro l
  rw [← List.reverse_reverse l]
  induction l.reverse with
  | nil => intro _; exact List.Pairwise.nil
  | cons x r ih =>
    intro hp
    rw [List.reverse_cons] at hp ⊢
    rw [List.pairwise_append] at hp
    rw [ssort_snoc]
    refine strict_sput h x (ih hp.1) fun y hy => ?_
    rcases hp.2.2 y (ssortT_mem.1 hy) x (by simp) with e | e
    · exact Or.inr e
    · exact Or.inl e
theorem WO.ir (h : WO lt) (a : α) : lt a a = false := by
  cases e : lt a a with
  | false => rfl
  | true => have := h.asy e; rw [e] at this; cases this
/-- two that rise and hold the same are one -/
theorem strictT_eq (h : WO lt) : ∀ {A B : List α}, Strict lt A → Strict lt B → (∀ z, z ∈ A ↔ z ∈ B) → A = B
  | [], [], _, _, _ => rfl
  | [], y :: r, _, _, hm => by have := (hm y).2 (by simp); simp at this
  | x :: r, [], _, _, hm => by have := (hm x).1 (by simp); simp at this
  | x :: r, y :: s, hA, hB, hm => by
    have h1 := List.pairwise_cons.1 hA
    have h2 := List.pairwise_cons.1 hB
    have hxy : x = y := by
      rcases List.mem_cons.1 ((hm x).1 (by simp)) with e | e
      · exact e
      · rcases List.mem_cons.1 ((hm y).2 (by simp)) with e' | e'
        · exact e'.symm
        · have a := h1.1 y e'; have b := h2.1 x e
          rw [h.asy a] at b; cases b
    subst hxy
    congr 1
    refine strictT_eq h h1.2 h2.2 fun z => ⟨fun hz => ?_, fun hz => ?_⟩
    · rcases List.mem_cons.1 ((hm z).1 (List.mem_cons_of_mem _ hz)) with e | e
      · subst e; have := h1.1 z hz; rw [h.ir] at this; cases this
      · exact e
    · rcases List.mem_cons.1 ((hm z).2 (List.mem_cons_of_mem _ hz)) with e | e
      · subst e; have := h2.1 z hz; rw [h.ir] at this; cases this
      · exact e
end
instance (a : List Pe) (x : Pe) : Decidable (∀ y ∈ a, y.en ≠ x.en) := inferInstance
def ltEn (a b : Pe) : Bool := decide (enCmp a.en b.en < 0)
theorem ltEn_or {a b : Pe} (h : a.en ≠ b.en) : ltEn a b = true ∨ ltEn b a = true := by
  have e := cmp_en.neg a.en b.en
  by_cases h0 : enCmp a.en b.en = 0
  · exact absurd (enCmp_zero h0) h
  · unfold ltEn
    by_cases h1 : enCmp a.en b.en < 0
    · exact Or.inl (decide_eq_true h1)
    · exact Or.inr (decide_eq_true (by omega))
end Go.Proofs.YtnplgagaoeckoaaGreat
namespace Go.Proofs.YtnplgagaoeckoaaGreat

/-- what a right table is -/
def GoodT (l : List Pe) : Prop := ∀ (i : Nat) (x : Pe), l[i]? = some x → peRight x = true ∧ ∀ (j : Nat) (y : Pe), j < i → l[j]? = some y → enCmp y.en x.en < 0
theorem goodT_next {l : List Pe} (h : ∀ (i : Nat) (x : Pe), l[i]? = some x → peRight x = true ∧ ∀ (j : Nat) (y : Pe), j + 1 = i → l[j]? = some y → enCmp y.en x.en < 0) : GoodT l := by
  intro i
  induction i with
  | zero => exact fun x hx => ⟨(h 0 x hx).1, fun j y hj => by omega⟩
  | succ i ih =>
    intro x hx
    refine ⟨(h _ x hx).1, fun j y hj hy => ?_⟩
    obtain ⟨z, hz⟩ : ∃ z, l[i]? = some z := ⟨_, List.getElem?_eq_getElem (by have := (List.getElem?_eq_some_iff.1 hx).1; omega)⟩
    have h1 := (h _ x hx).2 i z rfl hz
    rcases Nat.lt_or_ge j i with hlt | hge
    · exact cmp_en.le_eq ((ih z hz).2 j y hlt hy) (by omega)
    · obtain rfl : j = i := by omega
      rw [hz] at hy; injection hy with hy; subst hy; exact h1
theorem goodT_iff (l : List Pe) : GoodT l ↔ (∀ x ∈ l, peRight x = true) ∧ l.Pairwise fun a b => enCmp a.en b.en < 0 := by
  constructor
  · intro h
    refine ⟨fun x hx => ?_, ?_⟩
    · obtain ⟨i, hi⟩ := List.mem_iff_getElem?.1 hx
      exact (h i x hi).1
    · rw [List.pairwise_iff_getElem]
      intro i j hi hj hij
      exact (h j _ (List.getElem?_eq_getElem hj)).2 i _ hij (List.getElem?_eq_getElem hi)
  · intro ⟨h1, h2⟩ i x hx
    rw [List.pairwise_iff_getElem] at h2
    obtain ⟨hi, rfl⟩ := List.getElem?_eq_some_iff.1 hx
    refine ⟨h1 _ (List.getElem_mem _), fun j y hj hy => ?_⟩
    obtain ⟨hj', rfl⟩ := List.getElem?_eq_some_iff.1 hy
    exact h2 j i hj' hi hj
end Go.Proofs.YtnplgagaoeckoaaGreat
namespace Go.Proofs.YtnplgagaoeckoaaGreat
open Go.ChangeShapes Go.WideShapes Go.ChangeAt Go.RowKit Go.Deep
def cfV (c : Cf) : List Value := [.int .i64 c.mi, .int .i64 c.mo, .int .i64 c.sh, .int .i64 c.mb, .int .i64 c.mbk, .int .u64 c.secret, .int .i64 c.qg, .int .i64 c.qp, .int .i64 c.qw, .int .i64 c.qt, .int .i64 c.half, .int .i64 c.limit, .int .i64 c.banfor, .int .i64 c.base, .int .i64 c.cap, .int .i64 c.jitter]
theorem opens_quota : Opens Tryz.prog 24 (fun q : Int × Int × Int × Int => [.int .i64 q.1, .int .i64 q.2.1, .int .i64 q.2.2.1, .int .i64 q.2.2.2]) (fun _ => True) :=
  (opens_of_fields Tryz.underlying24 (opensF_cons (n := 1) (opens_i64 Tryz.underlying3) (by kernel_rfl) rfl (opensF_cons (n := 1) (opens_i64 Tryz.underlying3) (by kernel_rfl) rfl (opensF_cons (n := 1) (opens_i64 Tryz.underlying3) (by kernel_rfl) rfl (opensF_cons (n := 1) (opens_i64 Tryz.underlying3) (by kernel_rfl) rfl opensF_nil)))) (by kernel_rfl)).map
    fun ⟨a, b, c, d, _⟩ _ => ⟨⟨a, b, c, d⟩, trivial, rfl⟩
end Go.Proofs.YtnplgagaoeckoaaGreat
namespace Go.Proofs.YtnplgagaoeckoaaGreat
open Go.RowKit

theorem k6 (k : Int) : k = 1 ∨ k = 2 ∨ k = 3 ∨ k = 4 ∨ k = 5 ∨ k = 6 ∨ (k < 1 ∨ 6 < k) := by omega
end Go.Proofs.YtnplgagaoeckoaaGreat
namespace Go.Proofs.YtnplgagaoeckoaaGreat
open Go.RowKit

/-- short texts, and not many -/
def Few (n : Nat) (l : List (List UInt8)) : Prop := l.length ≤ n ∧ ∀ x ∈ l, x.length ≤ 2000
theorem Few.nil : Few 0 [] := ⟨by simp, fun x h => by simp at h⟩
theorem Few.cons {m : Nat} {x : List UInt8} {k : List (List UInt8)} (h : x.length ≤ 2000) (g : Few m k) : Few (m + 1) (x :: k) := ⟨by have := g.1; simp; omega, fun y hy => by
  rcases List.mem_cons.1 hy with rfl | h'
  · exact h
  · exact g.2 y h'⟩
theorem Few.le {n m : Nat} {l : List (List UInt8)} (h : Few n l) (hm : n ≤ m) : Few m l := ⟨Nat.le_trans h.1 hm, h.2⟩
end Go.Proofs.YtnplgagaoeckoaaGreat
namespace Go.Proofs.YtnplgagaoeckoaaGreat
open Go.RowKit
set_option linter.unusedSimpArgs false
set_option linter.unusedVariables false

def Oq.good (w : World) (o : Oq) : Prop := i64 o.kind ∧ i64 o.lock ∧ i64 o.lk ∧ i64 o.ls ∧ i64 o.lt ∧ i64 o.old ∧ i64 o.new ∧ i64 o.vn ∧ o.pe.fits ∧ (ReadsL baV 5 w o.bans.1 o.bans.2 ∧ ∀ x ∈ o.bans.2, x.fits) ∧ (ReadsL eyV 7 w o.book.1 o.book.2 ∧ ∀ x ∈ o.book.2, i64 x.state)
theorem k8 (k : Int) : k = 1 ∨ k = 2 ∨ k = 3 ∨ k = 4 ∨ k = 5 ∨ k = 6 ∨ k = 7 ∨ k = 8 ∨ (k < 1 ∨ 8 < k) := by omega
end Go.Proofs.YtnplgagaoeckoaaGreat
namespace Go.Proofs.YtnplgagaoeckoaaGreat
open Go.ChangeShapes Go.WideShapes Go.ChangeAt Go.RowKit Go.Deep
def Ey.fits (e : Ey) : Prop := e.en.fits ∧ i64 e.state ∧ i64 e.fails ∧ i64 e.next
theorem opens_entry : Opens Tryz.prog 87 eyV Ey.fits :=
  (opens_of_fields Tryz.underlying87 (opensF_cons (n := 4) opens_end (by kernel_rfl) rfl (opensF_cons (n := 1) (opens_i64 Tryz.underlying3) (by kernel_rfl) rfl (opensF_cons (n := 1) (opens_i64 Tryz.underlying3) (by kernel_rfl) rfl (opensF_cons (n := 1) (opens_i64 Tryz.underlying3) (by kernel_rfl) rfl opensF_nil)))) (by kernel_rfl)).map
    fun ⟨e, s, f, n, _⟩ ⟨h1, h2, h3, h4, _⟩ => ⟨⟨e, s, f, n⟩, ⟨h1, h2, h3, h4⟩, rfl⟩
structure Lo where
  k : Int
  s : Int
  t : Int
structure Va where
  n : Int
  pe : Pe
  bans : Value × List Ba
  book : Value × List Ey
def vaV (v : Va) : List Value := [.int .i64 v.n, .bool v.pe.en.ad.v6, .int .u64 v.pe.en.ad.hi, .int .u64 v.pe.en.ad.lo, .int .i64 v.pe.en.port, .bool v.pe.came, .int .i64 v.pe.since, .int .i64 v.pe.pts, .int .i64 v.pe.at_, .int .i64 v.pe.ping, .int .i64 v.pe.work, v.bans.1, v.book.1]
def Va.good (w : World) (v : Va) : Prop := i64 v.n ∧ v.pe.fits ∧ (ReadsL baV 5 w v.bans.1 v.bans.2 ∧ ∀ x ∈ v.bans.2, x.fits) ∧ (ReadsL eyV 7 w v.book.1 v.book.2 ∧ ∀ x ∈ v.book.2, x.fits)
theorem opens_value : OpensW Tryz.prog 54 vaV Va.good :=
  (opensW_of_fields Tryz.underlying54 (opensWF_cons (n := 1) (opens_i64 Tryz.underlying3).w (by kernel_rfl) rfl (opensWF_cons (n := 10) opens_peer.w (by kernel_rfl) rfl (opensWF_cons (n := 1) (opensW_slice opens_ban.w baV_len (by omega) Tryz.underlying27 (by kernel_rfl)) (by kernel_rfl) rfl
    (opensWF_cons (n := 1) (opensW_slice opens_entry.w eyV_len (by omega) Tryz.underlying28 (by kernel_rfl)) (by kernel_rfl) rfl opensWF_nil)))) (by kernel_rfl)).map
    fun w ⟨n, p, b, y, _⟩ ⟨h1, h2, h3, h4, _⟩ => ⟨⟨n, p, (b.1, b.2), (y.1, y.2)⟩, ⟨h1, h2, ⟨h3.1, h3.2⟩, ⟨h4.1, h4.2⟩⟩, rfl⟩
end Go.Proofs.YtnplgagaoeckoaaGreat
