/- Texts put together: HTail, HeldL. No condition. -/
import Derived.Test.YtnplgagaoeckoaaGreatRxxmcygjsie
import Derived.Deep.RegionHeld3
set_option linter.unusedSimpArgs false
set_option linter.unusedVariables false
namespace Go.Proofs.YtnplgagaoeckoaaGreat
open Go.RowKit
section
variable {P : Program} {ops : Array Oper} {md : Region.Mode} {S : World → Prop} {Q : Exit → Act → World → Prop}

def headH (P : Program) (md : Region.Mode) (ops : Array Oper) (Q : Exit → Act → World → Prop) (S : World → Prop) (n : Nat) (L : Array Bool → Act → World → Prop) : Nat → Array Bool → Act → World → Prop
 | 0, listed, a, w => L listed a w
 | f + 1, listed, a, w =>
  Region.ready md ops listed ≠ [] ∧ ∀ i ∈ Region.ready md ops listed, i < n ∧ wpOp P ops Q i (fun a' w' => S w' ∧ headH P md ops Q S n L f (listed.setIfInBounds i true) a' w') a w

theorem any_of_headH {n g : Nat} {L : Array Bool → Act → World → Prop} (hL : ∀ listed a w, L listed a w → wpAny P md ops Q g listed a w) :
  ∀ (f : Nat) (listed : Array Bool) (a : Act) (w : World), headH P md ops Q S n L f listed a w → wpAny P md ops Q (f + g) listed a w
 | 0, listed, a, w, h => by rw [Nat.zero_add]; exact hL _ _ _ h
 | f + 1, listed, a, w, h => by
  rw [show f + 1 + g = (f + g) + 1 by omega]
  exact ⟨fun h0 => absurd h0 h.1, fun i hi => wpOp_mono (fun a' w' h' => any_of_headH hL f _ a' w' h'.2) (h.2 i hi).2⟩

theorem headH_first {n i : Nat} {oi : Oper} {v : Value} {L : Array Bool → Act → World → Prop} (hi : ops[i]? = some oi) (hsel : ∀ (j : Nat) (o : Oper) cs b, ops[j]? = some o → o.op ≠ .select cs b)
  (hQ : ∀ c a w, Q (.panic c) (a.put oi.dst v) w → Q (.panic c) a w)
  (hs : Region.sinkB md ops n = true) (hc : Region.chainB md ops n = true) (hn : n < ops.size) (hin : i < n)
  (hdone : ∀ listed a w, L listed a w → ∀ j ∈ Region.ready md ops listed, n ≤ j) :
  ∀ (f : Nat) (listed : Array Bool) (a : Act) (w : World), HeadInv md ops n listed →
   (∀ j oj, ops[j]? = some oj → j ≠ i → listed.getD j true = false → (∀ e ∈ oj.after, Region.binds md e = true → e.on ≠ i) → oi.apart ops oj = true) →
   i ∈ Region.ready md ops listed → YieldsIf P ops S oi v a → S w →
   headH P md ops Q S n L f (listed.setIfInBounds i true) (a.put oi.dst v) w → headH P md ops Q S n L (f + 1) listed a w := by
 intro f
 induction f with
 | zero =>
  intro listed a w inv _ hr hy hS H
  have hun := (mem_ready.1 hr).1
  refine ⟨fun h => (by rw [h] at hr; cases hr), fun j hj => ?_⟩
  have hjn : j < n := by
   rcases Nat.lt_or_ge j n with h | h
   ·exact h
   ·exact absurd hj (tail_waits hs hc hn inv _ i rfl hin hun j h)
  refine ⟨hjn, ?_⟩
  by_cases hji : j = i
  ·subst hji; exact hy.wpOp hi hS ⟨hS, H⟩
  ·have := hdone _ _ _ H j (ready_mono hj hji)
   omega
 | succ f ih =>
  intro listed a w inv hfree hr hy hS H
  have hun := (mem_ready.1 hr).1
  refine ⟨fun h => (by rw [h] at hr; cases hr), fun j hj => ?_⟩
  have hjn : j < n := by
   rcases Nat.lt_or_ge j n with h | h
   ·exact h
   ·exact absurd hj (tail_waits hs hc hn inv _ i rfl hin hun j h)
  refine ⟨hjn, ?_⟩
  by_cases hji : j = i
  ·subst hji; exact hy.wpOp hi hS ⟨hS, H⟩
  ·have h1 := (H.2 j (ready_mono hj hji)).2
   obtain ⟨hjun, oj, hoj, hall⟩ := mem_ready.1 hj
   have hnot : ∀ e ∈ oj.after, Region.binds md e = true → e.on ≠ i := fun e he hb heq => by
    have h1 := hall e he hb
    rw [heq, getD_both hun] at h1
    cases h1
   have h2 := wpOp_putIf hoj (hfree j oj hoj hji hjun hnot) (fun cs b => hsel i oi cs b hi) (fun cs b => hsel j oj cs b hoj) hQ hy h1
   have hfree' : ∀ k ok, ops[k]? = some ok → k ≠ i → (listed.setIfInBounds j true).getD k true = false →
     (∀ e ∈ ok.after, Region.binds md e = true → e.on ≠ i) → oi.apart ops ok = true := fun k ok hk hki hun hno => by
    refine hfree k ok hk hki ?_ hno
    by_cases hjk : j = k
    ·subst hjk; exact hjun
    ·rw [getD_set_ne true hjk] at hun; exact hun
   refine wpOp_mono (fun a' w' h3 => ⟨h3.2.1, ih (listed.setIfInBounds j true) a' w' (inv.set hj hjn) hfree' (ready_mono hr (Ne.symm hji)) h3.1 h3.2.1 ?_⟩) h2
   rw [Array.setIfInBounds_comm _ _ hji]
   exact h3.2.2

/-- the invariant of the head, as a test -/
def headInvB (md : Region.Mode) (ops : Array Oper) (n : Nat) (listed : Array Bool) : Bool :=
 decide (listed.size = ops.size) && ((List.range ops.size).all fun j => !listed.getD j false || match ops[j]? with
  | some oj => oj.after.all fun e => !Region.binds md e || listed.getD e.on false
  | none => true) && (List.range ops.size).all fun t => decide (t < n) || !listed.getD t true
theorem headInvB_spec {n : Nat} {listed : Array Bool} (h : headInvB md ops n listed = true) : HeadInv md ops n listed := by
 unfold headInvB at h
 simp only [Bool.and_eq_true, decide_eq_true_eq, List.all_eq_true, List.mem_range, Bool.or_eq_true, Bool.not_eq_true'] at h
 obtain ⟨⟨h1, h2⟩, h3⟩ := h
 refine ⟨h1, fun j oj hj hl e he hb => ?_, fun t ht ht' => ?_⟩
 ·rcases h2 j (Array.getElem?_eq_some_iff.1 hj).1 with h | h
  ·rw [hl] at h; cases h
  ·simp only [hj] at h
   have := Array.all_eq_true_iff_forall_mem.1 h e he
   simp only [Bool.or_eq_true, Bool.not_eq_true', hb] at this
   rcases this with h | h
   ·cases h
   ·exact h
 ·rcases h3 t ht' with h | h
  ·omega
  ·exact h
/-- what the region must be: once a region -/
def headB (md : Region.Mode) (ops : Array Oper) (n : Nat) : Bool := Region.noSelect ops && decide (n < ops.size) && Region.sinkB md ops n && Region.chainB md ops n
def headLt (P : Program) (ops : Array Oper) (Q : Exit → Act → World → Prop) (g n : Nat) (l : List Oper) (listed : Array Bool) (a : Act) (w : World) : Prop := Region.seqB .any ops g n listed = true ∧ wpList P ops Q l a w
theorem headH_take {n g i : Nat} {oi : Oper} {v : Value} {l : List Oper} {f : Nat} {listed : Array Bool} {a : Act} {w : World} (hB : headB .any ops n = true) (hi : ops[i]? = some oi)
  (hin : Nat.blt i n = true) (hf : Region.free .any ops listed i = true) (hr : (Region.ready .any ops listed).contains i = true) (hv : headInvB .any ops n listed = true)
  (hQ : ∀ c a w, Q (.panic c) (a.put oi.dst v) w → Q (.panic c) a w) (hy : YieldsIf P ops S oi v a) (hS : S w)
  (h : headH P .any ops Q S n (headLt P ops Q g n l) f (listed.setIfInBounds i true) (a.put oi.dst v) w) : headH P .any ops Q S n (headLt P ops Q g n l) (f + 1) listed a w := by
 unfold headB at hB
 simp only [Bool.and_eq_true, decide_eq_true_eq] at hB
 obtain ⟨⟨⟨hsel, hn⟩, hs⟩, hc⟩ := hB
 exact headH_first hi (Region.noSelect_spec hsel) hQ hs hc hn (Eq.mp Nat.blt_eq hin) (fun listed' a' w' hL => seqB_ready hL.1) f listed a w (headInvB_spec hv) (Region.free_spec hi hf) (by simpa using hr) hy hS h
theorem headH_one {n i : Nat} {o : Oper} {L : Array Bool → Act → World → Prop} {f : Nat} {listed : Array Bool} {a : Act} {w : World} (hi : ops[i]? = some o) (hin : Nat.blt i n = true) (hr : Region.ready md ops listed = [i])
  (h : ∀ K' : Act → World → Prop, Hid (∀ a w, S w → (S w → headH P md ops Q S n L f (listed.setIfInBounds i true) a w) → K' a w) → if Region.wanted o (yielded ops a.tmps) = true then Oper.wp P o a w K' Q else K' (a.put o.dst undef) w) :
  headH P md ops Q S n L (f + 1) listed a w := by
 refine ⟨by rw [hr]; simp, fun j hj => ?_⟩
 rw [hr] at hj
 obtain rfl : j = i := by simpa using hj
 exact ⟨Eq.mp Nat.blt_eq hin, wpOp_step hi fun K' hK => h K' fun a w hS hW => hK a w ⟨hS, hW hS⟩⟩
theorem headH_two {n i j : Nat} {o p : Oper} {L : Array Bool → Act → World → Prop} {f : Nat} {listed : Array Bool} {a : Act} {w : World} (hi : ops[i]? = some o) (hj : ops[j]? = some p) (hin : Nat.blt i n = true) (hjn : Nat.blt j n = true) (hr : Region.ready md ops listed = [i, j])
  (h : ∀ K' : Act → World → Prop, Hid (∀ a w, S w → (S w → headH P md ops Q S n L f (listed.setIfInBounds i true) a w) → K' a w) → if Region.wanted o (yielded ops a.tmps) = true then Oper.wp P o a w K' Q else K' (a.put o.dst undef) w)
  (h' : ∀ K' : Act → World → Prop, Hid (∀ a w, S w → (S w → headH P md ops Q S n L f (listed.setIfInBounds j true) a w) → K' a w) → if Region.wanted p (yielded ops a.tmps) = true then Oper.wp P p a w K' Q else K' (a.put p.dst undef) w) :
  headH P md ops Q S n L (f + 1) listed a w := by
 refine ⟨by rw [hr]; simp, fun k hk => ?_⟩
 rw [hr] at hk
 rcases List.mem_cons.1 hk with rfl | hk
 ·exact ⟨Eq.mp Nat.blt_eq hin, wpOp_step hi fun K' hK => h K' fun a w hS hW => hK a w ⟨hS, hW hS⟩⟩
 ·obtain rfl : k = j := by simpa using hk
  exact ⟨Eq.mp Nat.blt_eq hjn, wpOp_step hj fun K' hK => h' K' fun a w hS hW => hK a w ⟨hS, hW hS⟩⟩
theorem named_world {K : Act → World → Prop} {a : Act} {w : World} (h : ∀ W, W = w → K a W) : K a w := h w rfl
theorem headH_done {n g : Nat} {l : List Oper} {listed : Array Bool} {a : Act} {w : World} (hq : Region.seqB .any ops g n listed = true) (h : wpList P ops Q l a w) : headH P .any ops Q S n (headLt P ops Q g n l) 0 listed a w := ⟨hq, h⟩
theorem wp_region_headH {id : Nat} {a : Act} {w : World} {l : List Oper} (S : World → Prop) (n : Nat) (hm : P.follows .mixedOrders = true) (hB : headB .any l.toArray n = true)
  (h : headH P .any l.toArray Q S n (headLt P l.toArray Q (l.length - n) n (l.drop n)) n (Array.replicate l.length false) a w.drew) : (Code.region id l.toArray true).wp P Q a w := by
 unfold headB at hB
 simp only [Bool.and_eq_true, decide_eq_true_eq] at hB
 obtain ⟨⟨⟨hsel, hn⟩, hs⟩, hc⟩ := hB
 have hn' : n < l.length := by simpa using hn
 have hdl : (l.drop n).length = l.length - n := by simp
 refine wp_region_any hm ?_
 have := any_of_headH (Q := Q) (g := l.length - n) (fun listed a' w' hL => by
  have := wpAny_of_seq (md := .any) (Q' := Q) (l.drop n) n listed a' w' (fun j => by simp [List.getElem?_drop]) (by rw [hdl]; exact hL.1) hL.2
  rwa [hdl] at this) _ _ _ _ h
 rw [show n + (l.length - n) = l.toArray.size by simp; omega] at this
 exact this
end
theorem hP {P : Program} {ops : Array Oper} {S : World → Prop} {Q : Exit → Act → World → Prop} {n g : Nat} (i : Nat) {oi : Oper} {v : Value} {l : List Oper} {f : Nat} {listed : Array Bool} {a a2 : Act} {w : World} (hi : ops[i]? = some oi) (h : headH P .any ops Q S n (headLt P ops Q g n l) f (listed.setIfInBounds i true) a2 w) (hy : YieldsIf P ops S oi v a := by exact .inl ⟨by rfl, by (intro q h; (try dsimp only at h); go_simp; (try with_reducible rfl))⟩) (ha : a.put oi.dst v = a2 := by (first | (simp only [Act.put, zg1, zg2, zg3, zs1, zs2, zs3]; done) | (simp only [Act.put, zg1, zg2, zg3, zs1, zs2, zs3]; rfl) | rfl)) (hB : headB .any ops n = true := by kernel_rfl) (hin : Nat.blt i n = true := by rfl) (hf : Region.free .any ops listed i = true := by kernel_rfl) (hr : (Region.ready .any ops listed).contains i = true := by kernel_rfl) (hv : headInvB .any ops n listed = true := by kernel_rfl) (hQ : ∀ c a w, Q (.panic c) (a.put oi.dst v) w → Q (.panic c) a w := by exact fun _ _ _ h => h) (hS : S w := by assumption) : headH P .any ops Q S n (headLt P ops Q g n l) (f + 1) listed a w := headH_take hB hi hin hf hr hv hQ hy hS (ha ▸ h)
theorem hQ {P : Program} {ops : Array Oper} {S : World → Prop} {Q : Exit → Act → World → Prop} {n g : Nat} (i : Nat) {oi : Oper} {v : Value} {l : List Oper} {f : Nat} {listed : Array Bool} {a a2 : Act} {w : World} (hi : ops[i]? = some oi) (hy : YieldsIf P ops S oi v a) (h : headH P .any ops Q S n (headLt P ops Q g n l) f (listed.setIfInBounds i true) a2 w) (ha : a.put oi.dst v = a2 := by (first | (simp only [Act.put, zg1, zg2, zg3, zs1, zs2, zs3]; done) | (simp only [Act.put, zg1, zg2, zg3, zs1, zs2, zs3]; rfl) | rfl)) (hB : headB .any ops n = true := by kernel_rfl) (hin : Nat.blt i n = true := by rfl) (hf : Region.free .any ops listed i = true := by kernel_rfl) (hr : (Region.ready .any ops listed).contains i = true := by kernel_rfl) (hv : headInvB .any ops n listed = true := by kernel_rfl) (hQ : ∀ c a w, Q (.panic c) (a.put oi.dst v) w → Q (.panic c) a w := by exact fun _ _ _ h => h) (hS : S w := by assumption) : headH P .any ops Q S n (headLt P ops Q g n l) (f + 1) listed a w := headH_take hB hi hin hf hr hv hQ hy hS (ha ▸ h)
section
variable {P : Program} {ops : Array Oper} {md : Region.Mode} {S : World → Prop} {Q : Exit → Act → World → Prop} {L : Nat}

def hldL (P : Program) (md : Region.Mode) (ops : Array Oper) (Q : Exit → Act → World → Prop) (S : World → Prop) (L : Nat) : Nat → Array Bool → Act → World → Prop
 | 0, listed, a, w => Region.ready md ops listed = [] ∧ Q .normal a w
 | f + 1, listed, a, w =>
  (Region.ready md ops listed = [] → Q .normal a w) ∧ ∀ j ∈ Region.ready md ops listed, wpOp P ops Q j (fun a' w' => ((listed.setIfInBounds j true).getD L true = false → S w') ∧ hldL P md ops Q S L f (listed.setIfInBounds j true) a' w') a w

theorem any_of_hldL : ∀ (f : Nat) (listed : Array Bool) (a : Act) (w : World), hldL P md ops Q S L f listed a w → wpAny P md ops Q f listed a w
 | 0, _, _, _, h => h
 | f + 1, _, _, _, h => ⟨h.1, fun i hi => wpOp_mono (fun a' w' h' => any_of_hldL f _ a' w' h'.2) (h.2 i hi)⟩
theorem not_ready {i : Nat} {listed : Array Bool} (hw : Region.waitsFor md ops L i = true) (hun : listed.getD i true = false) : L ∉ Region.ready md ops listed := fun hr => by
 obtain ⟨_, ot, hot, hall⟩ := mem_ready.1 hr
 obtain ⟨o', ho', e, he, hb, hon⟩ := Region.waitsFor_spec hw
 have : o' = ot := Option.some.inj (ho'.symm.trans hot)
 subst this
 have h2 := hall e he hb
 rw [hon, getD_both hun] at h2
 cases h2
theorem getD_back {listed : Array Bool} {i j : Nat} (h : (listed.setIfInBounds i true).getD j true = false) : listed.getD j true = false := by
 by_cases hij : i = j
 ·subst hij
  rcases Nat.lt_or_ge i listed.size with h' | h'
  ·simp [h'] at h
  ·simp [Nat.not_lt.2 h'] at h
 ·rw [getD_set_ne true hij] at h; exact h
theorem hldL_firstU {i : Nat} {oi : Oper} {v : Value} (hi : ops[i]? = some oi) (hsel : ∀ (j : Nat) (o : Oper) cs b, ops[j]? = some o → o.op ≠ .select cs b)
  (hQ : ∀ c a w, Q (.panic c) (a.put oi.dst v) w → Q (.panic c) a w) (hiL : i ≠ L) :
  ∀ (f : Nat) (listed : Array Bool) (a : Act) (w : World),
   (∀ j oj, ops[j]? = some oj → j ≠ i → listed.getD j true = false → (∀ e ∈ oj.after, Region.binds md e = true → e.on ≠ i) → oi.apart ops oj = true) →
   i ∈ Region.ready md ops listed → YieldsIf P ops (fun _ => True) oi v a → (listed.getD L true = false → S w) →
   hldL P md ops Q S L f (listed.setIfInBounds i true) (a.put oi.dst v) w → hldL P md ops Q S L (f + 1) listed a w := by
 intro f
 induction f with
 | zero =>
  intro listed a w _ hr hy hS H
  refine ⟨fun h => (by rw [h] at hr; cases hr), fun j hj => ?_⟩
  by_cases hji : j = i
  ·subst hji; exact hy.wpOp hi trivial ⟨(fun h => hS (getD_back h)), H⟩
  ·have := ready_mono hj hji
   rw [H.1] at this
   cases this
 | succ f ih =>
  intro listed a w hfree hr hy hS H
  have hun := (mem_ready.1 hr).1
  refine ⟨fun h => (by rw [h] at hr; cases hr), fun j hj => ?_⟩
  by_cases hji : j = i
  ·subst hji; exact hy.wpOp hi trivial ⟨(fun h => hS (getD_back h)), H⟩
  ·have h1 := H.2 j (ready_mono hj hji)
   obtain ⟨hjun, oj, hoj, hall⟩ := mem_ready.1 hj
   have hnot : ∀ e ∈ oj.after, Region.binds md e = true → e.on ≠ i := fun e he hb heq => by
    have h1 := hall e he hb
    rw [heq, getD_both hun] at h1
    cases h1
   have h2 := wpOp_putIf hoj (hfree j oj hoj hji hjun hnot) (fun cs b => hsel i oi cs b hi) (fun cs b => hsel j oj cs b hoj) hQ hy h1
   have hfree' : ∀ k ok, ops[k]? = some ok → k ≠ i → (listed.setIfInBounds j true).getD k true = false →
     (∀ e ∈ ok.after, Region.binds md e = true → e.on ≠ i) → oi.apart ops ok = true := fun k ok hk hki hun hno => by
    refine hfree k ok hk hki ?_ hno
    by_cases hjk : j = k
    ·subst hjk; exact hjun
    ·rw [getD_set_ne true hjk] at hun; exact hun
   have hcomm := Array.setIfInBounds_comm true true hji (xs := listed)
   have hL : ∀ w', (((listed.setIfInBounds i true).setIfInBounds j true).getD L true = false → S w') → (listed.setIfInBounds j true).getD L true = false → S w' := fun w' h h' => h (by
    rw [← hcomm, getD_set_ne true hiL]; exact h')
   refine wpOp_mono (fun a' w' h3 => ⟨hL w' h3.2.1, ih (listed.setIfInBounds j true) a' w' hfree' (ready_mono hr (Ne.symm hji)) h3.1 (hL w' h3.2.1) ?_⟩) h2
   rw [hcomm]
   exact h3.2.2
theorem hldL_firstS {i : Nat} {oi : Oper} {v : Value} (hi : ops[i]? = some oi) (hsel : ∀ (j : Nat) (o : Oper) cs b, ops[j]? = some o → o.op ≠ .select cs b)
  (hQ : ∀ c a w, Q (.panic c) (a.put oi.dst v) w → Q (.panic c) a w) (hiL : i ≠ L) (hw : Region.waitsFor md ops L i = true) :
  ∀ (f : Nat) (listed : Array Bool) (a : Act) (w : World),
   (∀ j oj, ops[j]? = some oj → j ≠ i → listed.getD j true = false → (∀ e ∈ oj.after, Region.binds md e = true → e.on ≠ i) → oi.apart ops oj = true) →
   i ∈ Region.ready md ops listed → YieldsIf P ops S oi v a → (listed.getD L true = false ∧ S w) →
   hldL P md ops Q S L f (listed.setIfInBounds i true) (a.put oi.dst v) w → hldL P md ops Q S L (f + 1) listed a w := by
 intro f
 induction f with
 | zero =>
  intro listed a w _ hr hy hS H
  refine ⟨fun h => (by rw [h] at hr; cases hr), fun j hj => ?_⟩
  by_cases hji : j = i
  ·subst hji; exact hy.wpOp hi hS.2 ⟨(fun _ => hS.2), H⟩
  ·have := ready_mono hj hji
   rw [H.1] at this
   cases this
 | succ f ih =>
  intro listed a w hfree hr hy hS H
  have hun := (mem_ready.1 hr).1
  refine ⟨fun h => (by rw [h] at hr; cases hr), fun j hj => ?_⟩
  by_cases hji : j = i
  ·subst hji; exact hy.wpOp hi hS.2 ⟨(fun _ => hS.2), H⟩
  ·have h1 := H.2 j (ready_mono hj hji)
   obtain ⟨hjun, oj, hoj, hall⟩ := mem_ready.1 hj
   have hnot : ∀ e ∈ oj.after, Region.binds md e = true → e.on ≠ i := fun e he hb heq => by
    have h1 := hall e he hb
    rw [heq, getD_both hun] at h1
    cases h1
   have h2 := wpOp_putIf hoj (hfree j oj hoj hji hjun hnot) (fun cs b => hsel i oi cs b hi) (fun cs b => hsel j oj cs b hoj) hQ hy h1
   have hfree' : ∀ k ok, ops[k]? = some ok → k ≠ i → (listed.setIfInBounds j true).getD k true = false →
     (∀ e ∈ ok.after, Region.binds md e = true → e.on ≠ i) → oi.apart ops ok = true := fun k ok hk hki hun hno => by
    refine hfree k ok hk hki ?_ hno
    by_cases hjk : j = k
    ·subst hjk; exact hjun
    ·rw [getD_set_ne true hjk] at hun; exact hun
   have hcomm := Array.setIfInBounds_comm true true hji (xs := listed)
   have hL : ∀ w', (((listed.setIfInBounds i true).setIfInBounds j true).getD L true = false → S w') → (listed.setIfInBounds j true).getD L true = false → S w' := fun w' h h' => h (by
    rw [← hcomm, getD_set_ne true hiL]; exact h')
   have hjL : j ≠ L := fun e => not_ready hw hun (e ▸ hj)
   have hLun : (listed.setIfInBounds j true).getD L true = false := by rw [getD_set_ne true hjL]; exact hS.1
   refine wpOp_mono (fun a' w' h3 => ⟨hL w' h3.2.1, ih (listed.setIfInBounds j true) a' w' hfree' (ready_mono hr (Ne.symm hji)) h3.1 ⟨hLun, hL w' h3.2.1 hLun⟩ ?_⟩) h2
   rw [hcomm]
   exact h3.2.2
theorem hldL_takeU {i f : Nat} {oi : Oper} {v : Value} {listed : Array Bool} {a : Act} {w : World} (hB : Region.noSelect ops = true) (hi : ops[i]? = some oi) (hiL : Nat.beq i L = false)
  (hf : Region.free .any ops listed i = true) (hr : (Region.ready .any ops listed).contains i = true) (hQ : ∀ c a w, Q (.panic c) (a.put oi.dst v) w → Q (.panic c) a w) (hy : YieldsIf P ops (fun _ => True) oi v a)
  (hS : listed.getD L true = false → S w) (h : hldL P .any ops Q S L f (listed.setIfInBounds i true) (a.put oi.dst v) w) : hldL P .any ops Q S L (f + 1) listed a w :=
 hldL_firstU hi (Region.noSelect_spec hB) hQ (fun e => by rw [e, Nat.beq_refl] at hiL; cases hiL) f listed a w (Region.free_spec hi hf) (by simpa using hr) hy hS h
theorem hldL_takeS {i f : Nat} {oi : Oper} {v : Value} {listed : Array Bool} {a : Act} {w : World} (hB : Region.noSelect ops = true) (hi : ops[i]? = some oi) (hiL : Nat.beq i L = false) (hw : Region.waitsFor .any ops L i = true)
  (hf : Region.free .any ops listed i = true) (hr : (Region.ready .any ops listed).contains i = true) (hun : listed.getD L true = false) (hQ : ∀ c a w, Q (.panic c) (a.put oi.dst v) w → Q (.panic c) a w) (hy : YieldsIf P ops S oi v a)
  (hS : S w) (h : hldL P .any ops Q S L f (listed.setIfInBounds i true) (a.put oi.dst v) w) : hldL P .any ops Q S L (f + 1) listed a w :=
 hldL_firstS hi (Region.noSelect_spec hB) hQ (fun e => by rw [e, Nat.beq_refl] at hiL; cases hiL) hw f listed a w (Region.free_spec hi hf) (by simpa using hr) hy ⟨hun, hS⟩ h
theorem hldL_one {i f : Nat} {o : Oper} {listed : Array Bool} {a : Act} {w : World} (hi : ops[i]? = some o) (hr : Region.ready md ops listed = [i])
  (h : ∀ K' : Act → World → Prop, Hid (∀ a w, ((listed.setIfInBounds i true).getD L true = false → S w) → (((listed.setIfInBounds i true).getD L true = false → S w) → hldL P md ops Q S L f (listed.setIfInBounds i true) a w) → K' a w) → if Region.wanted o (yielded ops a.tmps) = true then Oper.wp P o a w K' Q else K' (a.put o.dst undef) w) :
  hldL P md ops Q S L (f + 1) listed a w := by
 refine ⟨by rw [hr]; simp, fun j hj => ?_⟩
 rw [hr] at hj
 obtain rfl : j = i := by simpa using hj
 exact wpOp_step hi fun K' hK => h K' fun a w hS hW => hK a w ⟨hS, hW hS⟩
theorem hldL_done {f : Nat} {listed : Array Bool} {a : Act} {w : World} (hr : Region.ready md ops listed = []) (h : Q .normal a w) : hldL P md ops Q S L f listed a w := by
 cases f with
 | zero => exact ⟨hr, h⟩
 | succ f => exact ⟨fun _ => h, by rw [hr]; simp⟩
theorem wp_region_hldL {id : Nat} {a : Act} {w : World} (S : World → Prop) (L : Nat) (hm : P.follows .mixedOrders = true) (h : hldL P .any ops Q S L ops.size (Array.replicate ops.size false) a w.drew) : (Code.region id ops true).wp P Q a w :=
 wp_region_any hm (any_of_hldL _ _ _ _ h)
end
theorem sP {P : Program} {ops : Array Oper} {S : World → Prop} {Q : Exit → Act → World → Prop} {L : Nat} (i : Nat) {f : Nat} {oi : Oper} {v : Value} {listed : Array Bool} {a a2 : Act} {w : World} (hi : ops[i]? = some oi) (h : hldL P .any ops Q S L f (listed.setIfInBounds i true) a2 w) (hy : YieldsIf P ops S oi v a := by exact .inl ⟨by rfl, by (intro q h; (try dsimp only at h); go_simp; (try with_reducible rfl))⟩) (ha : a.put oi.dst v = a2 := by (first | (simp only [Act.put, zg1, zg2, zg3, zs1, zs2, zs3]; done) | (simp only [Act.put, zg1, zg2, zg3, zs1, zs2, zs3]; rfl) | rfl)) (hB : Region.noSelect ops = true := by kernel_rfl) (hiL : Nat.beq i L = false := by rfl) (hw : Region.waitsFor .any ops L i = true := by kernel_rfl) (hf : Region.free .any ops listed i = true := by kernel_rfl) (hr : (Region.ready .any ops listed).contains i = true := by kernel_rfl) (hun : listed.getD L true = false := by kernel_rfl) (hQ : ∀ c a w, Q (.panic c) (a.put oi.dst v) w → Q (.panic c) a w := by exact fun _ _ _ h => h) (hS : S w := by assumption) : hldL P .any ops Q S L (f + 1) listed a w := hldL_takeS hB hi hiL hw hf hr hun hQ hy hS (ha ▸ h)
theorem sQ {P : Program} {ops : Array Oper} {S : World → Prop} {Q : Exit → Act → World → Prop} {L : Nat} (i : Nat) {f : Nat} {oi : Oper} {v : Value} {listed : Array Bool} {a a2 : Act} {w : World} (hi : ops[i]? = some oi) (hy : YieldsIf P ops S oi v a) (h : hldL P .any ops Q S L f (listed.setIfInBounds i true) a2 w) (ha : a.put oi.dst v = a2 := by (first | (simp only [Act.put, zg1, zg2, zg3, zs1, zs2, zs3]; done) | (simp only [Act.put, zg1, zg2, zg3, zs1, zs2, zs3]; rfl) | rfl)) (hB : Region.noSelect ops = true := by kernel_rfl) (hiL : Nat.beq i L = false := by rfl) (hw : Region.waitsFor .any ops L i = true := by kernel_rfl) (hf : Region.free .any ops listed i = true := by kernel_rfl) (hr : (Region.ready .any ops listed).contains i = true := by kernel_rfl) (hun : listed.getD L true = false := by kernel_rfl) (hQ : ∀ c a w, Q (.panic c) (a.put oi.dst v) w → Q (.panic c) a w := by exact fun _ _ _ h => h) (hS : S w := by assumption) : hldL P .any ops Q S L (f + 1) listed a w := hldL_takeS hB hi hiL hw hf hr hun hQ hy hS (ha ▸ h)
theorem uP {P : Program} {ops : Array Oper} {S : World → Prop} {Q : Exit → Act → World → Prop} {L : Nat} (i : Nat) {f : Nat} {oi : Oper} {v : Value} {listed : Array Bool} {a a2 : Act} {w : World} (hi : ops[i]? = some oi) (hS : listed.getD L true = false → S w) (h : hldL P .any ops Q S L f (listed.setIfInBounds i true) a2 w) (hy : YieldsIf P ops (fun _ => True) oi v a := by exact .inl ⟨by rfl, by (intro q h; (try dsimp only at h); go_simp; (try with_reducible rfl))⟩) (ha : a.put oi.dst v = a2 := by (first | (simp only [Act.put, zg1, zg2, zg3, zs1, zs2, zs3]; done) | (simp only [Act.put, zg1, zg2, zg3, zs1, zs2, zs3]; rfl) | rfl)) (hB : Region.noSelect ops = true := by kernel_rfl) (hiL : Nat.beq i L = false := by rfl) (hf : Region.free .any ops listed i = true := by kernel_rfl) (hr : (Region.ready .any ops listed).contains i = true := by kernel_rfl) (hQ : ∀ c a w, Q (.panic c) (a.put oi.dst v) w → Q (.panic c) a w := by exact fun _ _ _ h => h) : hldL P .any ops Q S L (f + 1) listed a w := hldL_takeU hB hi hiL hf hr hQ hy hS (ha ▸ h)
end Go.Proofs.YtnplgagaoeckoaaGreat
