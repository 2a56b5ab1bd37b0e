/- Texts put together: MemE, HeldL. No condition. -/
import Derived.Test.YtnplgagaoeckoaaRthufioxysg
import Derived.Test.YtnplgagaoeckoaaRxijshrndud
import Derived.Shelf.Slices.Empties
import Derived.Test.YtnplgagaoeckoaaRwioubrlxuu
namespace Go.Proofs.Ytnplgagaoeckoaa
open Go.RowKit

/-- a rising list, split at a number -/
theorem rise_split {l : List Int} (h : l.Pairwise (· < ·)) (n : Int) : l.take (l.countP fun x => decide (x < n)) = (l.filter fun x => decide (x < n)) ∧ l.drop (l.countP fun x => decide (x < n)) = (l.filter fun x => decide (n ≤ x)) := by
  induction l with
  | nil => exact ⟨rfl, rfl⟩
  | cons a r ih =>
    obtain ⟨h1, h2⟩ := List.pairwise_cons.1 h
    by_cases ha : a < n
    · rw [List.countP_cons_of_pos (by simpa using ha), List.filter_cons_of_pos (by simpa using ha), List.filter_cons_of_neg (by simp; omega), List.take_succ_cons, List.drop_succ_cons]
      exact ⟨by rw [(ih h2).1], (ih h2).2⟩
    · have hall : ∀ x ∈ r, ¬ x < n := fun x hx => by have := h1 x hx; omega
      rw [List.countP_cons_of_neg (by simpa using ha), List.filter_cons_of_neg (by simpa using ha), List.filter_cons_of_pos (by simp; omega), List.countP_eq_zero.2 (fun x hx => by simpa using hall x hx)]
      refine ⟨?_, ?_⟩
      · rw [List.take_zero, List.filter_eq_nil_iff.2 fun x hx => by simpa using hall x hx]
      · rw [List.drop_zero, List.filter_eq_self.2 fun x hx => by have := hall x hx; simp; omega]
theorem rise_in {l : List Int} (h : l.Pairwise (· < ·)) {n : Int} (hn : n ∈ l) : riseP l n = l := by
  unfold riseP
  induction l with
  | nil => cases hn
  | cons a r ih =>
    obtain ⟨h1, h2⟩ := List.pairwise_cons.1 h
    rcases List.mem_cons.1 hn with rfl | hn
    · rw [List.filter_cons_of_neg (by simp), List.filter_cons_of_neg (by simp), List.filter_eq_nil_iff.2 (fun x hx => by have := h1 x hx; simp; omega), List.filter_eq_self.2 (fun x hx => by have := h1 x hx; simp; omega)]; rfl
    · have := h1 n hn
      rw [List.filter_cons_of_pos (by simpa using this), List.filter_cons_of_neg (by simp; omega), List.cons_append, ih h2 hn]
theorem rise_out {l : List Int} (h : l.Pairwise (· < ·)) {n : Int} (hn : n ∉ l) : riseP l n = insI l (l.countP fun x => decide (x < n)) n := by
  obtain ⟨h1, h2⟩ := rise_split h n
  unfold insI riseP
  rw [h1, h2]
  congr 2
  refine List.filter_congr fun x hx => ?_
  have : x ≠ n := fun e => hn (e ▸ hx)
  exact decide_eq_decide.2 ⟨fun h => by omega, fun h => by omega⟩
theorem intSearch_any (v : Value) (l : List Int) (n : Int) (w : World) (h : ReadsL inV 1 w v l) (hs : l.Pairwise (· < ·)) (hl : l.length ≤ 1000) :
    Calls Try.prog 34 #[v, .int .i64 n] w fun e w' => e = .returned (.tuple #[.int .i64 (l.countP fun x => decide (x < n) : Nat), .bool (decide (n ∈ l))]) ∧ Below w.heap.size w w' := by
  obtain ⟨hm, p, c, rfl, h3⟩ := ins_open h
  rcases Nat.eq_zero_or_pos l.length with h0 | h0
  · obtain rfl : l = [] := List.eq_nil_of_length_eq_zero h0
    exact (Any.slices_BinarySearch_int_empty Try.laysNm225 p c n w).mono fun e w' ⟨h1, h2⟩ => ⟨h1, by rw [h2]; exact Below.refl _ _⟩
  · obtain ⟨b, o, rfl, h4, h5, h6⟩ := h3 h0
    have := Try.slices_BinarySearch_int b o l.length c l n w (Nat.le_refl _) (by omega) (fun j hj => by rw [List.getD_eq_getElem?_getD, List.getElem?_eq_getElem hj]; exact h6 j _ (List.getElem?_eq_getElem hj)) (by rw [List.take_length]; exact hs.imp fun h => Int.le_of_lt h)
    rw [List.take_length] at this
    refine this.mono fun e w' ⟨h1, q, h2⟩ => ⟨?_, by rw [h2]; exact below_drewN (Below.refl _ _) _⟩
    have e2 : l.contains n = decide (n ∈ l) := Bool.eq_iff_iff.2 (by simp)
    rw [h1, e2]
set_option maxRecDepth 100000 in
set_option maxHeartbeats 8000000 in
theorem memShared_any (v : Value) (l : List Int) (n : Int) (w : World) (h : ReadsL inV 1 w v l) (hs : l.Pairwise (· < ·)) (hl : l.length ≤ 1000) :
    Calls Try.prog 22 #[v, .int .i64 n] w fun e w' => ∃ a c, e = .returned (.slice a (riseP l n).length c) ∧ ((.slice a (riseP l n).length c = v ∧ riseP l n = l) ∨ w'.ownsRow w.heap.size 3 1 (.slice a (riseP l n).length c) (riseP l n).length ((riseP l n).flatMap inV)) ∧ Below w.heap.size w w' := by
  have HS := Lib.hid (intSearch_any v l n w h hs hl)
  have HCl := Lib.hid (fun (W : World) (hb : Below w.heap.size w W) => cloneI v l.length (l.flatMap inV) W (ReadsL.below h hb) (inV_ones l) (by omega))
  have HV := Lib.hid h
  obtain ⟨hm, p, c, rfl, _⟩ := ins_open h
  by_cases hn : n ∈ l
  · rw [decide_eq_true hn] at HS
    rw [rise_in hs hn]
    clear h hs hn
    go_enter Try.func22, Try.ntmps22
    go_wp2_with (go_at_call 34; (with_reducible refine HS.out.mono ?_); rintro e w1 ⟨rfl, b1⟩)
    go_ret
    exact ⟨_, _, rfl, Or.inl (by first | exact ⟨rfl, rfl⟩ | simp), b1⟩
  · rw [decide_eq_false hn] at HS
    have hr := rise_out hs hn
    have hk : (l.countP fun x => decide (x < n)) ≤ l.length := List.countP_le_length
    have hil : (riseP l n).length = l.length + 1 := by rw [hr]; unfold insI; rw [List.length_append, List.length_cons, List.length_take, List.length_drop]; omega
    rw [hil]
    generalize (l.countP fun x => decide (x < n)) = k at *
    have HR := Lib.hid hr; have HIL := Lib.hid hil
    clear h hs hn hr hil
    go_enter Try.func22, Try.ntmps22
    go_wp2_with (first
      | (go_at_call 34; (with_reducible refine HS.out.mono ?_); rintro e w1 ⟨rfl, b1⟩)
      | (go_at_call 24; (with_reducible refine (HCl.out _ b1).mono ?_); rintro e w3 ⟨r3, rfl, own3, b3⟩; have b4 := below2 b1 b3)
      | (go_at_call 35; refine (insIn l k hk (by omega) n _ w.heap.size w3.heap.size 3 _ (owns_base (owns_below own3 (w' := w3.alloc (.cells #[.int .i64 n] 3)) (by (repeat (first | with_reducible assumption | with_reducible exact Below.refl _ _ | with_reducible refine Below.setCell ?_ (by first | omega | (simp; done) | (simp; omega)) _ | with_reducible refine Below.alloc ?_ (by first | omega | (simp; done) | (simp; omega)) _ | with_reducible refine Below.drew ?_ | (with_reducible refine Below.trans ?_ (Below.mono (by with_reducible assumption) (by first | omega | (simp; done) | (simp; omega)))) | (refine Below.trans ?_ (Below.mono (by assumption) (by first | omega | (simp; done) | (simp; omega)))))))) b1.size) (BlockIs.new w3 (inV n) _) (Nat.le_trans b4.size (by simp)) (fun g cc hv => ?_)).mono ?_; rotate_left; rintro e w9 ⟨r9, rfl, own9, b9⟩))
    · obtain ⟨a9, c9, e9⟩ := owns_slice own9
      subst e9
      go_ret
      refine ⟨_, _, rfl, Or.inr ?_, (b4.alloc b4.size _).trans b9⟩
      rw [HR.out]
      exact own9
    · obtain ⟨_, e⟩ := own3.lt g (by rw [hv]; rfl)
      omega
end Go.Proofs.Ytnplgagaoeckoaa
namespace Go.Proofs.Ytnplgagaoeckoaa
open Go.RowKit

section
variable {P : Program} {ops : Array Oper} {md : Region.Mode} {S : World → Prop} {Q : Exit → Act → World → Prop} {L : Nat}

def hldL (P : Program) (md : Region.Mode) (ops : Array Oper) (Q : Exit → Act → World → Prop) (S : World → Prop) (L : Nat) : Nat → Array Bool → Act → World → Prop
  | 0, listed, a, w => Region.ready md ops listed = [] ∧ Q .normal a w
  | f + 1, listed, a, w =>
    (Region.ready md ops listed = [] → Q .normal a w) ∧ ∀ j ∈ Region.ready md ops listed, wpOp P ops Q j (fun a' w' => ((listed.setIfInBounds j true).getD L true = false → S w') ∧ hldL P md ops Q S L f (listed.setIfInBounds j true) a' w') a w

theorem any_of_hldL : ∀ (f : Nat) (listed : Array Bool) (a : Act) (w : World), hldL P md ops Q S L f listed a w → wpAny P md ops Q f listed a w
  | 0, _, _, _, h => h
  | f + 1, _, _, _, h => ⟨h.1, fun i hi => wpOp_mono (fun a' w' h' => any_of_hldL f _ a' w' h'.2) (h.2 i hi)⟩
theorem not_ready {i : Nat} {listed : Array Bool} (hw : Region.waitsFor md ops L i = true) (hun : listed.getD i true = false) : L ∉ Region.ready md ops listed := fun hr => by
  obtain ⟨_, ot, hot, hall⟩ := mem_ready.1 hr
  obtain ⟨o', ho', e, he, hb, hon⟩ := Region.waitsFor_spec hw
  have : o' = ot := Option.some.inj (ho'.symm.trans hot)
  subst this
  have h2 := hall e he hb
  rw [hon, getD_both hun] at h2
  cases h2
theorem getD_back {listed : Array Bool} {i j : Nat} (h : (listed.setIfInBounds i true).getD j true = false) : listed.getD j true = false := by
  by_cases hij : i = j
  · subst hij
    rcases Nat.lt_or_ge i listed.size with h' | h'
    · simp [h'] at h
    · simp [Nat.not_lt.2 h'] at h
  · rw [getD_set_ne true hij] at h; exact h
theorem hldL_firstU {i : Nat} {oi : Oper} {v : Value} (hi : ops[i]? = some oi) (hsel : ∀ (j : Nat) (o : Oper) cs b, ops[j]? = some o → o.op ≠ .select cs b)
    (hQ : ∀ c a w, Q (.panic c) (a.put oi.dst v) w → Q (.panic c) a w) (hiL : i ≠ L) :
    ∀ (f : Nat) (listed : Array Bool) (a : Act) (w : World),
      (∀ j oj, ops[j]? = some oj → j ≠ i → listed.getD j true = false → (∀ e ∈ oj.after, Region.binds md e = true → e.on ≠ i) → oi.apart ops oj = true) →
      i ∈ Region.ready md ops listed → YieldsIf P ops (fun _ => True) oi v a → (listed.getD L true = false → S w) →
      hldL P md ops Q S L f (listed.setIfInBounds i true) (a.put oi.dst v) w → hldL P md ops Q S L (f + 1) listed a w := by
  intro f
  induction f with
  | zero =>
    intro listed a w _ hr hy hS H
    refine ⟨fun h => (by rw [h] at hr; cases hr), fun j hj => ?_⟩
    by_cases hji : j = i
    · subst hji; exact hy.wpOp hi trivial ⟨(fun h => hS (getD_back h)), H⟩
    · have := ready_mono hj hji
      rw [H.1] at this
      cases this
  | succ f ih =>
    intro listed a w hfree hr hy hS H
    have hun := (mem_ready.1 hr).1
    refine ⟨fun h => (by rw [h] at hr; cases hr), fun j hj => ?_⟩
    by_cases hji : j = i
    · subst hji; exact hy.wpOp hi trivial ⟨(fun h => hS (getD_back h)), H⟩
    · have h1 := H.2 j (ready_mono hj hji)
      obtain ⟨hjun, oj, hoj, hall⟩ := mem_ready.1 hj
      have hnot : ∀ e ∈ oj.after, Region.binds md e = true → e.on ≠ i := fun e he hb heq => by
        have h1 := hall e he hb
        rw [heq, getD_both hun] at h1
        cases h1
      have h2 := wpOp_putIf hoj (hfree j oj hoj hji hjun hnot) (fun cs b => hsel i oi cs b hi) (fun cs b => hsel j oj cs b hoj) hQ hy h1
      have hfree' : ∀ k ok, ops[k]? = some ok → k ≠ i → (listed.setIfInBounds j true).getD k true = false →
          (∀ e ∈ ok.after, Region.binds md e = true → e.on ≠ i) → oi.apart ops ok = true := fun k ok hk hki hun hno => by
        refine hfree k ok hk hki ?_ hno
        by_cases hjk : j = k
        · subst hjk; exact hjun
        · rw [getD_set_ne true hjk] at hun; exact hun
      have hcomm := Array.setIfInBounds_comm true true hji (xs := listed)
      have hL : ∀ w', (((listed.setIfInBounds i true).setIfInBounds j true).getD L true = false → S w') → (listed.setIfInBounds j true).getD L true = false → S w' := fun w' h h' => h (by
        rw [← hcomm, getD_set_ne true hiL]; exact h')
      refine wpOp_mono (fun a' w' h3 => ⟨hL w' h3.2.1, ih (listed.setIfInBounds j true) a' w' hfree' (ready_mono hr (Ne.symm hji)) h3.1 (hL w' h3.2.1) ?_⟩) h2
      rw [hcomm]
      exact h3.2.2
theorem hldL_firstS {i : Nat} {oi : Oper} {v : Value} (hi : ops[i]? = some oi) (hsel : ∀ (j : Nat) (o : Oper) cs b, ops[j]? = some o → o.op ≠ .select cs b)
    (hQ : ∀ c a w, Q (.panic c) (a.put oi.dst v) w → Q (.panic c) a w) (hiL : i ≠ L) (hw : Region.waitsFor md ops L i = true) :
    ∀ (f : Nat) (listed : Array Bool) (a : Act) (w : World),
      (∀ j oj, ops[j]? = some oj → j ≠ i → listed.getD j true = false → (∀ e ∈ oj.after, Region.binds md e = true → e.on ≠ i) → oi.apart ops oj = true) →
      i ∈ Region.ready md ops listed → YieldsIf P ops S oi v a → (listed.getD L true = false ∧ S w) →
      hldL P md ops Q S L f (listed.setIfInBounds i true) (a.put oi.dst v) w → hldL P md ops Q S L (f + 1) listed a w := by
  intro f
  induction f with
  | zero =>
    intro listed a w _ hr hy hS H
    refine ⟨fun h => (by rw [h] at hr; cases hr), fun j hj => ?_⟩
    by_cases hji : j = i
    · subst hji; exact hy.wpOp hi hS.2 ⟨(fun _ => hS.2), H⟩
    · have := ready_mono hj hji
      rw [H.1] at this
      cases this
  | succ f ih =>
    intro listed a w hfree hr hy hS H
    have hun := (mem_ready.1 hr).1
    refine ⟨fun h => (by rw [h] at hr; cases hr), fun j hj => ?_⟩
    by_cases hji : j = i
    · subst hji; exact hy.wpOp hi hS.2 ⟨(fun _ => hS.2), H⟩
    · have h1 := H.2 j (ready_mono hj hji)
      obtain ⟨hjun, oj, hoj, hall⟩ := mem_ready.1 hj
      have hnot : ∀ e ∈ oj.after, Region.binds md e = true → e.on ≠ i := fun e he hb heq => by
        have h1 := hall e he hb
        rw [heq, getD_both hun] at h1
        cases h1
      have h2 := wpOp_putIf hoj (hfree j oj hoj hji hjun hnot) (fun cs b => hsel i oi cs b hi) (fun cs b => hsel j oj cs b hoj) hQ hy h1
      have hfree' : ∀ k ok, ops[k]? = some ok → k ≠ i → (listed.setIfInBounds j true).getD k true = false →
          (∀ e ∈ ok.after, Region.binds md e = true → e.on ≠ i) → oi.apart ops ok = true := fun k ok hk hki hun hno => by
        refine hfree k ok hk hki ?_ hno
        by_cases hjk : j = k
        · subst hjk; exact hjun
        · rw [getD_set_ne true hjk] at hun; exact hun
      have hcomm := Array.setIfInBounds_comm true true hji (xs := listed)
      have hL : ∀ w', (((listed.setIfInBounds i true).setIfInBounds j true).getD L true = false → S w') → (listed.setIfInBounds j true).getD L true = false → S w' := fun w' h h' => h (by
        rw [← hcomm, getD_set_ne true hiL]; exact h')
      have hjL : j ≠ L := fun e => not_ready hw hun (e ▸ hj)
      have hLun : (listed.setIfInBounds j true).getD L true = false := by rw [getD_set_ne true hjL]; exact hS.1
      refine wpOp_mono (fun a' w' h3 => ⟨hL w' h3.2.1, ih (listed.setIfInBounds j true) a' w' hfree' (ready_mono hr (Ne.symm hji)) h3.1 ⟨hLun, hL w' h3.2.1 hLun⟩ ?_⟩) h2
      rw [hcomm]
      exact h3.2.2
theorem hldL_takeU {i f : Nat} {oi : Oper} {v : Value} {listed : Array Bool} {a : Act} {w : World} (hB : Region.noSelect ops = true) (hi : ops[i]? = some oi) (hiL : Nat.beq i L = false)
    (hf : Region.free .any ops listed i = true) (hr : (Region.ready .any ops listed).contains i = true) (hQ : ∀ c a w, Q (.panic c) (a.put oi.dst v) w → Q (.panic c) a w) (hy : YieldsIf P ops (fun _ => True) oi v a)
    (hS : listed.getD L true = false → S w) (h : hldL P .any ops Q S L f (listed.setIfInBounds i true) (a.put oi.dst v) w) : hldL P .any ops Q S L (f + 1) listed a w :=
  hldL_firstU hi (Region.noSelect_spec hB) hQ (fun e => by rw [e, Nat.beq_refl] at hiL; cases hiL) f listed a w (Region.free_spec hi hf) (by simpa using hr) hy hS h
theorem hldL_takeS {i f : Nat} {oi : Oper} {v : Value} {listed : Array Bool} {a : Act} {w : World} (hB : Region.noSelect ops = true) (hi : ops[i]? = some oi) (hiL : Nat.beq i L = false) (hw : Region.waitsFor .any ops L i = true)
    (hf : Region.free .any ops listed i = true) (hr : (Region.ready .any ops listed).contains i = true) (hun : listed.getD L true = false) (hQ : ∀ c a w, Q (.panic c) (a.put oi.dst v) w → Q (.panic c) a w) (hy : YieldsIf P ops S oi v a)
    (hS : S w) (h : hldL P .any ops Q S L f (listed.setIfInBounds i true) (a.put oi.dst v) w) : hldL P .any ops Q S L (f + 1) listed a w :=
  hldL_firstS hi (Region.noSelect_spec hB) hQ (fun e => by rw [e, Nat.beq_refl] at hiL; cases hiL) hw f listed a w (Region.free_spec hi hf) (by simpa using hr) hy ⟨hun, hS⟩ h
theorem hldL_one {i f : Nat} {o : Oper} {listed : Array Bool} {a : Act} {w : World} (hi : ops[i]? = some o) (hr : Region.ready md ops listed = [i])
    (h : ∀ K' : Act → World → Prop, Hid (∀ a w, ((listed.setIfInBounds i true).getD L true = false → S w) → (((listed.setIfInBounds i true).getD L true = false → S w) → hldL P md ops Q S L f (listed.setIfInBounds i true) a w) → K' a w) → if Region.wanted o (yielded ops a.tmps) = true then Oper.wp P o a w K' Q else K' (a.put o.dst undef) w) :
    hldL P md ops Q S L (f + 1) listed a w := by
  refine ⟨by rw [hr]; simp, fun j hj => ?_⟩
  rw [hr] at hj
  obtain rfl : j = i := by simpa using hj
  exact wpOp_step hi fun K' hK => h K' fun a w hS hW => hK a w ⟨hS, hW hS⟩
theorem hldL_done {f : Nat} {listed : Array Bool} {a : Act} {w : World} (hr : Region.ready md ops listed = []) (h : Q .normal a w) : hldL P md ops Q S L f listed a w := by
  cases f with
  | zero => exact ⟨hr, h⟩
  | succ f => exact ⟨fun _ => h, by rw [hr]; simp⟩
theorem wp_region_hldL {id : Nat} {a : Act} {w : World} (S : World → Prop) (L : Nat) (hm : P.follows .mixedOrders = true) (h : hldL P .any ops Q S L ops.size (Array.replicate ops.size false) a w.drew) : (Code.region id ops true).wp P Q a w :=
  wp_region_any hm (any_of_hldL _ _ _ _ h)
end
end Go.Proofs.Ytnplgagaoeckoaa
