/- A peer stored into a row of the call's own. No condition. -/
import Derived.Test.YtdjmejdfcceknaaPeM
import Derived.Test.YtdjmejdfcceknaaQa02d1ebzaeuf
import Derived.Laws.OwnMore
namespace Go.Proofs.Ytdjmejdfcceknaa
open Go.RowKit

def setManyP (xs : List Value) (k : Nat) : List Value → List Value
  | [] => xs
  | u :: us => setManyP (xs.set k u) (k + 1) us
theorem setManyP_get (us : List Value) : ∀ (xs : List Value) (k j : Nat), k + us.length ≤ xs.length → (setManyP xs k us)[j]? = if k ≤ j ∧ j < k + us.length then us[j - k]? else xs[j]? := by
  induction us with
  | nil => intro xs k j _; unfold setManyP; rw [if_neg (by simp only [List.length_nil]; omega)]
  | cons u us ih =>
    intro xs k j h
    simp only [List.length_cons] at h ⊢
    unfold setManyP
    rw [ih _ _ _ (by simp; omega)]
    by_cases h1 : k + 1 ≤ j ∧ j < k + 1 + us.length
    · rw [if_pos h1, if_pos (by omega), show j - k = (j - (k + 1)) + 1 from by omega, List.getElem?_cons_succ]
    · rw [if_neg h1]
      by_cases h2 : j = k
      · subst h2; rw [if_pos (by omega), List.getElem?_set_self (by omega)]; simp
      · rw [if_neg (by omega), List.getElem?_set_ne (fun e => h2 e.symm)]
theorem pe_set (l : List Pe) (i : Nat) (x : Pe) (hi : i < l.length) : (l.set i x).flatMap peV = setManyP (l.flatMap peV) (i * 10) (peV x) := by
  apply List.ext_getElem?
  intro j
  have hle : i * 10 + 10 ≤ l.length * 10 := by omega
  rw [setManyP_get _ _ _ _ (by rw [peV_len, pes_len]; exact hle), peV_len]
  have hj : j = (j / 10) * 10 + j % 10 := by omega
  have hm : j % 10 < 10 := Nat.mod_lt _ (by omega)
  by_cases h1 : i * 10 ≤ j ∧ j < i * 10 + 10
  · rw [if_pos h1]
    have hq : j / 10 = i := by omega
    rw [hq] at hj
    conv => lhs; rw [hj]
    rw [flat_get peV 10 peV_len (l.set i x) i x (by simp [hi]) _ hm]
    congr 1; omega
  · rw [if_neg h1]
    have hq : j / 10 ≠ i := by omega
    rcases Nat.lt_or_ge (j / 10) l.length with hl | hl
    · conv => lhs; rw [hj]
      conv => rhs; rw [hj]
      rw [flat_get peV 10 peV_len (l.set i x) (j / 10) (l[j / 10]'hl) (by rw [List.getElem?_set_ne (fun e => hq e.symm)]; exact List.getElem?_eq_getElem hl) _ hm, flat_get peV 10 peV_len l (j / 10) _ (List.getElem?_eq_getElem hl) _ hm]
    · have hge : l.length * 10 ≤ j := by omega
      rw [List.getElem?_eq_none (by rw [pes_len]; simpa using hge), List.getElem?_eq_none (by rw [pes_len]; exact hge)]
theorem own_setP {w : World} {base g n cap : Nat} {e : TypeId} {l : List Pe} (h : w.ownsRow base e 10 (.slice (some ⟨g, 0, none⟩) n cap) n (l.flatMap peV)) (i : Nat) (p : Pe) (hi : i < l.length) :
    ((((((((((w.setCell ⟨g, i * 10, none⟩ (.bool p.en.ad.v6)).setCell ⟨g, i * 10 + 1, none⟩ (.int .u64 p.en.ad.hi)).setCell ⟨g, i * 10 + 2, none⟩ (.int .u64 p.en.ad.lo)).setCell ⟨g, i * 10 + 3, none⟩ (.int .i64 p.en.port)).setCell ⟨g, i * 10 + 4, none⟩ (.bool p.came)).setCell ⟨g, i * 10 + 5, none⟩ (.int .i64 p.since)).setCell ⟨g, i * 10 + 6, none⟩ (.int .i64 p.pts)).setCell ⟨g, i * 10 + 7, none⟩ (.int .i64 p.at_)).setCell ⟨g, i * 10 + 8, none⟩ (.int .i64 p.ping)).setCell ⟨g, i * 10 + 9, none⟩ (.int .i64 p.work)).ownsRow base e 10 (.slice (some ⟨g, 0, none⟩) n cap) n ((l.set i p).flatMap peV) ∧
    w.grownBy ((((((((((w.setCell ⟨g, i * 10, none⟩ (.bool p.en.ad.v6)).setCell ⟨g, i * 10 + 1, none⟩ (.int .u64 p.en.ad.hi)).setCell ⟨g, i * 10 + 2, none⟩ (.int .u64 p.en.ad.lo)).setCell ⟨g, i * 10 + 3, none⟩ (.int .i64 p.en.port)).setCell ⟨g, i * 10 + 4, none⟩ (.bool p.came)).setCell ⟨g, i * 10 + 5, none⟩ (.int .i64 p.since)).setCell ⟨g, i * 10 + 6, none⟩ (.int .i64 p.pts)).setCell ⟨g, i * 10 + 7, none⟩ (.int .i64 p.at_)).setCell ⟨g, i * 10 + 8, none⟩ (.int .i64 p.ping)).setCell ⟨g, i * 10 + 9, none⟩ (.int .i64 p.work)) (some g) := by
  rw [pe_set l i p hi]
  obtain ⟨h0, g0⟩ := h.stored (i * 10) (.bool p.en.ad.v6)
  obtain ⟨h1, g1⟩ := h0.stored (i * 10 + 1) (.int .u64 p.en.ad.hi)
  obtain ⟨h2, g2⟩ := h1.stored (i * 10 + 2) (.int .u64 p.en.ad.lo)
  obtain ⟨h3, g3⟩ := h2.stored (i * 10 + 3) (.int .i64 p.en.port)
  obtain ⟨h4, g4⟩ := h3.stored (i * 10 + 4) (.bool p.came)
  obtain ⟨h5, g5⟩ := h4.stored (i * 10 + 5) (.int .i64 p.since)
  obtain ⟨h6, g6⟩ := h5.stored (i * 10 + 6) (.int .i64 p.pts)
  obtain ⟨h7, g7⟩ := h6.stored (i * 10 + 7) (.int .i64 p.at_)
  obtain ⟨h8, g8⟩ := h7.stored (i * 10 + 8) (.int .i64 p.ping)
  obtain ⟨h9, g9⟩ := h8.stored (i * 10 + 9) (.int .i64 p.work)
  exact ⟨h9, (((((((((g0.trans g1).trans g2).trans g3).trans g4).trans g5).trans g6).trans g7).trans g8).trans g9)⟩
theorem own_pe {w : World} {base g n cap : Nat} {e : TypeId} {l : List Pe} (h : w.ownsRow base e 10 (.slice (some ⟨g, 0, none⟩) n cap) n (l.flatMap peV)) {i : Nat} {x : Pe} (hx : l[i]? = some x) : PeIn w g (i * 10) x := by
  have hn : n * 10 = l.length * 10 := by rw [← h.1, pes_len]
  have hi := (List.getElem?_eq_some_iff.1 hx).1
  have c := fun (j : Nat) (u : Value) (hj : j < 10) (hu : (peV x)[j]? = some u) => (h.cellAt (i * 10 + j) (by omega)).trans ((flat_get peV 10 peV_len l i x hx j hj).trans hu)
  exact ⟨c 0 _ (by omega) rfl, c 1 _ (by omega) rfl, c 2 _ (by omega) rfl, c 3 _ (by omega) rfl, c 4 _ (by omega) rfl, c 5 _ (by omega) rfl, c 6 _ (by omega) rfl, c 7 _ (by omega) rfl, c 8 _ (by omega) rfl, c 9 _ (by omega) rfl⟩
theorem own_blk {w : World} {base g n cap : Nat} {e : TypeId} {size : Nat} {xs : List Value} (h : w.ownsRow base e size (.slice (some ⟨g, 0, none⟩) n cap) n xs) : ∃ arr, BlockIs w g arr e := by
  rcases h.2 with ⟨h1, _⟩ | ⟨g', cap', cur, h1, _, hh, _⟩
  · cases h1
  · injection h1 with e1 _ _
    injection e1 with e1
    injection e1 with e1
    subst e1
    exact ⟨cur.toList, by unfold BlockIs; rw [hh]⟩
theorem blk_far {w w' : World} {B g : Nat} {arr : List Value} {T : TypeId} (h : BlockIs w B arr T) (hg : w.grownBy w' (some g)) (hne : B ≠ g) : BlockIs w' B arr T := by
  unfold BlockIs at *
  rw [hg.block B (BlockIs.lt (show BlockIs w B arr T from h)) (fun e => hne (by injection e))]; exact h
theorem below_far {w0 w w' : World} {base g : Nat} (h : Below base w0 w) (hg : w.grownBy w' (some g)) (hb : base ≤ g) (hl : g < w.heap.size) : Below base w0 w' :=
  ⟨hg.os.trans h.os, hg.tape.trans h.tape, hg.output.trans h.output, Nat.le_trans h.size hg.size, fun k hk => by
    rw [hg.block k (by omega) (fun e => by injection e with e; omega)]; exact h.block k hk⟩
theorem perm_swap {l : List Pe} {i : Nat} {p r : Pe} (hp : l[i]? = some p) (hr : l[i + 1]? = some r) : ((l.set i r).set (i + 1) p).Perm l := by
  have hi := (List.getElem?_eq_some_iff.1 hr).1
  have e : l = l.take i ++ p :: r :: l.drop (i + 2) := by
    conv => lhs; rw [← List.take_append_drop i l]
    rw [List.drop_eq_getElem_cons (show i < l.length by omega), List.drop_eq_getElem_cons hi, (List.getElem?_eq_some_iff.1 hp).2, (List.getElem?_eq_some_iff.1 hr).2]
  have hl : (l.take i).length = i := by rw [List.length_take]; omega
  have e2 : (l.set i r).set (i + 1) p = l.take i ++ r :: p :: l.drop (i + 2) := by
    conv => lhs; rw [e]
    rw [List.set_append_right _ _ (by omega), hl, Nat.sub_self, List.set_cons_zero, List.set_append_right _ _ (by omega), hl, Nat.add_sub_cancel_left, List.set_cons_succ, List.set_cons_zero]
  rw [e2]
  conv => rhs; rw [e]
  exact List.Perm.append_left _ (List.Perm.swap p r _)
end Go.Proofs.Ytdjmejdfcceknaa
