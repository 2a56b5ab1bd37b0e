/- Texts put together: PlConfB. No condition. -/
import Derived.Test.YtnohkfbapibmdaaRxnutadlkyx
import Derived.Test.YtnohkfbapibmdaaRxpqsnuaoqd
namespace Go.Proofs.Ytnohkfbapibmdaa
open Go.RowKit

theorem cfParse_no {s : List UInt8} (h : (cfParse s).2.2 ≠ 0) : (cfParse s).1 = zeroCf := by
  unfold cfParse cfGo at *
  split
  · rfl
  · rename_i h0
    rw [if_neg h0] at h
    cases hr : rdRows 0 cfWords (linesL s).1 with
    | error k => rfl
    | ok xs =>
      rw [hr] at h
      simp only at h ⊢
      unfold cfDone at *
      split
      · rfl
      · rename_i h1
        rw [if_neg h1] at h
        split
        · rename_i h2; rw [if_pos h2] at h; exact absurd rfl h
        · rfl
theorem cfNums_len (c : Cf) : (cfNums c).length = 16 := rfl
theorem cfOf_nums (c : Cf) : cfOf (fun i => (cfNums c).getD i 0) = c := by
  cases c; simp [cfOf, cfNums]
theorem cfNums_of (xs : List Int) (h : xs.length = 16) (h5 : 0 ≤ xs.getD 5 0) : cfNums (cfOf fun i => xs.getD i 0) = xs := by
  match xs, h with
  | [a0, a1, a2, a3, a4, a5, a6, a7, a8, a9, a10, a11, a12, a13, a14, a15], _ =>
    simp [cfNums, cfOf] at h5 ⊢; omega
theorem rdRows_zip (k : Nat) (ws : List (List UInt8)) (ns : List Int) (hl : ws.length = ns.length) (h : ∀ n ∈ ns, 0 ≤ n ∧ n ≤ 9223372036854775807) : rdRows k ws (List.zipWith cfLine ws ns) = .ok ns := by
  induction ws generalizing ns k with
  | nil => cases ns with
    | nil => rfl
    | cons n ns => simp at hl
  | cons w ws ih =>
    cases ns with
    | nil => simp at hl
    | cons n ns =>
      have hn := h n (by simp)
      rw [List.zipWith_cons_cons]
      unfold rdRows
      rw [rdRow_of hn.1 hn.2]
      simp only
      rw [ih (k + 1) ns (by simpa using hl) (fun m hm => h m (by simp [hm]))]
theorem cfNums_ok {c : Cf} (h : cfRight c = true) : ∀ n ∈ cfNums c, 0 ≤ n ∧ n ≤ 9223372036854775807 := by
  have h' := (cfRight_iff c).1 h
  intro n hn
  simp only [cfNums, List.mem_cons, List.not_mem_nil, or_false] at hn
  rcases hn with rfl | rfl | rfl | rfl | rfl | rfl | rfl | rfl | rfl | rfl | rfl | rfl | rfl | rfl | rfl | rfl <;> omega
/-- a byte that a line of a conf may have -/
def okB (c : UInt8) : Bool := plainC c && !(c == 10)
theorem digs_ok (n : Nat) : (digs n).all okB = true := by
  rw [List.all_eq_true]
  intro c hc
  have := digs_isDig n c hc
  unfold isDig at this
  unfold okB plainC
  have h1 : c ≠ 10 := by rintro rfl; simp at this
  simp at this ⊢
  refine ⟨Or.inr (by omega), h1⟩
theorem cfLine_ok {w : List UInt8} {n : Int} (hw : w.all okB = true) (hn : 0 ≤ n) : (cfLine w n).all okB = true := by
  unfold cfLine decText
  rw [if_neg (by omega), List.all_append, List.all_cons, hw, digs_ok]
  rfl
theorem cfLines_ok {c : Cf} (h : cfRight c = true) : ∀ l ∈ cfLines c, l.all okB = true ∧ l.length ≤ 40 := by
  have hn := cfNums_ok h
  intro l hl
  unfold cfLines at hl
  obtain ⟨i, hi⟩ := List.mem_iff_getElem?.1 hl
  rw [List.getElem?_zipWith] at hi
  cases hw : cfWords[i]? with
  | none => rw [hw] at hi; simp at hi
  | some w =>
    cases hx : (cfNums c)[i]? with
    | none => rw [hw, hx] at hi; simp at hi
    | some x =>
      rw [hw, hx] at hi
      simp at hi
      subst hi
      have hx' := hn x (List.mem_of_getElem? hx)
      have hw' : ∀ w ∈ cfWords, w.all okB = true ∧ w.length ≤ 6 := by decide
      have hw2 := hw' w (List.mem_of_getElem? hw)
      refine ⟨cfLine_ok hw2.1 hx'.1, ?_⟩
      have := decText_len x (by omega) (by omega)
      unfold cfLine; simp; omega
theorem okB_ne {l : List UInt8} (h : l.all okB = true) : (10 : UInt8) ∉ l := by
  intro hm
  have := List.all_eq_true.1 h 10 hm
  exact absurd this (by decide)
theorem okB_plain {l : List UInt8} (h : l.all okB = true) : l.all plainC = true := by
  rw [List.all_eq_true] at *
  intro c hc
  have := h c hc
  unfold okB at this
  simp at this; exact this.1
theorem joinL_plain {L : List (List UInt8)} (h : ∀ l ∈ L, l.all plainC = true) : (joinL 10 L).all plainC = true := by
  induction L with
  | nil => rfl
  | cons x r ih =>
    cases r with
    | nil => rw [joinL_one]; exact h x (by simp)
    | cons y r =>
      rw [joinL_cons, List.all_append, List.all_cons, h x (by simp), ih (fun l hl => h l (by simp [hl]))]
      rfl
theorem linesL_fed {L : List (List UInt8)} (hne : L ≠ []) (h : ∀ l ∈ L, l.all okB = true) (hlen : (fed L).length ≤ 4096) : linesL (fed L) = (L, 0) := by
  have hf := fed_join L hne
  rw [hf] at hlen ⊢
  have hc : (joinL 10 L ++ [10]).count 10 ≤ (joinL 10 L ++ [10]).length := List.count_le_length
  unfold linesL
  rw [if_neg (by omega), if_neg (by rw [List.all_append, joinL_plain (fun l hl => okB_plain (h l hl))]; simp; decide), if_neg (by simp), if_neg (by simp), List.dropLast_concat, splitL_join 10 L hne (fun x hx => okB_ne (h x hx))]
theorem cfParse_text (c : Cf) (h : cfRight c = true) : cfParse (cfText c) = (c, 0, 0) := by
  have hl := cfLines_ok h
  have hlen : (fed (cfLines c)).length ≤ 4096 := by
    rw [fed_join _ (by simp [cfLines, cfWords, cfNums])]
    have := joinL_len 10 (cfLines c) 16 40 (fun x hx => (hl x hx).2) (by simp [cfLines, cfWords, cfNums])
    simp; omega
  unfold cfParse cfText
  rw [if_pos h, linesL_fed (by simp [cfLines, cfWords, cfNums]) (fun l hl' => (hl l hl').1) hlen]
  unfold cfGo
  simp only [ne_eq, not_true_eq_false, if_false]
  rw [show cfLines c = List.zipWith cfLine cfWords (cfNums c) from rfl, rdRows_zip 0 cfWords (cfNums c) rfl (cfNums_ok h)]
  simp only
  unfold cfDone
  rw [cfOf_nums, if_neg (by simp [cfWords, cfNums]), if_pos h]
theorem cfParse_ok {s : List UInt8} (h : (cfParse s).2.2 = 0) : cfRight (cfParse s).1 = true ∧ cfText (cfParse s).1 = s := by
  unfold cfParse cfGo at *
  by_cases h0 : (linesL s).2 ≠ 0
  · rw [if_pos h0] at h; exact absurd h h0
  rw [if_neg h0] at h ⊢
  cases hr : rdRows 0 cfWords (linesL s).1 with
  | error k => rw [hr] at h; simp at h
  | ok xs =>
    rw [hr] at h
    simp only at h ⊢
    obtain ⟨hrd, hxl⟩ := rdRows_ok hr
    unfold cfDone at *
    by_cases hm : decide (16 < (linesL s).1.length) = true
    · rw [if_pos hm] at h; simp at h
    rw [if_neg hm] at h ⊢
    by_cases hg : cfRight (cfOf fun i => xs.getD i 0) = true
    · rw [if_pos hg] at h ⊢
      refine ⟨hg, ?_⟩
      have hxl' : xs.length = 16 := hxl
      have hl16 : (linesL s).1.length = 16 := by have := hrd.2.1; simp at hm; omega
      have hx5 : 0 ≤ xs.getD 5 0 := by
        obtain ⟨w, l, x, _, _, hx, hrow⟩ := hrd.2.2 5 (by omega)
        rw [List.getD_eq_getElem?_getD, hx]
        exact (rdRow_line hrow).2.1
      have hlines : (linesL s).1 = cfLines (cfOf fun i => xs.getD i 0) := by
        unfold cfLines
        rw [cfNums_of xs hxl' hx5]
        apply List.ext_getElem?
        intro i
        rw [List.getElem?_zipWith]
        by_cases hi : i < 16
        · obtain ⟨w, l, x, hw, hl, hx, hrow⟩ := hrd.2.2 i (by omega)
          rw [hw, hl, hx]
          simp only
          rw [(rdRow_line hrow).1]
        · rw [List.getElem?_eq_none (by omega), List.getElem?_eq_none (l := cfWords) (by show 16 ≤ i; omega)]
      unfold cfText
      rw [if_pos hg, ← hlines]
      have hne : (linesL s).1 ≠ [] := by intro e; rw [e] at hl16; simp at hl16
      rw [fed_join _ hne]
      unfold linesL at *
      split at hne
      · exact absurd rfl hne
      · rename_i c1
        rw [if_neg c1] at *
        split at hne
        · exact absurd rfl hne
        · rename_i c2
          rw [if_neg c2] at *
          split at hne
          · exact absurd rfl hne
          · rename_i c3
            rw [if_neg c3] at *
            split at hne
            · exact absurd rfl hne
            · rename_i c4
              rw [if_neg c4]
              simp only
              rw [joinL_split]
              have := Classical.not_not.1 c4
              obtain ⟨t, rfl⟩ := List.getLast?_eq_some_iff.1 this
              rw [List.dropLast_concat]
    · rw [if_neg hg] at h; simp at h
end Go.Proofs.Ytnohkfbapibmdaa
