/- Texts put together: PlBanfB. No condition. -/
import Derived.Test.YtdmobgdgeiiicaaRplhpbicjpr
import Derived.Test.YtdmobgdgeiiicaaRywumpyhsgf
namespace Go.Proofs.Ytdmobgdgeiiicaa
open Go.RowKit

theorem plain_of {l : List UInt8} (h : ∀ c, badC c → c ∉ l) : ∀ c ∈ l, plainC c = true ∧ c ≠ 10 := fun c hc => by
  refine ⟨Decidable.byContradiction fun e => ?_, fun e => by subst e; exact h 10 ⟨by decide, by decide⟩ hc⟩
  refine h c ?_ hc
  unfold plainC at e
  simp at e
  exact ⟨by omega, by omega⟩
theorem fed_count {L : List (List UInt8)} (h : ∀ l ∈ L, (10 : UInt8) ∉ l) : (fed L).count 10 = L.length := by
  induction L with
  | nil => rfl
  | cons x r ih =>
    have e : fed (x :: r) = (x ++ [10]) ++ fed r := rfl
    rw [e, List.count_append, List.count_append, ih fun l hl => h l (List.mem_cons_of_mem _ hl), List.count_eq_zero.2 (h x (List.mem_cons_self ..))]
    simp; omega
theorem fed_len {L : List (List UInt8)} {m : Nat} (h : ∀ l ∈ L, l.length ≤ m) : (fed L).length ≤ L.length * (m + 1) := by
  induction L with
  | nil => simp [fed]
  | cons x r ih =>
    have e : fed (x :: r) = (x ++ [10]) ++ fed r := rfl
    have h1 := ih fun l hl => h l (List.mem_cons_of_mem _ hl)
    have h2 := h x (List.mem_cons_self ..)
    rw [e, List.length_append, List.length_append, show (x :: r).length = r.length + 1 from rfl, Nat.add_mul]
    simp; omega
theorem fed_plain {L : List (List UInt8)} (h : ∀ l ∈ L, ∀ c ∈ l, plainC c = true ∧ c ≠ 10) : (fed L).all plainC = true := by
  rw [List.all_eq_true]
  intro c hc
  unfold fed at hc
  obtain ⟨l, hl, hm⟩ := List.mem_flatMap.1 hc
  rcases List.mem_append.1 hm with hm | hm
  · exact (h l hl c hm).1
  · rw [List.mem_singleton.1 hm]; decide
theorem linesL_bans {L : List (List UInt8)} (h : ∀ l ∈ L, ∀ c ∈ l, plainC c = true ∧ c ≠ 10) (hm : ∀ l ∈ L, l.length ≤ 99) (hn : L.length ≤ 60) : linesL (fed L) = (L, 0) := by
  have h10 : ∀ l ∈ L, (10 : UInt8) ∉ l := fun l hl hm => (h l hl 10 hm).2 rfl
  cases hL : L with
  | nil => rfl
  | cons x r =>
    rw [← hL]
    have hne : L ≠ [] := by rw [hL]; simp
    have h1 := fed_count h10
    have h2 := fed_len hm
    unfold linesL
    rw [if_neg (by omega), if_neg (by rw [fed_plain h]; simp)]
    rw [fed_join L hne, if_neg (by simp), if_neg (by simp), List.dropLast_concat, splitL_join 10 L hne h10]
theorem bf_lines {l : List Ba} (h : bfRight l) (hn : l.length ≤ 60) : linesL (fed (l.map baText)) = (l.map baText, 0) := by
  refine linesL_bans (fun t ht => ?_) (fun t ht => ?_) (by rw [List.length_map]; exact hn)
  · obtain ⟨b, hb, rfl⟩ := List.mem_map.1 ht
    exact plain_of fun c hc => baText_noC hc b (h.1 b hb).1
  · obtain ⟨b, hb, rfl⟩ := List.mem_map.1 ht
    exact baText_99 b (h.1 b hb).1
theorem bf_text {l : List Ba} (h : bfRight l) : bfText l = fed (l.map baText) := by
  unfold bfText; rw [List.filter_eq_self.2 fun b hb => (h.1 b hb).2]
/-- a right list is read of its text -/
theorem bfBack {l : List Ba} (h : bfRight l) (hn : l.length ≤ 60) (most : Int) : bfParse (bfText l) most = if l = [] ∨ (l.length : Int) ≤ most then (l, 0, 0) else ([], max most 0 + 1, 5) := by
  unfold bfParse
  rw [bf_text h, bf_lines h hn, if_neg (by simp)]
  have := bfGo_asc most l [] h
  simpa using this
/-- and of its lines the other way round -/
theorem bfBack_rev {l : List Ba} (h : bfRight l) (hn : l.length ≤ 60) {most : Int} (hm : (l.length : Int) ≤ max most 0) : bfParse (fed ((l.map baText).reverse)) most = (l, 0, 0) := by
  unfold bfParse
  have hl : linesL (fed ((l.map baText).reverse)) = ((l.map baText).reverse, 0) := by
    refine linesL_bans (fun t ht => ?_) (fun t ht => ?_) (by simp; exact hn)
    · obtain ⟨b, hb, rfl⟩ := List.mem_map.1 (List.mem_reverse.1 ht)
      exact plain_of fun c hc => baText_noC hc b (h.1 b hb).1
    · obtain ⟨b, hb, rfl⟩ := List.mem_map.1 (List.mem_reverse.1 ht)
      exact baText_99 b (h.1 b hb).1
  rw [hl, if_neg (by simp), ← List.map_reverse]
  by_cases hz : l = []
  · subst hz; rfl
  · have hp := List.length_pos_iff.2 hz
    have := bfGo_desc most l.reverse [] (by simpa using h) (by simp; omega)
    simpa using this
end Go.Proofs.Ytdmobgdgeiiicaa
