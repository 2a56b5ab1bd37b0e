/- The law of rank, plain: a list turned, and who is among the first. Conditions: ends unlike. -/
import Derived.Test.YtdjmejdfcceknaaRankF
import Derived.Test.YtdjmejdfcceknaaQ668131brtnvp
namespace Go.Proofs.Ytdjmejdfcceknaa

def rkP (q : Int) (s : Nat) (a b : Pe) : Bool := decide (rkFull a b q s < 0)
theorem wo_P (q : Int) (s : Nat) : WO (rkP q s) := wo_of (cmp_full q s)
theorem rk_total {q : Int} {s : Nat} {a b : Pe} (h : a.en ≠ b.en) : rkP q s a b = true ∨ rkP q s b a = true := by
  have hn := (cmp_full q s).neg a b
  have hz : rkFull a b q s ≠ 0 := by
    intro e
    unfold rkFull at e
    rw [orI_two] at e
    split at e
    · exact h (enCmp_zero e)
    · contradiction
  unfold rkP
  rcases Int.lt_or_le (rkFull a b q s) 0 with h1 | h1
  · exact Or.inl (decide_eq_true h1)
  · exact Or.inr (decide_eq_true (by omega))
theorem range_get (l : List Pe) : (List.range l.length).map (rkGet l) = l := by
  apply List.ext_getElem?
  intro i
  rw [List.getElem?_map]
  by_cases h : i < l.length
  · rw [List.getElem?_range h, List.getElem?_eq_getElem h]
    simp [rkGet, List.getElem?_eq_getElem h]
  · rw [List.getElem?_eq_none (by simp; omega), List.getElem?_eq_none (by omega)]; rfl
theorem idx_map (l : List Pe) (q : Int) : (rkIdx l q l.length).map (rkGet l) = l.filter fun p => rkCounts p q := by
  conv => rhs; rw [← range_get l]
  rw [List.filter_map]; rfl
theorem first_map (l : List Pe) (q n : Int) (s : Nat) : (rkFirst l q n s).map (rkGet l) = (ssort (rkP q s) (l.filter fun p => rkCounts p q)).take n.toNat := by
  unfold rkFirst
  rw [List.map_take, ssort_map (rkGet l) (rkLt l q s) (rkP q s) (fun _ _ => rfl), idx_map]
def Unlike (l : List Pe) : Prop := l.Pairwise fun a b => a.en ≠ b.en
/-- turned: the same peers, one by one -/
theorem first_turned (l : List Pe) (q n : Int) (s k : Nat) (h : Unlike l) : (rkFirst (l.drop k ++ l.take k) q n s).map (rkGet (l.drop k ++ l.take k)) = (rkFirst l q n s).map (rkGet l) := by
  rw [first_map, first_map, List.filter_append]
  congr 1
  conv => rhs; rw [← List.take_append_drop k l, List.filter_append]
  refine ssort_comm (wo_P q s) _ _ (fun x hx y hy => ?_)
  have hu : (l.take k ++ l.drop k).Pairwise fun a b => a.en ≠ b.en := by rw [List.take_append_drop]; exact h
  have := (List.pairwise_append.1 hu).2.2 y (List.mem_filter.1 hy).1 x (List.mem_filter.1 hx).1
  exact (rk_total this).symm
theorem idx_total (l : List Pe) (q : Int) (s : Nat) (h : Unlike l) : (rkIdx l q l.length).Pairwise fun a b => rkLt l q s a b = true ∨ rkLt l q s b a = true := by
  have h1 : (l.filter fun p => rkCounts p q).Pairwise fun a b => a.en ≠ b.en := List.Pairwise.filter _ h
  rw [← idx_map, List.pairwise_map] at h1
  exact h1.imp fun {a b} hab => rk_total hab
theorem filter_range (l : List Pe) (f : Pe → Bool) : (l.filter f).length = ((List.range l.length).filter fun y => f (rkGet l y)).length := by
  conv => lhs; rw [← range_get l]
  rw [List.filter_map, List.length_map]; rfl
/-- who is among the first -/
theorem first_mem (l : List Pe) (q n : Int) (s i : Nat) (h : Unlike l) (hi : i < l.length) : (i ∈ rkFirst l q n s) ↔ (rkCounts (rkGet l i) q && decide (((rkN l (rkGet l i) q s l.length : Nat) : Int) < n)) = true := by
  by_cases hc : rkCounts (rkGet l i) q = true
  · have hx : i ∈ rkIdx l q l.length := List.mem_filter.2 ⟨List.mem_range.2 hi, hc⟩
    have e : (rkIdx l q l.length).filter (fun y => rkLt l q s y i) = (List.range l.length).filter fun y => rkCounts (rkGet l y) q && rkLt l q s y i := by
      unfold rkIdx; rw [List.filter_filter]; congr 1; funext y; rw [Bool.and_comm]
    have e2 : ((List.range l.length).filter fun y => rkCounts (rkGet l y) q && rkLt l q s y i).length = rkN l (rkGet l i) q s l.length := by
      unfold rkN
      rw [List.take_length]
      rw [filter_range l]
      congr 1
      apply List.filter_congr
      intro y _
      cases hy : rkCounts (rkGet l y) q with
      | false => simp
      | true =>
        have := counts_in hy
        rw [rkAhead_in this.1 this.2]; rfl
    unfold rkFirst
    rw [first_iff (wo_lt l q s) (idx_total l q s h) n.toNat hx, e, e2, hc, Bool.true_and, decide_eq_true_eq]
    omega
  · constructor
    · intro hm
      unfold rkFirst at hm
      have := (ssort_mem _).1 (List.mem_of_mem_take hm)
      exact absurd (List.mem_filter.1 this).2 hc
    · intro hm
      rw [Bool.and_eq_true] at hm
      exact absurd hm.1 hc
end Go.Proofs.Ytdjmejdfcceknaa
