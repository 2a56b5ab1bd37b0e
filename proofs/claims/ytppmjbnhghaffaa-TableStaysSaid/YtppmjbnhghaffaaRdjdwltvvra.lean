/- Texts put together: TabU. No condition. -/
import Derived.Test.YtppmjbnhghaffaaRtgvqxrdjpy
import Derived.Test.YtppmjbnhghaffaaRxixmxfqcji
import Derived.Test.YtppmjbnhghaffaaRtipzmbwswn
import Derived.Test.YtppmjbnhghaffaaRhotjtwabcv
namespace Go.Proofs.Ytppmjbnhghaffaa
open Go.RowKit Go.Lib Go.Sort

theorem fdI_neg (l : List Pe) (e : En) : fdI l e < 0 ↔ ∀ y ∈ l, y.en ≠ e := by
  unfold fdI fnI
  cases h : l.findIdx? (fun p => decide (p.en = e)) with
  | none =>
    rw [List.findIdx?_eq_none_iff] at h
    exact ⟨fun _ y hy he => by have := h y hy; simp [he] at this, fun _ => by decide⟩
  | some i =>
    rw [List.findIdx?_eq_some_iff_getElem] at h
    obtain ⟨hi, h1, _⟩ := h
    exact ⟨fun h0 => absurd h0 (by simp), fun h0 => absurd (of_decide_eq_true h1) (h0 _ (List.getElem_mem _))⟩
theorem wo_ltEn : WO ltEn := wo_en
theorem pst_srt (l : List Pe) : pstL l = ssort ltEn l := by
  unfold pstL ssort
  exact (ssort_pst l []).symm
theorem pst_turn {l : List Pe} (h : Ones l) (k : Nat) : pstL (l.drop k ++ l.take k) = pstL l := by rw [pst_srt, pst_srt]; exact ones_same wo_ltEn h k
theorem pst_right {l : List Pe} (h : Ones l) : rgtT (pstL l) = true := by rw [rgtT_good, pst_srt]; exact ones_good h wo_ltEn
theorem pst_add {l : List Pe} (h : Ones l) {k : Nat} {x : Pe} (hx : l[k]? = some x) : addT (pstL (l.take k)) x = (pstL (l.take (k + 1)), 0) := by
  have h1 : peRight x = true := h.1 x (List.mem_of_getElem? hx)
  have h2 : fdI (pstL (l.take k)) x.en < 0 := by rw [fdI_neg, pst_srt]; exact ones_next h hx
  unfold addT
  rw [if_neg (by rw [h1]; decide), if_neg (by omega), List.take_add_one, hx, Option.toList_some, pstL_snoc]
theorem pst_rightK {l : List Pe} (h : Ones l) (k : Nat) : rgtT (pstL (l.take k)) = true := pst_right (ones_take h k)
theorem cnt_sum (l : List Pe) : cntL true l + cntL false l = l.length := by
  unfold cntL
  induction l with
  | nil => rfl
  | cons x r ih =>
    rw [List.filter_cons, List.filter_cons]
    cases hx : x.came with
    | true => rw [if_pos (by decide), if_neg (by decide)]; simp only [List.length_cons]; omega
    | false => rw [if_neg (by decide), if_pos (by decide)]; simp only [List.length_cons]; omega
theorem oneT_yes {a : List Pe} {x : Pe} (h1 : peRight x = true) (h2 : fdI a x.en < 0) : oneT a x = a ++ [x] := by unfold oneT; rw [if_pos ⟨h1, (fdI_neg _ _).1 h2⟩]
theorem oneT_no {a : List Pe} {x : Pe} (h : peRight x = false ∨ ¬ fdI a x.en < 0) : oneT a x = a := by
  unfold oneT
  rw [if_neg]
  rintro ⟨h1, h2⟩
  rcases h with h | h
  · rw [h1] at h; cases h
  · exact h ((fdI_neg _ _).2 h2)
end Go.Proofs.Ytppmjbnhghaffaa
