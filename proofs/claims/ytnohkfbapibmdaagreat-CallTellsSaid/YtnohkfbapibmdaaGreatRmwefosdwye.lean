/- Texts put together: PlCallR. No condition. -/
import Derived.Test.YtnohkfbapibmdaaGreatRjgcfepyuoq
namespace Go.Proofs.YtnohkfbapibmdaaGreat
open Go.RowKit

def letterOf (p : Nat) : UInt8 := match p with | 0 => 101 | 1 => 110 | 2 => 97 | 3 => 116 | 4 => 107 | _ => 103
def shapeL (k : Int) : List UInt8 := (clParts k).map letterOf
def rSpan (k : Int) : Int × Int := if k = 5 then (1, 5) else if k = 6 then (1, 1099511627776) else if k = 11 then (1, 1048576) else (0, 1073741824)
theorem rSpan_eq {k : Int} (h : 4 ∈ clParts k) : rSpan k = clSpan k := by
  unfold clParts at h
  split at h
  · simp at h
  split at h
  · simp at h
  split at h
  · simp at h
  split at h
  · rename_i e; subst e; decide
  split at h
  · rename_i e; subst e; decide
  split at h
  · rename_i e; subst e; decide
  split at h
  · simp at h
  split at h
  · simp at h
  split at h
  · rename_i e; subst e; decide
  · simp at h
theorem parts_out {k : Int} (h : ¬ (1 ≤ k ∧ k ≤ 13)) : clParts k = [] := by
  unfold clParts
  rw [if_neg (by omega), if_neg (by omega), if_neg (by omega), if_neg (by omega), if_neg (by omega), if_neg (by omega), if_neg (by omega), if_neg (by omega), if_neg (by omega)]
theorem right_range (c : Cl) : clRight c = (decide (1 ≤ c.kind ∧ c.kind ≤ 13) && (clParts c.kind).all (clRight1 c)) := by
  unfold clRight
  congr 1
  exact decide_eq_decide.2 (named_iff _)
theorem clean_in {c : Cl} (h : 1 ≤ c.kind ∧ c.kind ≤ 13) : clClean c = (clParts c.kind).foldl (clPut c) (zeroCl c.kind) := by
  unfold clClean; rw [if_neg ((named_iff _).2 h)]
theorem clean_out {c : Cl} (h : ¬ (1 ≤ c.kind ∧ c.kind ≤ 13)) : clClean c = zeroCl 0 := by
  unfold clClean; rw [if_pos (Decidable.byContradiction fun e => h ((named_iff _).1 e))]
/-- the text behind so many parts -/
def growText (c : Cl) (k : Nat) : List UInt8 := joinL 32 (nameAt callN c.kind :: ((clParts c.kind).take k).map (clWritten c))
theorem joinL_end (b : UInt8) (a : List UInt8) (l : List (List UInt8)) (x : List UInt8) : joinL b (a :: (l ++ [x])) = joinL b (a :: l) ++ b :: x := joinL_snoc b (a :: l) x (by simp)
theorem growText_zero (c : Cl) : growText c 0 = nameAt callN c.kind := by unfold growText; simp [joinL_one]
theorem growText_succ (c : Cl) {k p : Nat} (h : (clParts c.kind)[k]? = some p) : growText c (k + 1) = growText c k ++ 32 :: clWritten c p := by
  unfold growText
  rw [List.take_add_one, h, Option.toList_some, List.map_append, List.map_cons, List.map_nil, joinL_end]
theorem growText_all (c : Cl) : growText c (clParts c.kind).length = clText c := by
  unfold growText clText
  rw [List.take_length]
  split
  · rename_i h
    have : ¬ (1 ≤ c.kind ∧ c.kind ≤ 13) := fun e => (named_iff _).2 e h
    rw [parts_out this, h]; exact joinL_one 32 []
  · rfl
/-- a net, an address that are not read -/
theorem ntBad {s : List UInt8} (h : (ntParse s).2 = false) : (ntParse s).1.ad = ⟨false, 0, 0⟩ := by rw [(ntParse_ok s).2.2 h]; rfl
theorem decNone (most : Int) : (decParse [] most).2 = false := by unfold decParse; simp
end Go.Proofs.YtnohkfbapibmdaaGreat
