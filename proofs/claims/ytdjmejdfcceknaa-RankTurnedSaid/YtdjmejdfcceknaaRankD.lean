/- The contract of rank.First: the places of those that count, as they stand, cut. Conditions: numbers are 64 bits. -/
import Derived.Test.YtdjmejdfcceknaaRankC
import Derived.Test.YtdjmejdfcceknaaSortN
import Derived.Test.YtdjmejdfcceknaaSortK
import Derived.Test.YtdjmejdfcceknaaAppend
namespace Go.Proofs.Ytdjmejdfcceknaa
open Go.RowKit

def zPe : Pe := ⟨⟨⟨false, 0, 0⟩, 0⟩, false, 0, 0, 0, 0, 0⟩
def rkGet (l : List Pe) (i : Nat) : Pe := l[i]?.getD zPe
def rkLt (l : List Pe) (q : Int) (s : Nat) (i k : Nat) : Bool := decide (rkFull (rkGet l i) (rkGet l k) q s < 0)
def rkIdx (l : List Pe) (q : Int) (k : Nat) : List Nat := (List.range k).filter fun i => rkCounts (rkGet l i) q
def rkFirst (l : List Pe) (q n : Int) (s : Nat) : List Nat := (ssort (rkLt l q s) (rkIdx l q l.length)).take n.toNat
abbrev Ix (l : List Pe) := {i : Nat // i < l.length}
def ixV (l : List Pe) (i : Ix l) : Value := .int .i64 (i.1 : Int)
def natV (i : Nat) : Value := .int .i64 (i : Int)
theorem rkGet_at {l : List Pe} {i : Nat} {p : Pe} (h : l[i]? = some p) : rkGet l i = p := by unfold rkGet; rw [h]; rfl
theorem rkIdx_succ (l : List Pe) (q : Int) (k : Nat) : rkIdx l q (k + 1) = rkIdx l q k ++ (if rkCounts (rkGet l k) q = true then [k] else []) := by
  unfold rkIdx; rw [List.range_succ, List.filter_append]; congr 1
  simp only [List.filter_cons, List.filter_nil]
theorem sput_map {α β : Type} (f : α → β) (lt : α → α → Bool) (lt' : β → β → Bool) (h : ∀ x y, lt x y = lt' (f x) (f y)) (x : α) : ∀ l : List α, (sput lt x l).map f = sput lt' (f x) (l.map f)
  | [] => rfl
  | y :: r => by
    simp only [sput, List.map_cons, h x y]
    split
    · rfl
    · rw [List.map_cons, sput_map f lt lt' h x r]
theorem ssort_map {α β : Type} (f : α → β) (lt : α → α → Bool) (lt' : β → β → Bool) (h : ∀ x y, lt x y = lt' (f x) (f y)) (l : List α) : (ssort lt l).map f = ssort lt' (l.map f) := by
  rw [← List.reverse_reverse l]
  induction l.reverse with
  | nil => rfl
  | cons x r ih => rw [List.reverse_cons, ssort_snoc, sput_map f lt lt' h, ih, List.map_append, List.map_cons, List.map_nil, ssort_snoc]
/-- the order that First sorts by, a weak one -/
theorem cmp_full (q : Int) (s : Nat) : Cmp fun a b : Pe => rkFull a b q s := by
  have h : Cmp fun a b : Pe => rkCmp a b q s := by
    unfold rkCmp
    by_cases h1 : q = 1
    · simp only [if_pos h1]
      have e : (fun a b : Pe => cmpI (rkKey b s) (rkKey a s)) = fun a b : Pe => cmpI (-(rkKey a s : Int)) (-(rkKey b s : Int)) := by
        funext a b; unfold cmpI; repeat' split
        all_goals omega
      rw [e]; exact cmp_on cmp_int (fun a : Pe => -(rkKey a s : Int))
    simp only [if_neg h1]
    by_cases h2 : q = 2
    · simp only [if_pos h2]; exact cmp_on cmp_int (fun a : Pe => a.ping)
    simp only [if_neg h2]
    by_cases h3 : q = 3
    · simp only [if_pos h3]
      have e : (fun a b : Pe => cmpI b.work a.work) = fun a b : Pe => cmpI (-a.work) (-b.work) := by
        funext a b; unfold cmpI; repeat' split
        all_goals omega
      rw [e]; exact cmp_on cmp_int (fun a : Pe => -a.work)
    simp only [if_neg h3]
    by_cases h4 : q = 4
    · simp only [if_pos h4]; exact cmp_on cmp_int (fun a : Pe => a.since)
    · simp only [if_neg h4]; exact ⟨fun _ _ => rfl, fun _ _ _ _ _ => by omega⟩
  have h2 := cmp_then h (cmp_on cmp_en (fun a : Pe => a.en))
  have e : (fun a b : Pe => rkFull a b q s) = _ := funext fun a => funext fun b => orI_two (rkCmp a b q s) (enCmp a.en b.en)
  rw [e]; exact h2
theorem wo_of {α : Type} {c : α → α → Int} (C : Cmp c) : WO fun a b => decide (c a b < 0) := by
  constructor
  · intro a b d h1 h2
    have h1 : c a b < 0 := by simpa using h1
    have h2 : c b d < 0 := by simpa using h2
    exact decide_eq_true (C.le_eq h1 (show c b d ≤ 0 by omega))
  · intro a b d h1 h2
    have h1 : ¬ c a b < 0 := by simpa using h1
    have h2 : ¬ c b d < 0 := by simpa using h2
    have := C.trans d b a (by rw [C.neg b d]; omega) (by rw [C.neg a b]; omega)
    exact decide_eq_false (by rw [C.neg d a]; omega)
  · intro a b h1
    have h1 : c a b < 0 := by simpa using h1
    exact decide_eq_false (by rw [C.neg a b]; omega)
theorem wo_lt (l : List Pe) (q : Int) (s : Nat) : WO (rkLt l q s) := wo_of (cmp_on (cmp_full q s) (rkGet l))
end Go.Proofs.Ytdjmejdfcceknaa
