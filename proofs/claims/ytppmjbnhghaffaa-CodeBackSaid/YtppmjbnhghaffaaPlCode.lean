/- The names of numbers, as plain lists of bytes. No condition. -/
import Derived.Test.YtppmjbnhghaffaaPl
namespace Go.Proofs.Ytppmjbnhghaffaa
open Go.RowKit
def errN : List (List UInt8) := [[111, 107], [97, 114, 103], [102, 111, 114, 109], [114, 97, 110, 103, 101], [108, 111, 110, 103], [102, 117, 108, 108], [110, 111, 110, 101], [116, 119, 105, 99, 101], [98, 97, 110, 110, 101, 100], [115, 116, 97, 116, 101]]
def callN : List (List UInt8) := [[], [97, 99, 99, 101, 112, 116], [108, 101, 97, 118, 101], [100, 105, 97, 108], [114, 101, 115, 117, 108, 116], [98, 108, 97, 109, 101], [98, 97, 110], [117, 110, 98, 97, 110], [98, 97, 110, 110, 101, 100], [116, 105, 99, 107], [108, 105, 115, 116], [112, 111, 110, 103], [119, 111, 114, 107], [108, 101, 97, 114, 110]]
def opN : List (List UInt8) := [[], [108, 111, 99, 107], [115, 104, 97, 114, 101], [102, 114, 101, 101], [100, 114, 111, 112], [108, 111, 97, 100], [115, 116, 111, 114, 101], [115, 119, 97, 112], [112, 97, 115, 115]]
def locN : List (List UInt8) := [[], [105, 110], [111, 117, 116], [98, 97, 110, 115], [98, 111, 111, 107], [115, 105, 122, 101], [115, 108, 111, 116]]
/-- what stands at a place of a table; empty: there is none -/
def nameAt (L : List (List UInt8)) (n : Int) : List UInt8 := if 0 ≤ n ∧ n < L.length then L.getD n.toNat [] else []
theorem nameAt_lo {L : List (List UInt8)} {n : Int} (h : n < 0) : nameAt L n = [] := by unfold nameAt; rw [if_neg (by omega)]
theorem nameAt_hi {L : List (List UInt8)} {n : Int} (h : (L.length : Int) ≤ n) : nameAt L n = [] := by unfold nameAt; rw [if_neg (by omega)]
theorem nameAt_in {L : List (List UInt8)} {n : Int} {s : List UInt8} (h0 : 0 ≤ n) (h : L[n.toNat]? = some s) : nameAt L n = s := by
  unfold nameAt
  have := (List.getElem?_eq_some_iff.1 h).1
  rw [if_pos (by omega), List.getD, h]; rfl
/-- the kind of calls that has a name -/
def kindOf (s : List UInt8) : Int := match callN.findIdx? (· == s) with | some i => i | none => 0
def kindFrom (s : List UInt8) (k : Nat) : Option Nat := ((callN.drop k).findIdx? (· == s)).map (· + k)
theorem kindOf_eq (s : List UInt8) : kindOf s = match kindFrom s 0 with | some i => (i : Int) | none => 0 := by
  unfold kindOf kindFrom; rw [List.drop_zero]; cases callN.findIdx? (· == s) <;> rfl
theorem kindFrom_end (s : List UInt8) (k : Nat) (h : 14 ≤ k) : kindFrom s k = none := by
  unfold kindFrom; rw [List.drop_eq_nil_of_le (by exact h)]; rfl
theorem kindFrom_hit (s : List UInt8) (k : Nat) (h : k < 14) (e : callN[k]'h = s) : kindFrom s k = some k := by
  unfold kindFrom; rw [List.drop_eq_getElem_cons (h := h), List.findIdx?_cons]; simp [e]
theorem kindFrom_miss (s : List UInt8) (k : Nat) (h : k < 14) (e : callN[k]'h ≠ s) : kindFrom s k = kindFrom s (k + 1) := by
  unfold kindFrom
  rw [List.drop_eq_getElem_cons (h := h), List.findIdx?_cons]
  have : (callN[k]'h == s) = false := by simpa using e
  rw [this]; simp only [Bool.false_eq_true, if_false, Option.map_map]
  congr 1; funext i; simp only [Function.comp]; omega
theorem kindOf_nil : kindOf [] = 0 := rfl
theorem kindFrom_nil (s : List UInt8) (h : s ≠ []) : kindFrom s 0 = kindFrom s 1 := kindFrom_miss s 0 (by omega) (fun e => h e.symm)
theorem kind_of_name : ∀ i : Fin 14, kindOf (callN[i.val]'i.isLt) = (i.val : Int) := by decide +kernel
theorem name_nil : ∀ i : Fin 14, (callN[i.val]'i.isLt = []) ↔ i.val = 0 := by decide +kernel
end Go.Proofs.Ytppmjbnhghaffaa
