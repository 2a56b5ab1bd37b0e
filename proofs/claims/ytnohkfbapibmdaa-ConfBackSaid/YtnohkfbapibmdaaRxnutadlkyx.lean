/- Texts put together: PlConf. No condition. -/
import Derived.Test.YtnohkfbapibmdaaRuuuvzgazcn
import Derived.Test.YtnohkfbapibmdaaRqhaiyojsjl
namespace Go.Proofs.Ytnohkfbapibmdaa
open Go.RowKit

structure Cf where
  mi : Int
  mo : Int
  sh : Int
  mb : Int
  mbk : Int
  secret : Nat
  qg : Int
  qp : Int
  qw : Int
  qt : Int
  half : Int
  limit : Int
  banfor : Int
  base : Int
  cap : Int
  jitter : Int
deriving DecidableEq
def zeroCf : Cf := ⟨0, 0, 0, 0, 0, 0, 0, 0, 0, 0, 0, 0, 0, 0, 0, 0⟩
def plainCf : Cf := ⟨8, 4, 4, 64, 64, 1, 1, 1, 1, 1, 100, 100, 1000, 2, 64, 4⟩
def cfWords : List (List UInt8) := [[105, 110], [111, 117, 116], [115, 104, 97, 114, 100, 115], [98, 97, 110, 115], [98, 111, 111, 107], [115, 101, 99, 114, 101, 116], [103, 114, 111, 117, 112], [112, 105, 110, 103], [119, 111, 114, 107], [116, 105, 109, 101], [104, 97, 108, 102], [108, 105, 109, 105, 116], [98, 97, 110, 102, 111, 114], [98, 97, 115, 101], [99, 97, 112], [106, 105, 116, 116, 101, 114]]
def cfNums (c : Cf) : List Int := [c.mi, c.mo, c.sh, c.mb, c.mbk, c.secret, c.qg, c.qp, c.qw, c.qt, c.half, c.limit, c.banfor, c.base, c.cap, c.jitter]
def cfRight (c : Cf) : Bool := decide (c.secret ≤ 9223372036854775807) && (decide (0 ≤ c.mi ∧ c.mi ≤ 65535) && (decide (0 ≤ c.mo ∧ c.mo ≤ 65535) && (decide (1 ≤ c.sh ∧ c.sh ≤ 8) && (decide (0 ≤ c.mb ∧ c.mb ≤ 1024) && (decide (0 ≤ c.mbk ∧ c.mbk ≤ 1024) &&
  (decide (0 ≤ c.qg ∧ c.qg ≤ 64) && (decide (0 ≤ c.qp ∧ c.qp ≤ 64) && (decide (0 ≤ c.qw ∧ c.qw ≤ 64) && (decide (0 ≤ c.qt ∧ c.qt ≤ 64) && (decide (1 ≤ c.half ∧ c.half ≤ 1073741824) && (decide (1 ≤ c.limit ∧ c.limit ≤ 10000) &&
  (decide (1 ≤ c.banfor ∧ c.banfor ≤ 1073741824) && (decide (1 ≤ c.base ∧ c.base ≤ 1073741824) && (decide (c.base ≤ c.cap ∧ c.cap ≤ 1073741824) && decide (0 ≤ c.jitter ∧ c.jitter ≤ 1073741824)))))))))))))))
theorem cfRight_iff (c : Cf) : cfRight c = true ↔ c.secret ≤ 9223372036854775807 ∧ (0 ≤ c.mi ∧ c.mi ≤ 65535) ∧ (0 ≤ c.mo ∧ c.mo ≤ 65535) ∧ (1 ≤ c.sh ∧ c.sh ≤ 8) ∧ (0 ≤ c.mb ∧ c.mb ≤ 1024) ∧ (0 ≤ c.mbk ∧ c.mbk ≤ 1024) ∧
    (0 ≤ c.qg ∧ c.qg ≤ 64) ∧ (0 ≤ c.qp ∧ c.qp ≤ 64) ∧ (0 ≤ c.qw ∧ c.qw ≤ 64) ∧ (0 ≤ c.qt ∧ c.qt ≤ 64) ∧ (1 ≤ c.half ∧ c.half ≤ 1073741824) ∧ (1 ≤ c.limit ∧ c.limit ≤ 10000) ∧
    (1 ≤ c.banfor ∧ c.banfor ≤ 1073741824) ∧ (1 ≤ c.base ∧ c.base ≤ 1073741824) ∧ (c.base ≤ c.cap ∧ c.cap ≤ 1073741824) ∧ (0 ≤ c.jitter ∧ c.jitter ≤ 1073741824) := by
  unfold cfRight
  simp only [Bool.and_eq_true, decide_eq_true_eq]
def cfLine (w : List UInt8) (n : Int) : List UInt8 := w ++ 32 :: decText n
def cfLines (c : Cf) : List (List UInt8) := List.zipWith cfLine cfWords (cfNums c)
def fed (L : List (List UInt8)) : List UInt8 := L.flatMap fun l => l ++ [10]
def cfText (c : Cf) : List UInt8 := if cfRight c = true then fed (cfLines c) else []
theorem fed_join (L : List (List UInt8)) (h : L ≠ []) : fed L = joinL 10 L ++ [10] := by
  induction L with
  | nil => exact absurd rfl h
  | cons x r ih =>
    cases r with
    | nil => unfold fed; simp [joinL_one]
    | cons y r =>
      have := ih (by simp)
      unfold fed at this ⊢
      rw [List.flatMap_cons, this, joinL_cons]; simp
/-- the number of a row, if the line is one -/
def rdRow (w l : List UInt8) : Option Int :=
  if w ++ [32] <+: l then (let r := decParse (l.drop (w.length + 1)) 9223372036854775807; if r.2 = true then some r.1 else none) else none
theorem rdRow_line {w l : List UInt8} {n : Int} (h : rdRow w l = some n) : l = cfLine w n ∧ 0 ≤ n ∧ n ≤ 9223372036854775807 := by
  unfold rdRow at h
  split at h
  · rename_i hp
    obtain ⟨t, ht⟩ := hp
    have hd : l.drop (w.length + 1) = t := by rw [← ht, show w.length + 1 = (w ++ [32]).length from by simp, List.drop_left]
    rw [hd] at h
    simp only at h
    split at h
    · rename_i h2
      have h3 : decParse t 9223372036854775807 = ((decParse t 9223372036854775807).1, true) := by rw [← h2]
      obtain ⟨m, hm, hl, h4, h5⟩ := decParse_true h3
      cases h
      rw [hm]
      refine ⟨?_, by omega, by omega⟩
      unfold cfLine decText
      rw [if_neg (by omega), ← ht, hl]
      simp
    · cases h
  · cases h
theorem rdRow_of {w : List UInt8} {n : Int} (h0 : 0 ≤ n) (h1 : n ≤ 9223372036854775807) : rdRow w (cfLine w n) = some n := by
  unfold rdRow cfLine
  have hp : w ++ [32] <+: w ++ 32 :: decText n := ⟨decText n, by simp⟩
  have hd : (w ++ 32 :: decText n).drop (w.length + 1) = decText n := by
    rw [show w ++ 32 :: decText n = (w ++ [32]) ++ decText n from by simp, show w.length + 1 = (w ++ [32]).length from by simp, List.drop_left]
  rw [if_pos hp, hd]
  have ht : decText n = digs n.toNat := by unfold decText; rw [if_neg (by omega)]; congr 1; omega
  rw [ht, decParse_digs n.toNat _ (by omega) (by omega)]
  simp; omega
/-- the numbers of rows; or the first line that is none -/
def rdRows (k : Nat) : List (List UInt8) → List (List UInt8) → Except Nat (List Int)
  | [], _ => .ok []
  | _ :: _, [] => .error (k + 1)
  | w :: ws, l :: ls => match rdRow w l with
    | none => .error (k + 1)
    | some x => match rdRows (k + 1) ws ls with
      | .ok xs => .ok (x :: xs)
      | .error e => .error e
def cfOf (n : Nat → Int) : Cf := ⟨n 0, n 1, n 2, n 3, n 4, (n 5).toNat, n 6, n 7, n 8, n 9, n 10, n 11, n 12, n 13, n 14, n 15⟩
def cfDone (more : Bool) (xs : List Int) : Cf × Int × Int :=
  if more = true then (zeroCf, 17, 2) else if cfRight (cfOf fun i => xs.getD i 0) = true then (cfOf fun i => xs.getD i 0, 0, 0) else (zeroCf, 0, 3)
def cfGo (L : List (List UInt8) × Int) : Cf × Int × Int :=
  if L.2 ≠ 0 then (zeroCf, 0, L.2) else match rdRows 0 cfWords L.1 with
    | .error k => (zeroCf, k, 2)
    | .ok xs => cfDone (decide (16 < L.1.length)) xs
def cfParse (s : List UInt8) : Cf × Int × Int := cfGo (linesL s)
/-- what was read so far: place after place -/
def RdTo (ws ls : List (List UInt8)) (xs : List Int) : Prop := xs.length ≤ ws.length ∧ xs.length ≤ ls.length ∧ ∀ i, i < xs.length → ∃ w l x, ws[i]? = some w ∧ ls[i]? = some l ∧ xs[i]? = some x ∧ rdRow w l = some x
theorem RdTo.nil (ws ls : List (List UInt8)) : RdTo ws ls [] := ⟨by simp, by simp, fun i h => by simp at h⟩
theorem RdTo.snoc {ws ls : List (List UInt8)} {xs : List Int} {w l : List UInt8} {x : Int} (h : RdTo ws ls xs) (hw : ws[xs.length]? = some w) (hl : ls[xs.length]? = some l) (hx : rdRow w l = some x) : RdTo ws ls (xs ++ [x]) := by
  have h1 := (List.getElem?_eq_some_iff.1 hw).1
  have h2 := (List.getElem?_eq_some_iff.1 hl).1
  refine ⟨by simp; omega, by simp; omega, fun i hi => ?_⟩
  by_cases hlt : i < xs.length
  · obtain ⟨w', l', x', a, b, c, d⟩ := h.2.2 i hlt
    exact ⟨w', l', x', a, b, by rw [List.getElem?_append_left hlt]; exact c, d⟩
  · simp at hi
    obtain rfl : i = xs.length := by omega
    exact ⟨w, l, x, hw, hl, by simp, hx⟩
theorem RdTo.tail {w : List UInt8} {ws : List (List UInt8)} {l : List UInt8} {ls : List (List UInt8)} {x : Int} {xs : List Int} (h : RdTo (w :: ws) (l :: ls) (x :: xs)) : rdRow w l = some x ∧ RdTo ws ls xs := by
  refine ⟨?_, by have := h.1; simpa using this, by have := h.2.1; simpa using this, fun i hi => ?_⟩
  · obtain ⟨w', l', x', a, b, c, d⟩ := h.2.2 0 (by simp)
    simp at a b c; subst a b c; exact d
  · obtain ⟨w', l', x', a, b, c, d⟩ := h.2.2 (i + 1) (by simpa using hi)
    exact ⟨w', l', x', by simpa using a, by simpa using b, by simpa using c, d⟩
theorem rdRows_stop {ws ls : List (List UInt8)} {xs : List Int} (k : Nat) (h : RdTo ws ls xs) {w : List UInt8} (hw : ws[xs.length]? = some w) (hs : ls[xs.length]? = none ∨ ∃ l, ls[xs.length]? = some l ∧ rdRow w l = none) : rdRows k ws ls = .error (k + xs.length + 1) := by
  induction xs generalizing ws ls k with
  | nil =>
    cases ws with
    | nil => simp at hw
    | cons w' ws =>
      simp at hw; subst hw
      cases ls with
      | nil => rfl
      | cons l' ls =>
        rcases hs with hs | ⟨l, hs, hr⟩
        · simp at hs
        · simp at hs; subst hs
          unfold rdRows; rw [hr]; rfl
  | cons x xs ih =>
    cases ws with
    | nil => have := h.1; simp at this
    | cons w' ws =>
      cases ls with
      | nil => have := h.2.1; simp at this
      | cons l' ls =>
        obtain ⟨h1, h2⟩ := h.tail
        have := ih (k + 1) h2 (by simpa using hw) (by simpa using hs)
        unfold rdRows
        rw [h1]
        simp only
        rw [this]
        simp only [List.length_cons]
        congr 1; omega
theorem rdRows_all {ws ls : List (List UInt8)} {xs : List Int} (k : Nat) (h : RdTo ws ls xs) (hl : xs.length = ws.length) : rdRows k ws ls = .ok xs := by
  induction xs generalizing ws ls k with
  | nil =>
    cases ws with
    | nil => cases ls <;> rfl
    | cons w ws => simp at hl
  | cons x xs ih =>
    cases ws with
    | nil => simp at hl
    | cons w ws =>
      cases ls with
      | nil => have := h.2.1; simp at this
      | cons l ls =>
        obtain ⟨h1, h2⟩ := h.tail
        unfold rdRows; rw [h1]; simp only; rw [ih (k + 1) h2 (by simpa using hl)]
theorem rdRows_ok {ws ls : List (List UInt8)} {k : Nat} {xs : List Int} (h : rdRows k ws ls = .ok xs) : RdTo ws ls xs ∧ xs.length = ws.length := by
  induction ws generalizing ls k xs with
  | nil => cases ls <;> (unfold rdRows at h; cases h; exact ⟨RdTo.nil _ _, rfl⟩)
  | cons w ws ih =>
    cases ls with
    | nil => unfold rdRows at h; cases h
    | cons l ls =>
      unfold rdRows at h
      cases hr : rdRow w l with
      | none => rw [hr] at h; cases h
      | some x =>
        rw [hr] at h; simp only at h
        cases hh : rdRows (k + 1) ws ls with
        | error e => rw [hh] at h; cases h
        | ok ys =>
          rw [hh] at h; cases h
          obtain ⟨h1, h2⟩ := ih hh
          refine ⟨⟨by simp; omega, by have := h1.2.1; simp; omega, fun i hi => ?_⟩, by simp [h2]⟩
          cases i with
          | zero => exact ⟨w, l, x, rfl, rfl, rfl, hr⟩
          | succ i =>
            obtain ⟨w', l', x', a, b, c, d⟩ := h1.2.2 i (by simpa using hi)
            exact ⟨w', l', x', by simpa using a, by simpa using b, by simpa using c, d⟩
end Go.Proofs.Ytnohkfbapibmdaa
