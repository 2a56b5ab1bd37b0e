/- Texts put together: PlEnd, PlNoB, PlBan, PlConf, PlBanf. No condition. -/
import Derived.Test.YtdmobgdgeiiicaaGreatRvbnkdsjtgf
import Derived.Lib.LastIndexByte
import Derived.Lib.Strings
import Derived.Test.YtdmobgdgeiiicaaGreatReiifwmdwmw
namespace Go.Proofs.YtdmobgdgeiiicaaGreat
open Go.RowKit

/-! ### reading -/
def boxed (h : List UInt8) : Prop := 2 ≤ h.length ∧ h[0]? = some 91 ∧ h[h.length - 1]? = some 93
instance (h : List UInt8) : Decidable (boxed h) := by unfold boxed; infer_instance
/-! ### right, written -/
end Go.Proofs.YtdmobgdgeiiicaaGreat
namespace Go.Proofs.YtdmobgdgeiiicaaGreat
open Go.RowKit

theorem digs_no32 (n : Nat) : (32 : UInt8) ∉ digs n := fun h => by have := digs_isDig n _ h; unfold isDig at this; simp at this
theorem v4text_no32 (n : Nat) : (32 : UInt8) ∉ v4text n := by
  unfold v4text v4parts
  rw [joinL_cons, joinL_cons, joinL_cons, joinL_one]
  simp [digs_no32]
theorem v4parse_no32 {l : List UInt8} (h : (v4parse l).2 = true) : (32 : UInt8) ∉ l := by
  have := (v4parse_true (l := l) (n := (v4parse l).1) (by rw [← h])).2
  intro hm; rw [this] at hm; exact v4text_no32 _ hm
theorem hexParse_no32 {p : List UInt8} (h : (hexParse p).2 = true) : (32 : UInt8) ∉ p := by
  intro hm
  obtain ⟨a, b, rfl⟩ := List.append_of_mem hm
  have hz : hloop (a ++ 32 :: b) = none := by
    unfold hloop
    rw [List.foldl_append, List.foldl_cons]
    have : ∀ x : Option Int, hstep x 32 = none := fun x => by
      cases x with
      | none => rfl
      | some n =>
        show (if hexVal 32 < 0 then none else some (n * 16 + hexVal 32)) = none
        rw [if_pos (show hexVal 32 < 0 from by decide +kernel)]
    rw [this, hfold_none]
  unfold hexParse at h
  rw [hz] at h
  split at h <;> cases h
theorem fullP_no32 {L : List (List UInt8)} : ∀ (a : List Nat), (∃ p ∈ L, (32 : UInt8) ∈ p) → fullP L a = none := by
  induction L with
  | nil => intro a ⟨p, hp, _⟩; cases hp
  | cons q r ih =>
    intro a ⟨p, hp, hm⟩
    unfold fullP
    rcases List.mem_cons.1 hp with rfl | hp
    · rw [if_neg (fun hx => hexParse_no32 hx hm), if_neg (fun hx => v4parse_no32 hx.1 hm)]
    · by_cases hx : (hexParse q).2 = true
      · rw [if_pos hx]; exact ih _ ⟨p, hp, hm⟩
      · rw [if_neg hx, if_neg (fun hy => by rw [hy.2] at hp; cases hp)]
theorem fourL_no32 {may : Bool} {l : List UInt8} (hm : (32 : UInt8) ∈ l) : fourL may l = none := by
  unfold fourL
  rw [if_neg (fun h => by rw [h] at hm; cases hm)]
  cases h : fourP may (splitL 58 l) [] with
  | none => rfl
  | some g =>
    have h1 := fourP_full h
    have h2 := fullP_no32 [] (split_mem (c := 58) (d := 32) (by decide) l hm)
    rw [h2] at h1; cases h1
theorem v6parse_no32 {l : List UInt8} (h : (v6parse l).2.2 = true) : (32 : UInt8) ∉ l := by
  intro hm
  have hz : spreadL l = none := by
    unfold spreadL
    cases hg : gapO l with
    | none => exact fourL_no32 hm
    | some i =>
      obtain ⟨h1, h2, _⟩ := gapO_some hg
      simp only
      obtain ⟨k, hk⟩ := List.mem_iff_getElem?.1 hm
      have k1 : k ≠ i := fun e => by rw [e, h1] at hk; cases hk
      have k2 : k ≠ i + 1 := fun e => by rw [e, h2] at hk; cases hk
      by_cases hlt : k < i
      · have : (32 : UInt8) ∈ l.take i := List.mem_iff_getElem?.2 ⟨k, by rw [List.getElem?_take, if_pos hlt]; exact hk⟩
        rw [fourL_no32 this]
      · have : (32 : UInt8) ∈ l.drop (i + 2) := List.mem_iff_getElem?.2 ⟨k - (i + 2), by rw [List.getElem?_drop, show i + 2 + (k - (i + 2)) = k from by omega]; exact hk⟩
        rw [fourL_no32 this]
        cases fourL false (l.take i) <;> rfl
  unfold v6parse at h
  rw [hz] at h; cases h
theorem adParse_no32 {l : List UInt8} (h : (adParse l).2 = true) : (32 : UInt8) ∉ l := by
  unfold adParse at h
  split at h
  · rename_i h4; exact v4parse_no32 h4
  · split at h
    · rename_i h6; exact v6parse_no32 h6
    · cases h
theorem adText_no32 (a : Ad) (hf : a.fits) : (32 : UInt8) ∉ adText a := by
  cases h : adRight a with
  | true => exact adParse_no32 (by rw [adParse_text a hf h])
  | false => rw [adText_bad a h]; simp
/-- read as one of six, an address is what it stands for -/
theorem decText_no32 (n : Int) : (32 : UInt8) ∉ decText n := by unfold decText; split <;> simp [digs_no32]
theorem ntText_no32 (n : Nt) (hf : n.ad.fits) : (32 : UInt8) ∉ ntText n := by
  unfold ntText; split <;> simp [adText_no32 n.ad hf, decText_no32]
end Go.Proofs.YtdmobgdgeiiicaaGreat
namespace Go.Proofs.YtdmobgdgeiiicaaGreat
open Go.RowKit

structure Ba where
  nt : Nt
  till : Int
deriving DecidableEq
instance : Inhabited Ba := ⟨⟨⟨⟨false, 0, 0⟩, 0⟩, 0⟩⟩
theorem Ba.ext' {a b : Ba} (h1 : a.nt = b.nt) (h2 : a.till = b.till) : a = b := by cases a; cases b; simp_all
def baRight (b : Ba) : Bool := ntRight b.nt && (decide (1 ≤ b.till) && decide (b.till ≤ 1099511627776))
def untilL : List UInt8 := [117, 110, 116, 105, 108]
def baText (b : Ba) : List UInt8 := if baRight b = true then joinL 32 [ntText b.nt, untilL, decText b.till] else []
def zeroB : Ba × Bool := (⟨⟨⟨false, 0, 0⟩, 0⟩, 0⟩, false)
def baCand (p : Nt × Bool) (q : Int × Bool) (l : List UInt8) : Ba × Bool := if p.2 = true ∧ q.2 = true ∧ baText ⟨p.1, q.1⟩ = l then (⟨p.1, q.1⟩, true) else zeroB
/-- as the reference reads, at the first blank -/
def baParse (l : List UInt8) : Ba × Bool := baCand (ntParse (l.take (atB 32 l))) (decParse (l.drop (atB 32 l + 7)) 1099511627776) l
theorem baRight_iff (b : Ba) : baRight b = true ↔ ntRight b.nt = true ∧ 1 ≤ b.till ∧ b.till ≤ 1099511627776 := by unfold baRight; simp
theorem baText_bad (b : Ba) (h : baRight b = false) : baText b = [] := by unfold baText; rw [if_neg (by rw [h]; simp)]
theorem baText_good (b : Ba) (h : baRight b = true) : baText b = ntText b.nt ++ 32 :: (untilL ++ 32 :: decText b.till) := by
  unfold baText; rw [if_pos h]; simp only [joinL_cons, joinL_one]
theorem baText_split (b : Ba) (hf : b.nt.ad.fits) (h : baRight b = true) : splitL 32 (baText b) = [ntText b.nt, untilL, decText b.till] := by
  have : baText b = joinL 32 [ntText b.nt, untilL, decText b.till] := by unfold baText; rw [if_pos h]
  rw [this]
  refine splitL_join 32 _ (by simp) ?_
  intro x hx
  simp only [List.mem_cons, List.not_mem_nil, or_false] at hx
  rcases hx with rfl | rfl | rfl
  · exact ntText_no32 _ hf
  · decide
  · exact decText_no32 _
theorem baCand_ok {p : Nt × Bool} {q : Int × Bool} {l : List UInt8} (hp : p.1.ad.fits) (hr : p.2 = true → ntRight p.1 = true) (hl : (baCand p q l).2 = true) : baText (baCand p q l).1 = l ∧ (l ≠ [] → baRight (baCand p q l).1 = true) ∧ (baCand p q l).1.nt.ad.fits := by
  unfold baCand at hl ⊢
  split
  · rename_i h
    refine ⟨h.2.2, fun hne => ?_, hp⟩
    cases hb : baRight ⟨p.1, q.1⟩ with
    | true => rfl
    | false =>
      have := h.2.2
      rw [baText_bad _ hb] at this
      exact absurd this.symm hne
  · rename_i h; rw [if_neg h] at hl; cases hl
theorem baCand_no {p : Nt × Bool} {q : Int × Bool} {l : List UInt8} (hl : (baCand p q l).2 = false) : baCand p q l = zeroB := by
  unfold baCand at hl ⊢
  split
  · rename_i h; rw [if_pos h] at hl; cases hl
  · rfl
theorem baParse_nil : baParse [] = zeroB := by decide +kernel
theorem baParse_ok (l : List UInt8) : (baParse l).1.nt.ad.fits ∧ ((baParse l).2 = true → baRight (baParse l).1 = true ∧ baText (baParse l).1 = l) ∧ ((baParse l).2 = false → baParse l = zeroB) := by
  have hp := ntParse_ok (l.take (atB 32 l))
  refine ⟨?_, fun h => ?_, fun h => baCand_no h⟩
  · cases h : (baParse l).2 with
    | true => exact (baCand_ok hp.1 hp.2.1 h).2.2
    | false => rw [show baParse l = zeroB from baCand_no h]; exact ⟨by decide, by decide⟩
  · obtain ⟨h1, h2, h3⟩ := baCand_ok hp.1 hp.2.1 h
    refine ⟨h2 (fun e => ?_), h1⟩
    subst e; rw [baParse_nil] at h; cases h
/-- as the code reads: three parts -/
def baCode (L : List (List UInt8)) (l : List UInt8) : Ba × Bool := if L.length = 3 ∧ L[1]? = some untilL then baCand (ntParse (L.getD 0 [])) (decParse (L.getD 2 []) 1099511627776) l else zeroB
theorem baParse_other {l : List UInt8} (h : ¬ ((splitL 32 l).length = 3 ∧ (splitL 32 l)[1]? = some untilL)) : baParse l = zeroB := by
  obtain ⟨h1, h2, h3⟩ := baParse_ok l
  cases hb : (baParse l).2 with
  | false => exact h3 hb
  | true =>
    obtain ⟨h4, h5⟩ := h2 hb
    have := baText_split _ h1 h4
    rw [h5] at this
    exact absurd (by rw [this]; exact ⟨rfl, rfl⟩) h
theorem baParse_three {l x y : List UInt8} (h : splitL 32 l = [x, untilL, y]) : baParse l = baCand (ntParse x) (decParse y 1099511627776) l := by
  have hl := joinL_split 32 l
  rw [h] at hl
  simp only [joinL_cons, joinL_one] at hl
  have hx : (32 : UInt8) ∉ x := splitL_parts 32 l x (by rw [h]; simp)
  have ha : atB 32 l = x.length := by rw [← hl, atB_app _ hx]
  unfold baParse
  rw [ha]
  have hd : l.drop (x.length + 7) = y := by
    rw [← hl, show x ++ 32 :: (untilL ++ 32 :: y) = (x ++ 32 :: (untilL ++ [32])) ++ y from by simp,
      show x.length + 7 = (x ++ 32 :: (untilL ++ [32])).length from by simp [untilL], List.drop_left]
  have hk : l.take x.length = x := by rw [← hl, List.take_left]
  rw [hd, hk]
theorem baCode_eq (l : List UInt8) : baCode (splitL 32 l) l = baParse l := by
  unfold baCode
  split
  · rename_i h
    obtain ⟨h1, h2⟩ := h
    obtain ⟨x, u, y, hs⟩ : ∃ x u y, splitL 32 l = [x, u, y] := by
      match hL : splitL 32 l, h1 with
      | [x, u, y], _ => exact ⟨x, u, y, rfl⟩
    rw [hs] at h2 ⊢
    simp at h2
    subst h2
    rw [baParse_three hs]; rfl
  · rename_i h; exact (baParse_other h).symm
theorem baText_len (b : Ba) (hf : b.nt.ad.fits) : (baText b).length ≤ 3000 := by
  cases h : baRight b with
  | false => rw [baText_bad b h]; simp
  | true =>
    obtain ⟨h1, h2, h3⟩ := (baRight_iff b).1 h
    have h5 := decText_len b.till (by omega) (by omega)
    have h6 : (ntText b.nt).length ≤ 2000 := by
      unfold ntText; rw [if_pos h1]
      obtain ⟨_, r2, r3, _⟩ := (ntRight_iff b.nt).1 h1
      have := adBits_nn b.nt.ad
      have h4 := adText_len b.nt.ad hf
      have h5 := decText_len b.nt.bits (by omega) (by omega)
      simp; omega
    rw [baText_good b h]; simp [untilL]; omega
end Go.Proofs.YtdmobgdgeiiicaaGreat
namespace Go.Proofs.YtdmobgdgeiiicaaGreat
open Go.RowKit

structure Cf where
  mi : Int
  mo : Int
  sh : Int
  mb : Int
  mbk : Int
  secret : Nat
  qg : Int
  qp : Int
  qw : Int
  qt : Int
  half : Int
  limit : Int
  banfor : Int
  base : Int
  cap : Int
  jitter : Int
deriving DecidableEq
def fed (L : List (List UInt8)) : List UInt8 := L.flatMap fun l => l ++ [10]
/-- the number of a row, if the line is one -/
def rdRow (w l : List UInt8) : Option Int :=
  if w ++ [32] <+: l then (let r := decParse (l.drop (w.length + 1)) 9223372036854775807; if r.2 = true then some r.1 else none) else none
/-- what was read so far: place after place -/
def RdTo (ws ls : List (List UInt8)) (xs : List Int) : Prop := xs.length ≤ ws.length ∧ xs.length ≤ ls.length ∧ ∀ i, i < xs.length → ∃ w l x, ws[i]? = some w ∧ ls[i]? = some l ∧ xs[i]? = some x ∧ rdRow w l = some x
theorem RdTo.nil (ws ls : List (List UInt8)) : RdTo ws ls [] := ⟨by simp, by simp, fun i h => by simp at h⟩
end Go.Proofs.YtdmobgdgeiiicaaGreat
namespace Go.Proofs.YtdmobgdgeiiicaaGreat
open Go.RowKit

def bfHas (l : List Ba) (n : Nt) : Bool := l.any fun x => decide (x.nt = n)
/-- ahead of the first that is greater -/
def bfPut (b : Ba) : List Ba → List Ba
  | [] => [b]
  | x :: l => if 0 < ntCmp x.nt b.nt then b :: x :: l else x :: bfPut b l
def bfGo (most : Int) : List Ba → Nat → List (List UInt8) → List Ba × Int × Int
  | l, _, [] => (l, 0, 0)
  | l, i, x :: r => if (baParse x).2 = false then ([], i + 1, 2) else if bfHas l (baParse x).1.nt = true then ([], i + 1, 7) else if most ≤ l.length then ([], i + 1, 5) else bfGo most (bfPut (baParse x).1 l) (i + 1) r
def bfParse (s : List UInt8) (most : Int) : List Ba × Int × Int := if (linesL s).2 ≠ 0 then ([], 0, (linesL s).2) else bfGo most [] 0 (linesL s).1
def bfText (l : List Ba) : List UInt8 := fed ((l.filter baRight).map baText)
theorem bfHas_no {l : List Ba} {n : Nt} (h : ∀ x ∈ l, x.nt ≠ n) : bfHas l n = false := by
  unfold bfHas
  rw [List.any_eq_false]
  intro x hx
  simpa using h x hx
end Go.Proofs.YtdmobgdgeiiicaaGreat
