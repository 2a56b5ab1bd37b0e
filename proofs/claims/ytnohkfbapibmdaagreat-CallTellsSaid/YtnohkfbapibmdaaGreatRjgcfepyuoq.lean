/- Texts put together: PlEnd, PlBan, PlCall. No condition. -/
import Derived.Test.YtnohkfbapibmdaaGreatRhhkwmvezer
import Derived.Lib.LastIndexByte
import Derived.Lib.Strings
import Derived.Test.YtnohkfbapibmdaaGreatRoqtylxhcsf
namespace Go.Proofs.YtnohkfbapibmdaaGreat
open Go.RowKit

def lastO (c : UInt8) : List UInt8 → Option Nat
  | [] => none
  | x :: r => match lastO c r with | some i => some (i + 1) | none => if x = c then some 0 else none
theorem lastO_none {c : UInt8} {l : List UInt8} (h : lastO c l = none) : c ∉ l := by
  induction l with
  | nil => simp
  | cons x r ih =>
    unfold lastO at h
    cases hr : lastO c r with
    | some i => rw [hr] at h; cases h
    | none =>
      rw [hr] at h; simp only at h
      by_cases hx : x = c
      · rw [if_pos hx] at h; cases h
      · intro hm
        rcases List.mem_cons.1 hm with e | e
        · exact hx e.symm
        · exact ih hr e
theorem lastO_some {c : UInt8} {l : List UInt8} {i : Nat} (h : lastO c l = some i) : l[i]? = some c ∧ c ∉ l.drop (i + 1) ∧ i < l.length := by
  induction l generalizing i with
  | nil => cases h
  | cons x r ih =>
    unfold lastO at h
    cases hr : lastO c r with
    | some j =>
      rw [hr] at h; simp only [Option.some.injEq] at h; subst h
      obtain ⟨a, b, d⟩ := ih hr
      exact ⟨by simpa using a, by simpa using b, by simp; omega⟩
    | none =>
      rw [hr] at h; simp only at h
      by_cases hx : x = c
      · rw [if_pos hx] at h; injection h with h; subst h
        exact ⟨by simp [hx], by simpa using lastO_none hr, by simp⟩
      · rw [if_neg hx] at h; cases h
theorem lastO_free {c : UInt8} {l : List UInt8} (h : c ∉ l) : lastO c l = none := by
  cases hl : lastO c l with
  | none => rfl
  | some i => exact absurd (List.mem_of_getElem? (lastO_some hl).1) h
theorem lastO_at {c : UInt8} {l : List UInt8} {i : Nat} (h1 : l[i]? = some c) (h2 : c ∉ l.drop (i + 1)) : lastO c l = some i := by
  cases hl : lastO c l with
  | none => exact absurd (List.mem_of_getElem? h1) (lastO_none hl)
  | some j =>
    obtain ⟨a, b, d⟩ := lastO_some hl
    rcases Nat.lt_trichotomy i j with h | h | h
    · exact absurd (List.mem_of_getElem? (i := j - (i + 1)) (by rw [List.getElem?_drop, show i + 1 + (j - (i + 1)) = j from by omega]; exact a)) h2
    · rw [h]
    · exact absurd (List.mem_of_getElem? (i := i - (j + 1)) (by rw [List.getElem?_drop, show j + 1 + (i - (j + 1)) = i from by omega]; exact h1)) b
def lastI (c : UInt8) (l : List UInt8) : Int := match lastO c l with | none => -1 | some i => i
theorem lastIdx_eq (s : ByteArray) : Lib.lastIndexByte s 58 = lastI 58 s.data.toList := by
  have hget : ∀ j, j < s.size → s.data.toList[j]? = some (s.data[j]!) := fun j hj => by
    rw [get_data s j hj]; congr 1
    show s.data[j] = s.data[j]!
    rw [getElem!_pos s.data j hj]
  have h58 : ∀ b : UInt8, (b.toNat : Int) = 58 ↔ b = 58 := fun b => ⟨fun h => byte_eq (by rw [h]; rfl), fun h => by rw [h]; rfl⟩
  unfold Lib.lastIndexByte lastI
  rcases Lib.lastIdx_spec s 58 s.size with ⟨h1, h2⟩ | ⟨i, h1, h2, h3, h4⟩
  · rw [h1, lastO_free]
    intro hm
    obtain ⟨k, hk⟩ := List.mem_iff_getElem?.1 hm
    have hl := (List.getElem?_eq_some_iff.1 hk).1
    rw [len_data] at hl
    rw [hget k hl] at hk
    injection hk with hk
    exact h2 k hl ((h58 _).2 hk)
  · rw [h2, lastO_at (i := i)]
    · rw [hget i h1, (h58 _).1 h3]
    · intro hm
      obtain ⟨k, hk⟩ := List.mem_iff_getElem?.1 hm
      rw [List.getElem?_drop] at hk
      have hl := (List.getElem?_eq_some_iff.1 hk).1
      rw [len_data] at hl
      rw [hget _ hl] at hk
      injection hk with hk
      exact h4 _ (by omega) hl ((h58 _).2 hk)

/-! ### reading -/
def zeroE : En × Bool := (⟨⟨false, 0, 0⟩, 0⟩, false)
def innerL (h : List UInt8) : List UInt8 := (h.drop 1).take (h.length - 2)
def boxed (h : List UInt8) : Prop := 2 ≤ h.length ∧ h[0]? = some 91 ∧ h[h.length - 1]? = some 93
instance (h : List UInt8) : Decidable (boxed h) := by unfold boxed; infer_instance
/-- as the reference reads, at the last colon -/
def enPart (h : List UInt8) (q : Int × Bool) : En × Bool :=
  if q.2 = false ∨ q.1 < 1 then zeroE else if (v4parse h).2 = true then (⟨ad4 (v4parse h).1, q.1⟩, true)
  else if boxed h ∧ (v6parse (innerL h)).2.2 = true then (⟨adOf (v6parse (innerL h)).1 (v6parse (innerL h)).2.1, q.1⟩, true) else zeroE
def enParse (l : List UInt8) : En × Bool := match lastO 58 l with | none => zeroE | some i => enPart (l.take i) (decParse (l.drop (i + 1)) 65535)
def zeroA : Ad × Bool := (⟨false, 0, 0⟩, false)
/-- as the code reads the part ahead of the port -/
def hostP (h : List UInt8) : Ad × Bool := if h[0]? = some 91 then (if boxed h ∧ 58 ∈ innerL h then adParse (innerL h) else zeroA) else adParse h
def enCode (h : List UInt8) (q : Int × Bool) : En × Bool :=
  if h[0]? ≠ some 91 ∧ 58 ∈ h then zeroE else if (hostP h).2 = false ∨ q.2 = false ∨ q.1 = 0 then zeroE else (⟨(hostP h).1, q.1⟩, true)
theorem v4parse_no91 {l : List UInt8} (h : (v4parse l).2 = true) : (91 : UInt8) ∉ l := by
  have := (v4parse_true (l := l) (n := (v4parse l).1) (by rw [← h])).2
  intro hm; rw [this] at hm
  have hd : ∀ n : Nat, (91 : UInt8) ∉ digs n := fun n h => by have := digs_isDig n _ h; unfold isDig at this; simp at this
  unfold v4text v4parts at hm
  rw [joinL_cons, joinL_cons, joinL_cons, joinL_one] at hm
  simp [hd] at hm
theorem adParse_58 {l : List UInt8} (h : (58 : UInt8) ∈ l) : adParse l = if (v6parse l).2.2 = true then (adOf (v6parse l).1 (v6parse l).2.1, true) else zeroA := by
  unfold adParse zeroA
  rw [if_neg (fun h4 => v4parse_no58 h4 h)]
theorem adParse_no58 {l : List UInt8} (h : (58 : UInt8) ∉ l) : adParse l = if (v4parse l).2 = true then (ad4 (v4parse l).1, true) else zeroA := by
  unfold adParse zeroA
  by_cases h4 : (v4parse l).2 = true
  · rw [if_pos h4, if_pos h4]
  · rw [if_neg h4, if_neg h4, if_neg (fun h6 => h (v6parse_58 h6))]
theorem enCode_bad {h : List UInt8} (q : Int × Bool) (hp : hostP h = zeroA) : enCode h q = zeroE := by
  unfold enCode; rw [hp]
  split
  · rfl
  · exact if_pos (show zeroA.2 = false ∨ q.2 = false ∨ q.1 = 0 from Or.inl rfl)
theorem enCode_good {h : List UInt8} {q : Int × Bool} {a : Ad} (hq : 0 ≤ q.1) (hp : hostP h = (a, true)) (hc : ¬ (h[0]? ≠ some 91 ∧ 58 ∈ h)) : enCode h q = if q.2 = false ∨ q.1 < 1 then zeroE else (⟨a, q.1⟩, true) := by
  unfold enCode; rw [if_neg hc, hp]
  by_cases c : q.2 = false ∨ q.1 < 1
  · rw [if_pos c, if_pos]
    rcases c with c | c
    · exact Or.inr (Or.inl c)
    · exact Or.inr (Or.inr (by omega))
  · rw [if_neg c, if_neg]
    simp only
    rintro (d | d | d)
    · cases d
    · exact c (Or.inl d)
    · exact c (Or.inr (by omega))
theorem enPart_bad {h : List UInt8} (q : Int × Bool) (h4 : ¬ (v4parse h).2 = true) (h6 : ¬ (boxed h ∧ (v6parse (innerL h)).2.2 = true)) : enPart h q = zeroE := by
  unfold enPart
  rw [if_neg h4, if_neg h6]
  split <;> rfl
theorem en_eq (h : List UInt8) (q : Int × Bool) (hq : 0 ≤ q.1) : enPart h q = enCode h q := by
  by_cases hb : h[0]? = some 91
  · have h4 : ¬ (v4parse h).2 = true := fun c => v4parse_no91 c (List.mem_of_getElem? hb)
    by_cases hx : boxed h
    · by_cases h58 : (58 : UInt8) ∈ innerL h
      · have hp : hostP h = adParse (innerL h) := by unfold hostP; rw [if_pos hb, if_pos ⟨hx, h58⟩]
        rw [adParse_58 h58] at hp
        by_cases h6 : (v6parse (innerL h)).2.2 = true
        · rw [if_pos h6] at hp
          rw [enCode_good hq hp (fun c => c.1 hb)]
          unfold enPart
          rw [if_neg h4, if_pos (show boxed h ∧ (v6parse (innerL h)).2.2 = true from ⟨hx, h6⟩)]
        · rw [if_neg h6] at hp
          rw [enCode_bad q hp, enPart_bad q h4 (fun c => h6 c.2)]
      · have hp : hostP h = zeroA := by unfold hostP; rw [if_pos hb, if_neg (fun c => h58 c.2)]
        rw [enCode_bad q hp, enPart_bad q h4 (fun c => h58 (v6parse_58 c.2))]
    · have hp : hostP h = zeroA := by unfold hostP; rw [if_pos hb, if_neg (fun c => hx c.1)]
      rw [enCode_bad q hp, enPart_bad q h4 (fun c => hx c.1)]
  · have hx : ¬ boxed h := fun c => hb c.2.1
    by_cases h58 : (58 : UInt8) ∈ h
    · rw [enPart_bad q (fun c => v4parse_no58 c h58) (fun c => hx c.1)]
      unfold enCode; rw [if_pos ⟨hb, h58⟩]
    · have hp : hostP h = adParse h := by unfold hostP; rw [if_neg hb]
      rw [adParse_no58 h58] at hp
      by_cases h4 : (v4parse h).2 = true
      · rw [if_pos h4] at hp
        rw [enCode_good hq hp (fun c => h58 c.2)]
        unfold enPart
        rw [if_pos h4]
      · rw [if_neg h4] at hp
        rw [enCode_bad q hp, enPart_bad q h4 (fun c => hx c.1)]

/-! ### right, written -/
def enRight (e : En) : Bool := adRight e.ad && (decide (1 ≤ e.port) && decide (e.port ≤ 65535))
def enText (e : En) : List UInt8 := if enRight e = true then (if e.ad.v6 = true then 91 :: (adText e.ad ++ [93]) else adText e.ad) ++ 58 :: decText e.port else [45]
theorem enRight_iff (e : En) : enRight e = true ↔ adRight e.ad = true ∧ 1 ≤ e.port ∧ e.port ≤ 65535 := by unfold enRight; simp
theorem dec_le {l : List UInt8} {m : Int} (hm : 0 ≤ m) : 0 ≤ (decParse l m).1 ∧ (decParse l m).1 ≤ m := by
  cases h : (decParse l m).2 with
  | true =>
    obtain ⟨k, h1, _, h2, _⟩ := decParse_true (l := l) (most := m) (n := (decParse l m).1) (by rw [← h])
    omega
  | false => rw [decParse_false h]; exact ⟨by simp, hm⟩
theorem enText_len (e : En) (hf : e.ad.fits) : (enText e).length ≤ 2000 := by
  unfold enText
  split
  · rename_i h
    obtain ⟨_, h2, h3⟩ := (enRight_iff e).1 h
    have h4 : (adText e.ad).length ≤ 1000 := adText_len e.ad hf
    have h5 := decText_len e.port (by omega) (by omega)
    split <;> simp <;> omega
  · simp
end Go.Proofs.YtnohkfbapibmdaaGreat
namespace Go.Proofs.YtnohkfbapibmdaaGreat
open Go.RowKit

structure Ba where
  nt : Nt
  till : Int
deriving DecidableEq
instance : Inhabited Ba := ⟨⟨⟨⟨false, 0, 0⟩, 0⟩, 0⟩⟩
theorem Ba.ext' {a b : Ba} (h1 : a.nt = b.nt) (h2 : a.till = b.till) : a = b := by cases a; cases b; simp_all
end Go.Proofs.YtnohkfbapibmdaaGreat
namespace Go.Proofs.YtnohkfbapibmdaaGreat
open Go.RowKit

structure Cl where
  kind : Int
  en : En
  nt : Nt
  now : Int
  num : Int
  good : Bool
def zeroCl (k : Int) : Cl := ⟨k, ⟨⟨false, 0, 0⟩, 0⟩, ⟨⟨false, 0, 0⟩, 0⟩, 0, 0, false⟩
/-- the parts of a kind: 0 its end, 1 its subnet, 2 its address, 3 now, 4 its number, 5 good or bad -/
def clParts (k : Int) : List Nat :=
  if k = 1 ∨ k = 12 ∨ k = 13 then [0, 3] else if k = 2 then [0] else if k = 3 ∨ k = 9 then [3] else if k = 4 then [0, 5, 3, 4] else if k = 5 then [0, 4, 3]
  else if k = 6 then [1, 4, 3] else if k = 7 then [1] else if k = 8 then [2, 3] else if k = 11 then [0, 4] else []
def clSpan (k : Int) : Int × Int := if k = 4 then (0, 1073741824) else if k = 5 then (1, 5) else if k = 6 then (1, 1099511627776) else (1, 1048576)
def clRight1 (c : Cl) (p : Nat) : Bool := match p with
  | 0 => enRight c.en
  | 1 => ntRight c.nt
  | 2 => adRight c.en.ad
  | 3 => decide (0 ≤ c.now) && decide (c.now ≤ 1099511627776)
  | 4 => decide ((clSpan c.kind).1 ≤ c.num) && decide (c.num ≤ (clSpan c.kind).2)
  | _ => true
def clRight (c : Cl) : Bool := decide (nameAt callN c.kind ≠ []) && (clParts c.kind).all (clRight1 c)
def clPut (c o : Cl) (p : Nat) : Cl := match p with
  | 0 => { o with en := c.en }
  | 1 => { o with nt := c.nt }
  | 2 => { o with en := ⟨c.en.ad, o.en.port⟩ }
  | 3 => { o with now := c.now }
  | 4 => { o with num := c.num }
  | 5 => { o with good := c.good }
  | _ => o
def clClean (c : Cl) : Cl := if nameAt callN c.kind = [] then zeroCl 0 else (clParts c.kind).foldl (clPut c) (zeroCl c.kind)
def orL (l : List UInt8) : List UInt8 := if l = [] then [45] else l
def goodL : List UInt8 := [103, 111, 111, 100]
def badL : List UInt8 := [98, 97, 100]
def clWritten (c : Cl) (p : Nat) : List UInt8 := match p with
  | 0 => enText c.en
  | 1 => orL (ntText c.nt)
  | 2 => orL (adText c.en.ad)
  | 3 => decText c.now
  | 4 => decText c.num
  | _ => if c.good = true then goodL else badL
def clText (c : Cl) : List UInt8 := if nameAt callN c.kind = [] then [] else joinL 32 (nameAt callN c.kind :: (clParts c.kind).map (clWritten c))
def clRead (c : Cl) (p : Nat) (s : List UInt8) : Cl × Bool := match p with
  | 0 => ({ c with en := (enParse s).1 }, decide (s ≠ []))
  | 1 => ({ c with nt := if (ntParse s).2 = true then (ntParse s).1 else ⟨(ntParse s).1.ad, -1⟩ }, decide (s ≠ []))
  | 2 => ({ c with en := ⟨if (adParse s).2 = true then (adParse s).1 else ⟨(adParse s).1.v6, 18446744073709551615, (adParse s).1.lo⟩, c.en.port⟩ }, decide (s ≠ []))
  | 3 => ({ c with now := (decParse s 1099511627776).1 }, (decParse s 1099511627776).2)
  | 4 => ({ c with num := (decParse s 1099511627776).1 }, (decParse s 1099511627776).2)
  | _ => ({ c with good := decide (s = goodL) }, decide (s = goodL) || decide (s = badL))
def clGo (c : Cl) : List Nat → List (List UInt8) → Cl × Bool
  | p :: ps, s :: ss => if (clRead c p s).2 = true then clGo (clRead c p s).1 ps ss else (zeroCl 0, false)
  | _, _ => (c, true)
def clKind (s : List UInt8) : Int := kindOf ((splitL 32 s).headD [])
def clParse (s : List UInt8) : Cl × Bool :=
  if clKind s = 0 ∨ (splitL 32 s).length ≠ 1 + (clParts (clKind s)).length then (zeroCl 0, false) else clGo (zeroCl (clKind s)) (clParts (clKind s)) (splitL 32 s).tail
theorem named_iff (k : Int) : nameAt callN k ≠ [] ↔ 1 ≤ k ∧ k ≤ 13 := by
  constructor
  · intro h
    rcases Int.lt_or_le k 0 with h0 | h0
    · exact absurd (nameAt_lo h0) h
    · rcases Int.lt_or_le k 14 with h1 | h1
      · have hk : k ≠ 0 := fun e => by subst e; exact h (by decide)
        omega
      · exact absurd (nameAt_hi (by exact h1)) h
  · intro ⟨h1, h2⟩
    have : k = 1 ∨ k = 2 ∨ k = 3 ∨ k = 4 ∨ k = 5 ∨ k = 6 ∨ k = 7 ∨ k = 8 ∨ k = 9 ∨ k = 10 ∨ k = 11 ∨ k = 12 ∨ k = 13 := by omega
    rcases this with rfl | rfl | rfl | rfl | rfl | rfl | rfl | rfl | rfl | rfl | rfl | rfl | rfl <;> decide
theorem kinds {k : Int} (h : 1 ≤ k ∧ k ≤ 13) : k = 1 ∨ k = 2 ∨ k = 3 ∨ k = 4 ∨ k = 5 ∨ k = 6 ∨ k = 7 ∨ k = 8 ∨ k = 9 ∨ k = 10 ∨ k = 11 ∨ k = 12 ∨ k = 13 := by omega
theorem kind_name {k : Int} (h : 1 ≤ k ∧ k ≤ 13) : kindOf (nameAt callN k) = k ∧ (32 : UInt8) ∉ nameAt callN k ∧ (nameAt callN k).length ≤ 10 := by
  rcases kinds h with rfl | rfl | rfl | rfl | rfl | rfl | rfl | rfl | rfl | rfl | rfl | rfl | rfl <;> decide +kernel
theorem kindOf_in (s : List UInt8) : 0 ≤ kindOf s ∧ kindOf s ≤ 13 := by
  unfold kindOf
  cases h : callN.findIdx? (· == s) with
  | none => exact ⟨by decide, by decide⟩
  | some i =>
    rw [List.findIdx?_eq_some_iff_getElem] at h
    obtain ⟨hi, _⟩ := h
    have : callN.length = 14 := rfl
    simp only; omega
/-! ### cleaned: the same line -/
/-! ### one that is right is read of its line -/
theorem orL_same {l : List UInt8} (h : l ≠ []) : orL l = l := by unfold orL; rw [if_neg h]
def Cl.fitsA (c : Cl) : Prop := c.en.ad.fits ∧ c.nt.ad.fits
theorem parts_le5 (k : Int) : ∀ p ∈ clParts k, p ≤ 5 := by
  unfold clParts
  repeat' split
  all_goals decide
/-! ### what is read is clean -/
theorem clText_len {c : Cl} (hf : c.fitsA) (h1 : -9223372036854775808 ≤ c.now ∧ c.now ≤ 9223372036854775807) (h2 : -9223372036854775808 ≤ c.num ∧ c.num ≤ 9223372036854775807) : (clText c).length ≤ 100000 := by
  unfold clText
  split
  · simp
  · rename_i hn
    have hk := (named_iff _).1 hn
    have hnm := (kind_name hk).2.2
    have hw : ∀ p, (clWritten c p).length ≤ 3000 := fun p => by
      have hor : ∀ l : List UInt8, l.length ≤ 2999 → (orL l).length ≤ 3000 := fun l h => by
        unfold orL; split
        · decide
        · omega
      unfold clWritten
      split
      · have := enText_len c.en hf.1; omega
      · refine hor _ ?_
        unfold ntText
        split
        · have := adText_len c.nt.ad hf.2
          rename_i hr
          have hb : decText c.nt.bits = digs c.nt.bits.natAbs ∨ decText c.nt.bits = 45 :: digs c.nt.bits.natAbs := by unfold decText; split <;> simp
          have hbl : (decText c.nt.bits).length ≤ 21 := by
            have hab : adBits c.nt.ad ≤ 128 := by unfold adBits; split <;> decide
            unfold ntRight at hr
            refine decText_len _ ?_ ?_ <;> simp_all <;> omega
          simp only [List.length_append, List.length_cons]; omega
        · simp
      · refine hor _ ?_
        have := adText_len c.en.ad hf.1; omega
      · have := decText_len _ h1.1 h1.2; omega
      · have := decText_len _ h2.1 h2.2; omega
      · split <;> decide
    have hpl : (clParts c.kind).length ≤ 4 := by unfold clParts; (repeat' split) <;> decide
    have := joinL_len 32 (nameAt callN c.kind :: (clParts c.kind).map (clWritten c)) 5 3000 (fun x hx => by
      rcases List.mem_cons.1 hx with rfl | hx
      · omega
      · obtain ⟨p, _, rfl⟩ := List.mem_map.1 hx
        exact hw p) (by simp; omega)
    omega
end Go.Proofs.YtnohkfbapibmdaaGreat
