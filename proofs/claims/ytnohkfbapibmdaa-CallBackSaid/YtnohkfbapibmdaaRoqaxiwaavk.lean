/- Texts put together: PlEnd, PlNoB, PlBan, PlCall. No condition. -/
import Derived.Test.YtnohkfbapibmdaaRntuwiuzqkt
import Derived.Lib.LastIndexByte
import Derived.Lib.Strings
import Derived.Test.YtnohkfbapibmdaaRiqpgjtqhaj
namespace Go.Proofs.Ytnohkfbapibmdaa
open Go.RowKit

def lastO (c : UInt8) : List UInt8 → Option Nat
  | [] => none
  | x :: r => match lastO c r with | some i => some (i + 1) | none => if x = c then some 0 else none
theorem lastO_none {c : UInt8} {l : List UInt8} (h : lastO c l = none) : c ∉ l := by
  induction l with
  | nil => simp
  | cons x r ih =>
    unfold lastO at h
    cases hr : lastO c r with
    | some i => rw [hr] at h; cases h
    | none =>
      rw [hr] at h; simp only at h
      by_cases hx : x = c
      · rw [if_pos hx] at h; cases h
      · intro hm
        rcases List.mem_cons.1 hm with e | e
        · exact hx e.symm
        · exact ih hr e
theorem lastO_some {c : UInt8} {l : List UInt8} {i : Nat} (h : lastO c l = some i) : l[i]? = some c ∧ c ∉ l.drop (i + 1) ∧ i < l.length := by
  induction l generalizing i with
  | nil => cases h
  | cons x r ih =>
    unfold lastO at h
    cases hr : lastO c r with
    | some j =>
      rw [hr] at h; simp only [Option.some.injEq] at h; subst h
      obtain ⟨a, b, d⟩ := ih hr
      exact ⟨by simpa using a, by simpa using b, by simp; omega⟩
    | none =>
      rw [hr] at h; simp only at h
      by_cases hx : x = c
      · rw [if_pos hx] at h; injection h with h; subst h
        exact ⟨by simp [hx], by simpa using lastO_none hr, by simp⟩
      · rw [if_neg hx] at h; cases h
theorem lastO_free {c : UInt8} {l : List UInt8} (h : c ∉ l) : lastO c l = none := by
  cases hl : lastO c l with
  | none => rfl
  | some i => exact absurd (List.mem_of_getElem? (lastO_some hl).1) h
theorem lastO_at {c : UInt8} {l : List UInt8} {i : Nat} (h1 : l[i]? = some c) (h2 : c ∉ l.drop (i + 1)) : lastO c l = some i := by
  cases hl : lastO c l with
  | none => exact absurd (List.mem_of_getElem? h1) (lastO_none hl)
  | some j =>
    obtain ⟨a, b, d⟩ := lastO_some hl
    rcases Nat.lt_trichotomy i j with h | h | h
    · exact absurd (List.mem_of_getElem? (i := j - (i + 1)) (by rw [List.getElem?_drop, show i + 1 + (j - (i + 1)) = j from by omega]; exact a)) h2
    · rw [h]
    · exact absurd (List.mem_of_getElem? (i := i - (j + 1)) (by rw [List.getElem?_drop, show j + 1 + (i - (j + 1)) = i from by omega]; exact h1)) b
theorem lastO_app {c : UInt8} (x : List UInt8) {r : List UInt8} (h : c ∉ r) : lastO c (x ++ c :: r) = some x.length := by
  refine lastO_at (by simp) ?_
  rw [show x ++ c :: r = (x ++ [c]) ++ r from by simp, show x.length + 1 = (x ++ [c]).length from by simp, List.drop_left]; exact h
def lastI (c : UInt8) (l : List UInt8) : Int := match lastO c l with | none => -1 | some i => i
theorem lastIdx_eq (s : ByteArray) : Lib.lastIndexByte s 58 = lastI 58 s.data.toList := by
  have hget : ∀ j, j < s.size → s.data.toList[j]? = some (s.data[j]!) := fun j hj => by
    rw [get_data s j hj]; congr 1
    show s.data[j] = s.data[j]!
    rw [getElem!_pos s.data j hj]
  have h58 : ∀ b : UInt8, (b.toNat : Int) = 58 ↔ b = 58 := fun b => ⟨fun h => byte_eq (by rw [h]; rfl), fun h => by rw [h]; rfl⟩
  unfold Lib.lastIndexByte lastI
  rcases Lib.lastIdx_spec s 58 s.size with ⟨h1, h2⟩ | ⟨i, h1, h2, h3, h4⟩
  · rw [h1, lastO_free]
    intro hm
    obtain ⟨k, hk⟩ := List.mem_iff_getElem?.1 hm
    have hl := (List.getElem?_eq_some_iff.1 hk).1
    rw [len_data] at hl
    rw [hget k hl] at hk
    injection hk with hk
    exact h2 k hl ((h58 _).2 hk)
  · rw [h2, lastO_at (i := i)]
    · rw [hget i h1, (h58 _).1 h3]
    · intro hm
      obtain ⟨k, hk⟩ := List.mem_iff_getElem?.1 hm
      rw [List.getElem?_drop] at hk
      have hl := (List.getElem?_eq_some_iff.1 hk).1
      rw [len_data] at hl
      rw [hget _ hl] at hk
      injection hk with hk
      exact h4 _ (by omega) hl ((h58 _).2 hk)

/-! ### reading -/
def zeroE : En × Bool := (⟨⟨false, 0, 0⟩, 0⟩, false)
def innerL (h : List UInt8) : List UInt8 := (h.drop 1).take (h.length - 2)
def boxed (h : List UInt8) : Prop := 2 ≤ h.length ∧ h[0]? = some 91 ∧ h[h.length - 1]? = some 93
instance (h : List UInt8) : Decidable (boxed h) := by unfold boxed; infer_instance
/-- as the reference reads, at the last colon -/
def enPart (h : List UInt8) (q : Int × Bool) : En × Bool :=
  if q.2 = false ∨ q.1 < 1 then zeroE else if (v4parse h).2 = true then (⟨ad4 (v4parse h).1, q.1⟩, true)
  else if boxed h ∧ (v6parse (innerL h)).2.2 = true then (⟨adOf (v6parse (innerL h)).1 (v6parse (innerL h)).2.1, q.1⟩, true) else zeroE
def enParse (l : List UInt8) : En × Bool := match lastO 58 l with | none => zeroE | some i => enPart (l.take i) (decParse (l.drop (i + 1)) 65535)
def zeroA : Ad × Bool := (⟨false, 0, 0⟩, false)
/-- as the code reads the part ahead of the port -/
def hostP (h : List UInt8) : Ad × Bool := if h[0]? = some 91 then (if boxed h ∧ 58 ∈ innerL h then adParse (innerL h) else zeroA) else adParse h
def enCode (h : List UInt8) (q : Int × Bool) : En × Bool :=
  if h[0]? ≠ some 91 ∧ 58 ∈ h then zeroE else if (hostP h).2 = false ∨ q.2 = false ∨ q.1 = 0 then zeroE else (⟨(hostP h).1, q.1⟩, true)
theorem v4parse_no91 {l : List UInt8} (h : (v4parse l).2 = true) : (91 : UInt8) ∉ l := by
  have := (v4parse_true (l := l) (n := (v4parse l).1) (by rw [← h])).2
  intro hm; rw [this] at hm
  have hd : ∀ n : Nat, (91 : UInt8) ∉ digs n := fun n h => by have := digs_isDig n _ h; unfold isDig at this; simp at this
  unfold v4text v4parts at hm
  rw [joinL_cons, joinL_cons, joinL_cons, joinL_one] at hm
  simp [hd] at hm
theorem adParse_58 {l : List UInt8} (h : (58 : UInt8) ∈ l) : adParse l = if (v6parse l).2.2 = true then (adOf (v6parse l).1 (v6parse l).2.1, true) else zeroA := by
  unfold adParse zeroA
  rw [if_neg (fun h4 => v4parse_no58 h4 h)]
theorem adParse_no58 {l : List UInt8} (h : (58 : UInt8) ∉ l) : adParse l = if (v4parse l).2 = true then (ad4 (v4parse l).1, true) else zeroA := by
  unfold adParse zeroA
  by_cases h4 : (v4parse l).2 = true
  · rw [if_pos h4, if_pos h4]
  · rw [if_neg h4, if_neg h4, if_neg (fun h6 => h (v6parse_58 h6))]
theorem enCode_bad {h : List UInt8} (q : Int × Bool) (hp : hostP h = zeroA) : enCode h q = zeroE := by
  unfold enCode; rw [hp]
  split
  · rfl
  · exact if_pos (show zeroA.2 = false ∨ q.2 = false ∨ q.1 = 0 from Or.inl rfl)
theorem enCode_good {h : List UInt8} {q : Int × Bool} {a : Ad} (hq : 0 ≤ q.1) (hp : hostP h = (a, true)) (hc : ¬ (h[0]? ≠ some 91 ∧ 58 ∈ h)) : enCode h q = if q.2 = false ∨ q.1 < 1 then zeroE else (⟨a, q.1⟩, true) := by
  unfold enCode; rw [if_neg hc, hp]
  by_cases c : q.2 = false ∨ q.1 < 1
  · rw [if_pos c, if_pos]
    rcases c with c | c
    · exact Or.inr (Or.inl c)
    · exact Or.inr (Or.inr (by omega))
  · rw [if_neg c, if_neg]
    simp only
    rintro (d | d | d)
    · cases d
    · exact c (Or.inl d)
    · exact c (Or.inr (by omega))
theorem enPart_bad {h : List UInt8} (q : Int × Bool) (h4 : ¬ (v4parse h).2 = true) (h6 : ¬ (boxed h ∧ (v6parse (innerL h)).2.2 = true)) : enPart h q = zeroE := by
  unfold enPart
  rw [if_neg h4, if_neg h6]
  split <;> rfl
theorem en_eq (h : List UInt8) (q : Int × Bool) (hq : 0 ≤ q.1) : enPart h q = enCode h q := by
  by_cases hb : h[0]? = some 91
  · have h4 : ¬ (v4parse h).2 = true := fun c => v4parse_no91 c (List.mem_of_getElem? hb)
    by_cases hx : boxed h
    · by_cases h58 : (58 : UInt8) ∈ innerL h
      · have hp : hostP h = adParse (innerL h) := by unfold hostP; rw [if_pos hb, if_pos ⟨hx, h58⟩]
        rw [adParse_58 h58] at hp
        by_cases h6 : (v6parse (innerL h)).2.2 = true
        · rw [if_pos h6] at hp
          rw [enCode_good hq hp (fun c => c.1 hb)]
          unfold enPart
          rw [if_neg h4, if_pos (show boxed h ∧ (v6parse (innerL h)).2.2 = true from ⟨hx, h6⟩)]
        · rw [if_neg h6] at hp
          rw [enCode_bad q hp, enPart_bad q h4 (fun c => h6 c.2)]
      · have hp : hostP h = zeroA := by unfold hostP; rw [if_pos hb, if_neg (fun c => h58 c.2)]
        rw [enCode_bad q hp, enPart_bad q h4 (fun c => h58 (v6parse_58 c.2))]
    · have hp : hostP h = zeroA := by unfold hostP; rw [if_pos hb, if_neg (fun c => hx c.1)]
      rw [enCode_bad q hp, enPart_bad q h4 (fun c => hx c.1)]
  · have hx : ¬ boxed h := fun c => hb c.2.1
    by_cases h58 : (58 : UInt8) ∈ h
    · rw [enPart_bad q (fun c => v4parse_no58 c h58) (fun c => hx c.1)]
      unfold enCode; rw [if_pos ⟨hb, h58⟩]
    · have hp : hostP h = adParse h := by unfold hostP; rw [if_neg hb]
      rw [adParse_no58 h58] at hp
      by_cases h4 : (v4parse h).2 = true
      · rw [if_pos h4] at hp
        rw [enCode_good hq hp (fun c => h58 c.2)]
        unfold enPart
        rw [if_pos h4]
      · rw [if_neg h4] at hp
        rw [enCode_bad q hp, enPart_bad q h4 (fun c => hx c.1)]

/-! ### right, written -/
def enRight (e : En) : Bool := adRight e.ad && (decide (1 ≤ e.port) && decide (e.port ≤ 65535))
def enText (e : En) : List UInt8 := if enRight e = true then (if e.ad.v6 = true then 91 :: (adText e.ad ++ [93]) else adText e.ad) ++ 58 :: decText e.port else [45]
theorem enRight_iff (e : En) : enRight e = true ↔ adRight e.ad = true ∧ 1 ≤ e.port ∧ e.port ≤ 65535 := by unfold enRight; simp
theorem adOf_same (a : Ad) (h : adRight a = true) (hv : a.v6 = true) : adOf a.hi a.lo = a := by
  have := right6 a hv
  rw [h] at this; exact of_decide_eq_true this
theorem enParse_text (e : En) (hf : e.ad.fits) (h : enRight e = true) : enParse (enText e) = (e, true) := by
  obtain ⟨h1, h2, h3⟩ := (enRight_iff e).1 h
  have hd : decText e.port = digs e.port.toNat := by unfold decText; rw [if_neg (by omega)]; congr 1; omega
  have hq : decParse (digs e.port.toNat) 65535 = (e.port, true) := by
    rw [decParse_digs e.port.toNat 65535 (by omega) (by omega)]; congr 1; omega
  unfold enText
  rw [if_pos h, hd]
  unfold enParse
  rw [lastO_app _ (digs_no58 _)]
  simp only
  rw [List.take_left]
  have e2 : ∀ X : List UInt8, (X ++ 58 :: digs e.port.toNat).drop (X.length + 1) = digs e.port.toNat := fun X => by
    rw [show X ++ 58 :: digs e.port.toNat = (X ++ [58]) ++ digs e.port.toNat from by simp, show X.length + 1 = (X ++ [58]).length from by simp, List.drop_left]
  rw [e2, hq]
  unfold enPart
  rw [if_neg (by simp only; rintro (c | c); cases c; omega)]
  cases hv : e.ad.v6 with
  | true =>
    rw [if_pos rfl]
    have ht : adText e.ad = v6text e.ad.hi e.ad.lo := by unfold adText; rw [if_pos h1, if_pos hv]
    rw [if_neg (fun c => v4parse_no91 c (by simp))]
    have hin : innerL (91 :: (adText e.ad ++ [93])) = adText e.ad := by
      unfold innerL
      simp
    have hbx : boxed (91 :: (adText e.ad ++ [93])) := by
      refine ⟨by simp, by simp, ?_⟩
      simp
    rw [hin, ht, v6parse_text _ _ hf.1 hf.2, if_pos ⟨by rw [← ht]; exact hbx, rfl⟩]
    simp only
    rw [adOf_same e.ad h1 hv]
  | false =>
    rw [if_neg (show ¬ (false = true) from by simp)]
    have ht : adText e.ad = v4text e.ad.lo := by unfold adText; rw [if_pos h1, if_neg (by rw [hv]; simp)]
    have hr := h1
    unfold adRight at hr
    rw [if_neg (by rw [hv]; simp)] at hr
    obtain ⟨r1, r2⟩ := of_decide_eq_true hr
    rw [ht, v4parse_text _ r2, if_pos rfl]
    have : ad4 e.ad.lo = e.ad := Ad.ext' hv.symm r1.symm rfl
    simp only
    rw [this]
theorem dec_le {l : List UInt8} {m : Int} (hm : 0 ≤ m) : 0 ≤ (decParse l m).1 ∧ (decParse l m).1 ≤ m := by
  cases h : (decParse l m).2 with
  | true =>
    obtain ⟨k, h1, _, h2, _⟩ := decParse_true (l := l) (most := m) (n := (decParse l m).1) (by rw [← h])
    omega
  | false => rw [decParse_false h]; exact ⟨by simp, hm⟩
theorem enText_len (e : En) (hf : e.ad.fits) : (enText e).length ≤ 2000 := by
  unfold enText
  split
  · rename_i h
    obtain ⟨_, h2, h3⟩ := (enRight_iff e).1 h
    have h4 : (adText e.ad).length ≤ 1000 := adText_len e.ad hf
    have h5 := decText_len e.port (by omega) (by omega)
    split <;> simp <;> omega
  · simp
end Go.Proofs.Ytnohkfbapibmdaa
namespace Go.Proofs.Ytnohkfbapibmdaa
open Go.RowKit

theorem digs_no32 (n : Nat) : (32 : UInt8) ∉ digs n := fun h => by have := digs_isDig n _ h; unfold isDig at this; simp at this
theorem v4text_no32 (n : Nat) : (32 : UInt8) ∉ v4text n := by
  unfold v4text v4parts
  rw [joinL_cons, joinL_cons, joinL_cons, joinL_one]
  simp [digs_no32]
theorem v4parse_no32 {l : List UInt8} (h : (v4parse l).2 = true) : (32 : UInt8) ∉ l := by
  have := (v4parse_true (l := l) (n := (v4parse l).1) (by rw [← h])).2
  intro hm; rw [this] at hm; exact v4text_no32 _ hm
theorem hexParse_no32 {p : List UInt8} (h : (hexParse p).2 = true) : (32 : UInt8) ∉ p := by
  intro hm
  obtain ⟨a, b, rfl⟩ := List.append_of_mem hm
  have hz : hloop (a ++ 32 :: b) = none := by
    unfold hloop
    rw [List.foldl_append, List.foldl_cons]
    have : ∀ x : Option Int, hstep x 32 = none := fun x => by
      cases x with
      | none => rfl
      | some n =>
        show (if hexVal 32 < 0 then none else some (n * 16 + hexVal 32)) = none
        rw [if_pos (show hexVal 32 < 0 from by decide +kernel)]
    rw [this, hfold_none]
  unfold hexParse at h
  rw [hz] at h
  split at h <;> cases h
theorem fullP_no32 {L : List (List UInt8)} : ∀ (a : List Nat), (∃ p ∈ L, (32 : UInt8) ∈ p) → fullP L a = none := by
  induction L with
  | nil => intro a ⟨p, hp, _⟩; cases hp
  | cons q r ih =>
    intro a ⟨p, hp, hm⟩
    unfold fullP
    rcases List.mem_cons.1 hp with rfl | hp
    · rw [if_neg (fun hx => hexParse_no32 hx hm), if_neg (fun hx => v4parse_no32 hx.1 hm)]
    · by_cases hx : (hexParse q).2 = true
      · rw [if_pos hx]; exact ih _ ⟨p, hp, hm⟩
      · rw [if_neg hx, if_neg (fun hy => by rw [hy.2] at hp; cases hp)]
theorem fourL_no32 {may : Bool} {l : List UInt8} (hm : (32 : UInt8) ∈ l) : fourL may l = none := by
  unfold fourL
  rw [if_neg (fun h => by rw [h] at hm; cases hm)]
  cases h : fourP may (splitL 58 l) [] with
  | none => rfl
  | some g =>
    have h1 := fourP_full h
    have h2 := fullP_no32 [] (split_mem (c := 58) (d := 32) (by decide) l hm)
    rw [h2] at h1; cases h1
theorem v6parse_no32 {l : List UInt8} (h : (v6parse l).2.2 = true) : (32 : UInt8) ∉ l := by
  intro hm
  have hz : spreadL l = none := by
    unfold spreadL
    cases hg : gapO l with
    | none => exact fourL_no32 hm
    | some i =>
      obtain ⟨h1, h2, _⟩ := gapO_some hg
      simp only
      obtain ⟨k, hk⟩ := List.mem_iff_getElem?.1 hm
      have k1 : k ≠ i := fun e => by rw [e, h1] at hk; cases hk
      have k2 : k ≠ i + 1 := fun e => by rw [e, h2] at hk; cases hk
      by_cases hlt : k < i
      · have : (32 : UInt8) ∈ l.take i := List.mem_iff_getElem?.2 ⟨k, by rw [List.getElem?_take, if_pos hlt]; exact hk⟩
        rw [fourL_no32 this]
      · have : (32 : UInt8) ∈ l.drop (i + 2) := List.mem_iff_getElem?.2 ⟨k - (i + 2), by rw [List.getElem?_drop, show i + 2 + (k - (i + 2)) = k from by omega]; exact hk⟩
        rw [fourL_no32 this]
        cases fourL false (l.take i) <;> rfl
  unfold v6parse at h
  rw [hz] at h; cases h
theorem adParse_no32 {l : List UInt8} (h : (adParse l).2 = true) : (32 : UInt8) ∉ l := by
  unfold adParse at h
  split at h
  · rename_i h4; exact v4parse_no32 h4
  · split at h
    · rename_i h6; exact v6parse_no32 h6
    · cases h
theorem adText_no32 (a : Ad) (hf : a.fits) : (32 : UInt8) ∉ adText a := by
  cases h : adRight a with
  | true => exact adParse_no32 (by rw [adParse_text a hf h])
  | false => rw [adText_bad a h]; simp
/-- read as one of six, an address is what it stands for -/
theorem decText_no32 (n : Int) : (32 : UInt8) ∉ decText n := by unfold decText; split <;> simp [digs_no32]
theorem ntText_no32 (n : Nt) (hf : n.ad.fits) : (32 : UInt8) ∉ ntText n := by
  unfold ntText; split <;> simp [adText_no32 n.ad hf, decText_no32]
theorem enText_no32 (e : En) (hf : e.ad.fits) : (32 : UInt8) ∉ enText e := by
  unfold enText; split
  · split <;> simp [adText_no32 e.ad hf, decText_no32]
  · simp
end Go.Proofs.Ytnohkfbapibmdaa
namespace Go.Proofs.Ytnohkfbapibmdaa
open Go.RowKit

structure Ba where
  nt : Nt
  till : Int
deriving DecidableEq
instance : Inhabited Ba := ⟨⟨⟨⟨false, 0, 0⟩, 0⟩, 0⟩⟩
theorem Ba.ext' {a b : Ba} (h1 : a.nt = b.nt) (h2 : a.till = b.till) : a = b := by cases a; cases b; simp_all
theorem ntText_ne (n : Nt) (h : ntRight n = true) : ntText n ≠ [] := by unfold ntText; rw [if_pos h]; simp
theorem decParse_dec (n : Int) (h0 : 0 ≤ n) (h1 : n ≤ 1099511627776) : decParse (decText n) 1099511627776 = (n, true) := by
  have hd : decText n = digs n.toNat := by unfold decText; rw [if_neg (by omega)]; congr 1; omega
  rw [hd, decParse_digs n.toNat _ (by omega) (by omega)]; congr 1; omega
end Go.Proofs.Ytnohkfbapibmdaa
namespace Go.Proofs.Ytnohkfbapibmdaa
open Go.RowKit

structure Cl where
  kind : Int
  en : En
  nt : Nt
  now : Int
  num : Int
  good : Bool
def zeroCl (k : Int) : Cl := ⟨k, ⟨⟨false, 0, 0⟩, 0⟩, ⟨⟨false, 0, 0⟩, 0⟩, 0, 0, false⟩
/-- the parts of a kind: 0 its end, 1 its subnet, 2 its address, 3 now, 4 its number, 5 good or bad -/
def clParts (k : Int) : List Nat :=
  if k = 1 ∨ k = 12 ∨ k = 13 then [0, 3] else if k = 2 then [0] else if k = 3 ∨ k = 9 then [3] else if k = 4 then [0, 5, 3, 4] else if k = 5 then [0, 4, 3]
  else if k = 6 then [1, 4, 3] else if k = 7 then [1] else if k = 8 then [2, 3] else if k = 11 then [0, 4] else []
def clSpan (k : Int) : Int × Int := if k = 4 then (0, 1073741824) else if k = 5 then (1, 5) else if k = 6 then (1, 1099511627776) else (1, 1048576)
def clRight1 (c : Cl) (p : Nat) : Bool := match p with
  | 0 => enRight c.en
  | 1 => ntRight c.nt
  | 2 => adRight c.en.ad
  | 3 => decide (0 ≤ c.now) && decide (c.now ≤ 1099511627776)
  | 4 => decide ((clSpan c.kind).1 ≤ c.num) && decide (c.num ≤ (clSpan c.kind).2)
  | _ => true
def clRight (c : Cl) : Bool := decide (nameAt callN c.kind ≠ []) && (clParts c.kind).all (clRight1 c)
def clPut (c o : Cl) (p : Nat) : Cl := match p with
  | 0 => { o with en := c.en }
  | 1 => { o with nt := c.nt }
  | 2 => { o with en := ⟨c.en.ad, o.en.port⟩ }
  | 3 => { o with now := c.now }
  | 4 => { o with num := c.num }
  | 5 => { o with good := c.good }
  | _ => o
def clClean (c : Cl) : Cl := if nameAt callN c.kind = [] then zeroCl 0 else (clParts c.kind).foldl (clPut c) (zeroCl c.kind)
def orL (l : List UInt8) : List UInt8 := if l = [] then [45] else l
def goodL : List UInt8 := [103, 111, 111, 100]
def badL : List UInt8 := [98, 97, 100]
def clWritten (c : Cl) (p : Nat) : List UInt8 := match p with
  | 0 => enText c.en
  | 1 => orL (ntText c.nt)
  | 2 => orL (adText c.en.ad)
  | 3 => decText c.now
  | 4 => decText c.num
  | _ => if c.good = true then goodL else badL
def clText (c : Cl) : List UInt8 := if nameAt callN c.kind = [] then [] else joinL 32 (nameAt callN c.kind :: (clParts c.kind).map (clWritten c))
def clRead (c : Cl) (p : Nat) (s : List UInt8) : Cl × Bool := match p with
  | 0 => ({ c with en := (enParse s).1 }, decide (s ≠ []))
  | 1 => ({ c with nt := if (ntParse s).2 = true then (ntParse s).1 else ⟨(ntParse s).1.ad, -1⟩ }, decide (s ≠ []))
  | 2 => ({ c with en := ⟨if (adParse s).2 = true then (adParse s).1 else ⟨(adParse s).1.v6, 18446744073709551615, (adParse s).1.lo⟩, c.en.port⟩ }, decide (s ≠ []))
  | 3 => ({ c with now := (decParse s 1099511627776).1 }, (decParse s 1099511627776).2)
  | 4 => ({ c with num := (decParse s 1099511627776).1 }, (decParse s 1099511627776).2)
  | _ => ({ c with good := decide (s = goodL) }, decide (s = goodL) || decide (s = badL))
def clGo (c : Cl) : List Nat → List (List UInt8) → Cl × Bool
  | p :: ps, s :: ss => if (clRead c p s).2 = true then clGo (clRead c p s).1 ps ss else (zeroCl 0, false)
  | _, _ => (c, true)
def clKind (s : List UInt8) : Int := kindOf ((splitL 32 s).headD [])
def clParse (s : List UInt8) : Cl × Bool :=
  if clKind s = 0 ∨ (splitL 32 s).length ≠ 1 + (clParts (clKind s)).length then (zeroCl 0, false) else clGo (zeroCl (clKind s)) (clParts (clKind s)) (splitL 32 s).tail
theorem named_iff (k : Int) : nameAt callN k ≠ [] ↔ 1 ≤ k ∧ k ≤ 13 := by
  constructor
  · intro h
    rcases Int.lt_or_le k 0 with h0 | h0
    · exact absurd (nameAt_lo h0) h
    · rcases Int.lt_or_le k 14 with h1 | h1
      · have hk : k ≠ 0 := fun e => by subst e; exact h (by decide)
        omega
      · exact absurd (nameAt_hi (by exact h1)) h
  · intro ⟨h1, h2⟩
    have : k = 1 ∨ k = 2 ∨ k = 3 ∨ k = 4 ∨ k = 5 ∨ k = 6 ∨ k = 7 ∨ k = 8 ∨ k = 9 ∨ k = 10 ∨ k = 11 ∨ k = 12 ∨ k = 13 := by omega
    rcases this with rfl | rfl | rfl | rfl | rfl | rfl | rfl | rfl | rfl | rfl | rfl | rfl | rfl <;> decide
theorem kinds {k : Int} (h : 1 ≤ k ∧ k ≤ 13) : k = 1 ∨ k = 2 ∨ k = 3 ∨ k = 4 ∨ k = 5 ∨ k = 6 ∨ k = 7 ∨ k = 8 ∨ k = 9 ∨ k = 10 ∨ k = 11 ∨ k = 12 ∨ k = 13 := by omega
theorem kind_name {k : Int} (h : 1 ≤ k ∧ k ≤ 13) : kindOf (nameAt callN k) = k ∧ (32 : UInt8) ∉ nameAt callN k ∧ (nameAt callN k).length ≤ 10 := by
  rcases kinds h with rfl | rfl | rfl | rfl | rfl | rfl | rfl | rfl | rfl | rfl | rfl | rfl | rfl <;> decide +kernel
theorem kindOf_in (s : List UInt8) : 0 ≤ kindOf s ∧ kindOf s ≤ 13 := by
  unfold kindOf
  cases h : callN.findIdx? (· == s) with
  | none => exact ⟨by decide, by decide⟩
  | some i =>
    rw [List.findIdx?_eq_some_iff_getElem] at h
    obtain ⟨hi, _⟩ := h
    have : callN.length = 14 := rfl
    simp only; omega
/-! ### cleaned: the same line -/
theorem clean_kind {c : Cl} (h : nameAt callN c.kind ≠ []) : (clClean c).kind = c.kind ∧ (∀ p ∈ clParts c.kind, clWritten (clClean c) p = clWritten c p) ∧ ∀ p ∈ clParts c.kind, clRight1 (clClean c) p = clRight1 c p := by
  have hk := (named_iff _).1 h
  obtain ⟨k, e, n, a, b, g⟩ := c
  simp only at h hk
  unfold clClean
  simp only [if_neg h]
  rcases kinds hk with rfl | rfl | rfl | rfl | rfl | rfl | rfl | rfl | rfl | rfl | rfl | rfl | rfl <;> simp [clParts, clPut, zeroCl, clWritten, clRight1]
theorem clean_text (c : Cl) : clText (clClean c) = clText c := by
  by_cases h : nameAt callN c.kind = []
  · have e : clClean c = zeroCl 0 := by unfold clClean; rw [if_pos h]
    rw [e]
    unfold clText
    rw [if_pos h, if_pos (by decide)]
  · obtain ⟨h1, h2, _⟩ := clean_kind h
    unfold clText
    rw [h1, if_neg h, if_neg h, List.map_congr_left h2]
theorem clean_right {c : Cl} (h : clRight c = true) : clRight (clClean c) = true := by
  unfold clRight at h ⊢
  rw [Bool.and_eq_true] at h
  have hn := of_decide_eq_true h.1
  obtain ⟨h1, _, h3⟩ := clean_kind hn
  rw [h1, Bool.and_eq_true]
  refine ⟨h.1, ?_⟩
  rw [List.all_eq_true] at h ⊢
  exact fun p hp => by rw [h3 p hp]; exact h.2 p hp
/-! ### one that is right is read of its line -/
theorem enText_ne (e : En) : enText e ≠ [] := by unfold enText; split <;> simp
theorem adText_ne {a : Ad} (hf : a.fits) (h : adRight a = true) : adText a ≠ [] := fun e => by
  have h1 := adParse_text a hf h
  rw [e, show adParse [] = (⟨false, 0, 0⟩, false) by decide +kernel] at h1
  cases h1
theorem orL_same {l : List UInt8} (h : l ≠ []) : orL l = l := by unfold orL; rw [if_neg h]
def Cl.fitsA (c : Cl) : Prop := c.en.ad.fits ∧ c.nt.ad.fits
theorem read_written {c : Cl} (hf : c.fitsA) (o : Cl) {p : Nat} (h : clRight1 c p = true) (hp : p ≤ 5) : clRead o p (clWritten c p) = (clPut c o p, true) := by
  have : p = 0 ∨ p = 1 ∨ p = 2 ∨ p = 3 ∨ p = 4 ∨ p = 5 := by omega
  rcases this with rfl | rfl | rfl | rfl | rfl | rfl
  · simp only [clRight1] at h
    simp only [clRead, clWritten, clPut, enParse_text c.en hf.1 h]
    simp [enText_ne]
  · simp only [clRight1] at h
    simp only [clRead, clWritten, clPut, orL_same (ntText_ne _ h), ntParse_text c.nt hf.2 h]
    simp [ntText_ne _ h]
  · simp only [clRight1] at h
    simp only [clRead, clWritten, clPut, orL_same (adText_ne hf.1 h), adParse_text c.en.ad hf.1 h]
    simp [adText_ne hf.1 h]
  · simp only [clRight1, Bool.and_eq_true, decide_eq_true_eq] at h
    simp only [clRead, clWritten, clPut, decParse_dec _ h.1 h.2]
  · simp only [clRight1, Bool.and_eq_true, decide_eq_true_eq] at h
    have h0 : 0 ≤ c.num ∧ c.num ≤ 1099511627776 := by
      unfold clSpan at h
      split at h
      · omega
      · split at h
        · omega
        · split at h <;> omega
    simp only [clRead, clWritten, clPut, decParse_dec _ h0.1 h0.2]
  · simp only [clRead, clWritten, clPut]
    cases c.good <;> simp [goodL, badL]
theorem go_written {c : Cl} (hf : c.fitsA) : ∀ (ps : List Nat) (o : Cl), (∀ p ∈ ps, clRight1 c p = true ∧ p ≤ 5) → clGo o ps (ps.map (clWritten c)) = (ps.foldl (clPut c) o, true)
  | [], _, _ => rfl
  | p :: ps, o, h => by
    have h1 := h p (List.mem_cons_self ..)
    rw [List.map_cons, clGo, read_written hf o h1.1 h1.2, if_pos rfl, List.foldl_cons]
    exact go_written hf ps _ fun q hq => h q (List.mem_cons_of_mem _ hq)
theorem parts_le5 (k : Int) : ∀ p ∈ clParts k, p ≤ 5 := by
  unfold clParts
  repeat' split
  all_goals decide
theorem written_no32 {c : Cl} (hf : c.fitsA) (p : Nat) : (32 : UInt8) ∉ clWritten c p := by
  have hor : ∀ l : List UInt8, (32 : UInt8) ∉ l → (32 : UInt8) ∉ orL l := fun l h => by unfold orL; split <;> simp_all
  unfold clWritten
  split
  · exact enText_no32 _ hf.1
  · exact hor _ (ntText_no32 _ hf.2)
  · exact hor _ (adText_no32 _ hf.1)
  · exact decText_no32 _
  · exact decText_no32 _
  · split <;> decide
theorem clParse_text {c : Cl} (hf : c.fitsA) (h : clRight c = true) : clParse (clText c) = (clClean c, true) := by
  unfold clRight at h
  rw [Bool.and_eq_true, List.all_eq_true] at h
  have hn := of_decide_eq_true h.1
  have hk := (named_iff _).1 hn
  obtain ⟨h1, h2, _⟩ := kind_name hk
  have hs : splitL 32 (clText c) = nameAt callN c.kind :: (clParts c.kind).map (clWritten c) := by
    unfold clText
    rw [if_neg hn]
    refine splitL_join 32 _ (by simp) fun x hx => ?_
    rcases List.mem_cons.1 hx with rfl | hx
    · exact h2
    · obtain ⟨p, _, rfl⟩ := List.mem_map.1 hx
      exact written_no32 hf p
  have hkk : clKind (clText c) = c.kind := by unfold clKind; rw [hs]; exact h1
  unfold clParse
  rw [hkk, hs, if_neg (by
    intro e
    rcases e with e | e
    · omega
    · simp at e; omega), List.tail_cons, go_written hf _ _ fun p hp => ⟨h.2 p hp, parts_le5 _ p hp⟩]
  unfold clClean
  rw [if_neg hn]
/-! ### what is read is clean -/
theorem go_false : ∀ (ps : List Nat) (ss : List (List UInt8)) (c : Cl), (clGo c ps ss).2 = false → clGo c ps ss = (zeroCl 0, false)
  | [], _, c, h => by simp [clGo] at h
  | p :: ps, [], c, h => by simp [clGo] at h
  | p :: ps, s :: ss, c, h => by
    rw [clGo] at h ⊢
    split
    · rename_i hc
      rw [if_pos hc] at h
      exact go_false ps ss _ h
    · rfl
theorem clParse_no {s : List UInt8} (h : (clParse s).2 = false) : clParse s = (zeroCl 0, false) := by
  unfold clParse at h ⊢
  split
  · rfl
  · rename_i hc
    rw [if_neg hc] at h
    exact go_false _ _ _ h
theorem len_cons {α : Type} {l : List α} {n : Nat} (h : l.length = n + 1) : ∃ a r, l = a :: r ∧ r.length = n := by
  match l, h with
  | a :: r, h => exact ⟨a, r, rfl, by simpa using h⟩
theorem len_nil {α : Type} {l : List α} (h : l.length = 0) : l = [] := List.eq_nil_of_length_eq_zero h
theorem go_true {c : Cl} {p : Nat} {ps : List Nat} {s : List UInt8} {ss : List (List UInt8)} (h : (clGo c (p :: ps) (s :: ss)).2 = true) : clGo c (p :: ps) (s :: ss) = clGo (clRead c p s).1 ps ss ∧ (clGo (clRead c p s).1 ps ss).2 = true := by
  rw [clGo] at h ⊢
  split
  · rename_i hc
    rw [if_pos hc] at h
    exact ⟨rfl, h⟩
  · rename_i hc
    rw [if_neg hc] at h; cases h
theorem go_end (c : Cl) : clGo c [] [] = (c, true) := rfl
theorem clParse_ok {s : List UInt8} (h : (clParse s).2 = true) : clClean (clParse s).1 = (clParse s).1 ∧ (clParse s).1.kind ≠ 0 := by
  unfold clParse at h ⊢
  split
  · rename_i hc
    rw [if_pos hc] at h; cases h
  · rename_i hc
    rw [if_neg hc] at h
    have hk0 : clKind s ≠ 0 := fun e => hc (Or.inl e)
    have hlen : (splitL 32 s).length = 1 + (clParts (clKind s)).length := Decidable.byContradiction fun e => hc (Or.inr e)
    have hkk := kindOf_in ((splitL 32 s).headD [])
    have hk : 1 ≤ clKind s ∧ clKind s ≤ 13 := by unfold clKind at hk0 ⊢; omega
    have ht : (splitL 32 s).tail.length = (clParts (clKind s)).length := by rw [List.length_tail]; omega
    clear hc hlen hkk hk0
    generalize (splitL 32 s).tail = ss at *
    generalize clKind s = k at *
    have one : ∀ (k : Int) (p : Nat), nameAt callN k ≠ [] → clParts k = [p] → (∀ a, clClean (clRead (zeroCl k) p a).1 = (clRead (zeroCl k) p a).1 ∧ (clRead (zeroCl k) p a).1.kind ≠ 0) → ss.length = (clParts k).length → (clGo (zeroCl k) (clParts k) ss).2 = true → clClean (clGo (zeroCl k) (clParts k) ss).1 = (clGo (zeroCl k) (clParts k) ss).1 ∧ (clGo (zeroCl k) (clParts k) ss).1.kind ≠ 0 := by
      intro k p _ hp hq hs hg
      rw [hp] at hs hg ⊢
      obtain ⟨a, r, rfl, h1⟩ := len_cons (n := 0) hs
      obtain rfl := len_nil h1
      rw [(go_true hg).1, go_end]
      exact hq a
    have two : ∀ (k : Int) (p q : Nat), nameAt callN k ≠ [] → clParts k = [p, q] → (∀ a b, clClean (clRead (clRead (zeroCl k) p a).1 q b).1 = (clRead (clRead (zeroCl k) p a).1 q b).1 ∧ (clRead (clRead (zeroCl k) p a).1 q b).1.kind ≠ 0) → ss.length = (clParts k).length → (clGo (zeroCl k) (clParts k) ss).2 = true → clClean (clGo (zeroCl k) (clParts k) ss).1 = (clGo (zeroCl k) (clParts k) ss).1 ∧ (clGo (zeroCl k) (clParts k) ss).1.kind ≠ 0 := by
      intro k p q _ hp hq hs hg
      rw [hp] at hs hg ⊢
      obtain ⟨a, r, rfl, h1⟩ := len_cons (n := 1) hs
      obtain ⟨b, r, rfl, h2⟩ := len_cons (n := 0) h1
      obtain rfl := len_nil h2
      obtain ⟨e1, g1⟩ := go_true hg
      rw [e1, (go_true g1).1, go_end]
      exact hq a b
    have three : ∀ (k : Int) (p q t : Nat), nameAt callN k ≠ [] → clParts k = [p, q, t] → (∀ a b d, clClean (clRead (clRead (clRead (zeroCl k) p a).1 q b).1 t d).1 = (clRead (clRead (clRead (zeroCl k) p a).1 q b).1 t d).1 ∧ (clRead (clRead (clRead (zeroCl k) p a).1 q b).1 t d).1.kind ≠ 0) → ss.length = (clParts k).length → (clGo (zeroCl k) (clParts k) ss).2 = true → clClean (clGo (zeroCl k) (clParts k) ss).1 = (clGo (zeroCl k) (clParts k) ss).1 ∧ (clGo (zeroCl k) (clParts k) ss).1.kind ≠ 0 := by
      intro k p q t _ hp hq hs hg
      rw [hp] at hs hg ⊢
      obtain ⟨a, r, rfl, h1⟩ := len_cons (n := 2) hs
      obtain ⟨b, r, rfl, h2⟩ := len_cons (n := 1) h1
      obtain ⟨d, r, rfl, h3⟩ := len_cons (n := 0) h2
      obtain rfl := len_nil h3
      obtain ⟨e1, g1⟩ := go_true hg
      obtain ⟨e2, g2⟩ := go_true g1
      rw [e1, e2, (go_true g2).1, go_end]
      exact hq a b d
    have cln : ∀ (x : Cl), nameAt callN x.kind ≠ [] → x.kind ≠ 0 → (clParts x.kind).foldl (clPut x) (zeroCl x.kind) = x → clClean x = x ∧ x.kind ≠ 0 := fun x h1 h2 h3 => ⟨by unfold clClean; rw [if_neg h1]; exact h3, h2⟩
    rcases kinds hk with rfl | rfl | rfl | rfl | rfl | rfl | rfl | rfl | rfl | rfl | rfl | rfl | rfl
    · exact two 1 0 3 (by decide) rfl (fun a b => cln _ (by show nameAt callN 1 ≠ []; decide) (by show (1 : Int) ≠ 0; decide) rfl) ht h
    · exact one 2 0 (by decide) rfl (fun a => cln _ (by show nameAt callN 2 ≠ []; decide) (by show (2 : Int) ≠ 0; decide) rfl) ht h
    · exact one 3 3 (by decide) rfl (fun a => cln _ (by show nameAt callN 3 ≠ []; decide) (by show (3 : Int) ≠ 0; decide) rfl) ht h
    · rw [show clParts 4 = [0, 5, 3, 4] from rfl] at ht h ⊢
      obtain ⟨a, r, rfl, h1⟩ := len_cons (n := 3) ht
      obtain ⟨b, r, rfl, h2⟩ := len_cons (n := 2) h1
      obtain ⟨d, r, rfl, h3⟩ := len_cons (n := 1) h2
      obtain ⟨e, r, rfl, h4⟩ := len_cons (n := 0) h3
      obtain rfl := len_nil h4
      obtain ⟨e1, g1⟩ := go_true h
      obtain ⟨e2, g2⟩ := go_true g1
      obtain ⟨e3, g3⟩ := go_true g2
      rw [e1, e2, e3, (go_true g3).1, go_end]
      exact cln _ (by show nameAt callN 4 ≠ []; decide) (by show (4 : Int) ≠ 0; decide) rfl
    · exact three 5 0 4 3 (by decide) rfl (fun a b d => cln _ (by show nameAt callN 5 ≠ []; decide) (by show (5 : Int) ≠ 0; decide) rfl) ht h
    · exact three 6 1 4 3 (by decide) rfl (fun a b d => cln _ (by show nameAt callN 6 ≠ []; decide) (by show (6 : Int) ≠ 0; decide) rfl) ht h
    · exact one 7 1 (by decide) rfl (fun a => cln _ (by show nameAt callN 7 ≠ []; decide) (by show (7 : Int) ≠ 0; decide) rfl) ht h
    · exact two 8 2 3 (by decide) rfl (fun a b => cln _ (by show nameAt callN 8 ≠ []; decide) (by show (8 : Int) ≠ 0; decide) rfl) ht h
    · exact one 9 3 (by decide) rfl (fun a => cln _ (by show nameAt callN 9 ≠ []; decide) (by show (9 : Int) ≠ 0; decide) rfl) ht h
    · rw [show clParts 10 = [] from rfl] at ht h ⊢
      obtain rfl := len_nil ht
      exact cln (zeroCl 10) (by show nameAt callN 10 ≠ []; decide) (by show (10 : Int) ≠ 0; decide) rfl
    · exact two 11 0 4 (by decide) rfl (fun a b => cln _ (by show nameAt callN 11 ≠ []; decide) (by show (11 : Int) ≠ 0; decide) rfl) ht h
    · exact two 12 0 3 (by decide) rfl (fun a b => cln _ (by show nameAt callN 12 ≠ []; decide) (by show (12 : Int) ≠ 0; decide) rfl) ht h
    · exact two 13 0 3 (by decide) rfl (fun a b => cln _ (by show nameAt callN 13 ≠ []; decide) (by show (13 : Int) ≠ 0; decide) rfl) ht h
theorem clText_len {c : Cl} (hf : c.fitsA) (h1 : -9223372036854775808 ≤ c.now ∧ c.now ≤ 9223372036854775807) (h2 : -9223372036854775808 ≤ c.num ∧ c.num ≤ 9223372036854775807) : (clText c).length ≤ 100000 := by
  unfold clText
  split
  · simp
  · rename_i hn
    have hk := (named_iff _).1 hn
    have hnm := (kind_name hk).2.2
    have hw : ∀ p, (clWritten c p).length ≤ 3000 := fun p => by
      have hor : ∀ l : List UInt8, l.length ≤ 2999 → (orL l).length ≤ 3000 := fun l h => by
        unfold orL; split
        · decide
        · omega
      unfold clWritten
      split
      · have := enText_len c.en hf.1; omega
      · refine hor _ ?_
        unfold ntText
        split
        · have := adText_len c.nt.ad hf.2
          rename_i hr
          have hb : decText c.nt.bits = digs c.nt.bits.natAbs ∨ decText c.nt.bits = 45 :: digs c.nt.bits.natAbs := by unfold decText; split <;> simp
          have hbl : (decText c.nt.bits).length ≤ 21 := by
            have hab : adBits c.nt.ad ≤ 128 := by unfold adBits; split <;> decide
            unfold ntRight at hr
            refine decText_len _ ?_ ?_ <;> simp_all <;> omega
          simp only [List.length_append, List.length_cons]; omega
        · simp
      · refine hor _ ?_
        have := adText_len c.en.ad hf.1; omega
      · have := decText_len _ h1.1 h1.2; omega
      · have := decText_len _ h2.1 h2.2; omega
      · split <;> decide
    have hpl : (clParts c.kind).length ≤ 4 := by unfold clParts; (repeat' split) <;> decide
    have := joinL_len 32 (nameAt callN c.kind :: (clParts c.kind).map (clWritten c)) 5 3000 (fun x hx => by
      rcases List.mem_cons.1 hx with rfl | hx
      · omega
      · obtain ⟨p, _, rfl⟩ := List.mem_map.1 hx
        exact hw p) (by simp; omega)
    omega
end Go.Proofs.Ytnohkfbapibmdaa
