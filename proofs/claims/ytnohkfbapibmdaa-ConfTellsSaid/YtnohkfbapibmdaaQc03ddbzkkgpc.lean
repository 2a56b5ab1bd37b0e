/- Texts put together: PlEnd, PlNoB, PlBan, PlConf, PlConfB, PlConfC. No condition. -/
import Derived.Test.YtnohkfbapibmdaaPlNetP
import Derived.Lib.LastIndexByte
import Derived.Lib.Strings
import Derived.Test.YtnohkfbapibmdaaQd16f6cwkocsi
/- Ends: what is right, read, written. Plain. -/
namespace Go.Proofs.Ytnohkfbapibmdaa
open Go.RowKit

def lastO (c : UInt8) : List UInt8 → Option Nat
  | [] => none
  | x :: r => match lastO c r with | some i => some (i + 1) | none => if x = c then some 0 else none
theorem lastO_none {c : UInt8} {l : List UInt8} (h : lastO c l = none) : c ∉ l := by
  induction l with
  | nil => simp
  | cons x r ih =>
    unfold lastO at h
    cases hr : lastO c r with
    | some i => rw [hr] at h; cases h
    | none =>
      rw [hr] at h; simp only at h
      by_cases hx : x = c
      · rw [if_pos hx] at h; cases h
      · intro hm
        rcases List.mem_cons.1 hm with e | e
        · exact hx e.symm
        · exact ih hr e
theorem lastO_some {c : UInt8} {l : List UInt8} {i : Nat} (h : lastO c l = some i) : l[i]? = some c ∧ c ∉ l.drop (i + 1) ∧ i < l.length := by
  induction l generalizing i with
  | nil => cases h
  | cons x r ih =>
    unfold lastO at h
    cases hr : lastO c r with
    | some j =>
      rw [hr] at h; simp only [Option.some.injEq] at h; subst h
      obtain ⟨a, b, d⟩ := ih hr
      exact ⟨by simpa using a, by simpa using b, by simp; omega⟩
    | none =>
      rw [hr] at h; simp only at h
      by_cases hx : x = c
      · rw [if_pos hx] at h; injection h with h; subst h
        exact ⟨by simp [hx], by simpa using lastO_none hr, by simp⟩
      · rw [if_neg hx] at h; cases h
theorem lastO_free {c : UInt8} {l : List UInt8} (h : c ∉ l) : lastO c l = none := by
  cases hl : lastO c l with
  | none => rfl
  | some i => exact absurd (List.mem_of_getElem? (lastO_some hl).1) h
theorem lastO_at {c : UInt8} {l : List UInt8} {i : Nat} (h1 : l[i]? = some c) (h2 : c ∉ l.drop (i + 1)) : lastO c l = some i := by
  cases hl : lastO c l with
  | none => exact absurd (List.mem_of_getElem? h1) (lastO_none hl)
  | some j =>
    obtain ⟨a, b, d⟩ := lastO_some hl
    rcases Nat.lt_trichotomy i j with h | h | h
    · exact absurd (List.mem_of_getElem? (i := j - (i + 1)) (by rw [List.getElem?_drop, show i + 1 + (j - (i + 1)) = j from by omega]; exact a)) h2
    · rw [h]
    · exact absurd (List.mem_of_getElem? (i := i - (j + 1)) (by rw [List.getElem?_drop, show j + 1 + (i - (j + 1)) = i from by omega]; exact h1)) b
theorem lastO_app {c : UInt8} (x : List UInt8) {r : List UInt8} (h : c ∉ r) : lastO c (x ++ c :: r) = some x.length := by
  refine lastO_at (by simp) ?_
  rw [show x ++ c :: r = (x ++ [c]) ++ r from by simp, show x.length + 1 = (x ++ [c]).length from by simp, List.drop_left]; exact h
def lastI (c : UInt8) (l : List UInt8) : Int := match lastO c l with | none => -1 | some i => i
theorem lastIdx_eq (s : ByteArray) : Lib.lastIndexByte s 58 = lastI 58 s.data.toList := by
  have hget : ∀ j, j < s.size → s.data.toList[j]? = some (s.data[j]!) := fun j hj => by
    rw [get_data s j hj]; congr 1
    show s.data[j] = s.data[j]!
    rw [getElem!_pos s.data j hj]
  have h58 : ∀ b : UInt8, (b.toNat : Int) = 58 ↔ b = 58 := fun b => ⟨fun h => byte_eq (by rw [h]; rfl), fun h => by rw [h]; rfl⟩
  unfold Lib.lastIndexByte lastI
  rcases Lib.lastIdx_spec s 58 s.size with ⟨h1, h2⟩ | ⟨i, h1, h2, h3, h4⟩
  · rw [h1, lastO_free]
    intro hm
    obtain ⟨k, hk⟩ := List.mem_iff_getElem?.1 hm
    have hl := (List.getElem?_eq_some_iff.1 hk).1
    rw [len_data] at hl
    rw [hget k hl] at hk
    injection hk with hk
    exact h2 k hl ((h58 _).2 hk)
  · rw [h2, lastO_at (i := i)]
    · rw [hget i h1, (h58 _).1 h3]
    · intro hm
      obtain ⟨k, hk⟩ := List.mem_iff_getElem?.1 hm
      rw [List.getElem?_drop] at hk
      have hl := (List.getElem?_eq_some_iff.1 hk).1
      rw [len_data] at hl
      rw [hget _ hl] at hk
      injection hk with hk
      exact h4 _ (by omega) hl ((h58 _).2 hk)

/-! ### reading -/
def zeroE : En × Bool := (⟨⟨false, 0, 0⟩, 0⟩, false)
def innerL (h : List UInt8) : List UInt8 := (h.drop 1).take (h.length - 2)
def boxed (h : List UInt8) : Prop := 2 ≤ h.length ∧ h[0]? = some 91 ∧ h[h.length - 1]? = some 93
instance (h : List UInt8) : Decidable (boxed h) := by unfold boxed; infer_instance
/-- as the reference reads, at the last colon -/
def enPart (h : List UInt8) (q : Int × Bool) : En × Bool :=
  if q.2 = false ∨ q.1 < 1 then zeroE else if (v4parse h).2 = true then (⟨ad4 (v4parse h).1, q.1⟩, true)
  else if boxed h ∧ (v6parse (innerL h)).2.2 = true then (⟨adOf (v6parse (innerL h)).1 (v6parse (innerL h)).2.1, q.1⟩, true) else zeroE
def enParse (l : List UInt8) : En × Bool := match lastO 58 l with | none => zeroE | some i => enPart (l.take i) (decParse (l.drop (i + 1)) 65535)
def zeroA : Ad × Bool := (⟨false, 0, 0⟩, false)
/-- as the code reads the part ahead of the port -/
def hostP (h : List UInt8) : Ad × Bool := if h[0]? = some 91 then (if boxed h ∧ 58 ∈ innerL h then adParse (innerL h) else zeroA) else adParse h
def enCode (h : List UInt8) (q : Int × Bool) : En × Bool :=
  if h[0]? ≠ some 91 ∧ 58 ∈ h then zeroE else if (hostP h).2 = false ∨ q.2 = false ∨ q.1 = 0 then zeroE else (⟨(hostP h).1, q.1⟩, true)
theorem v4parse_no91 {l : List UInt8} (h : (v4parse l).2 = true) : (91 : UInt8) ∉ l := by
  have := (v4parse_true (l := l) (n := (v4parse l).1) (by rw [← h])).2
  intro hm; rw [this] at hm
  have hd : ∀ n : Nat, (91 : UInt8) ∉ digs n := fun n h => by have := digs_isDig n _ h; unfold isDig at this; simp at this
  unfold v4text v4parts at hm
  rw [joinL_cons, joinL_cons, joinL_cons, joinL_one] at hm
  simp [hd] at hm
theorem adParse_58 {l : List UInt8} (h : (58 : UInt8) ∈ l) : adParse l = if (v6parse l).2.2 = true then (adOf (v6parse l).1 (v6parse l).2.1, true) else zeroA := by
  unfold adParse zeroA
  rw [if_neg (fun h4 => v4parse_no58 h4 h)]
theorem adParse_no58 {l : List UInt8} (h : (58 : UInt8) ∉ l) : adParse l = if (v4parse l).2 = true then (ad4 (v4parse l).1, true) else zeroA := by
  unfold adParse zeroA
  by_cases h4 : (v4parse l).2 = true
  · rw [if_pos h4, if_pos h4]
  · rw [if_neg h4, if_neg h4, if_neg (fun h6 => h (v6parse_58 h6))]
theorem enCode_bad {h : List UInt8} (q : Int × Bool) (hp : hostP h = zeroA) : enCode h q = zeroE := by
  unfold enCode; rw [hp]
  split
  · rfl
  · exact if_pos (show zeroA.2 = false ∨ q.2 = false ∨ q.1 = 0 from Or.inl rfl)
theorem enCode_good {h : List UInt8} {q : Int × Bool} {a : Ad} (hq : 0 ≤ q.1) (hp : hostP h = (a, true)) (hc : ¬ (h[0]? ≠ some 91 ∧ 58 ∈ h)) : enCode h q = if q.2 = false ∨ q.1 < 1 then zeroE else (⟨a, q.1⟩, true) := by
  unfold enCode; rw [if_neg hc, hp]
  by_cases c : q.2 = false ∨ q.1 < 1
  · rw [if_pos c, if_pos]
    rcases c with c | c
    · exact Or.inr (Or.inl c)
    · exact Or.inr (Or.inr (by omega))
  · rw [if_neg c, if_neg]
    simp only
    rintro (d | d | d)
    · cases d
    · exact c (Or.inl d)
    · exact c (Or.inr (by omega))
theorem enPart_bad {h : List UInt8} (q : Int × Bool) (h4 : ¬ (v4parse h).2 = true) (h6 : ¬ (boxed h ∧ (v6parse (innerL h)).2.2 = true)) : enPart h q = zeroE := by
  unfold enPart
  rw [if_neg h4, if_neg h6]
  split <;> rfl
theorem en_eq (h : List UInt8) (q : Int × Bool) (hq : 0 ≤ q.1) : enPart h q = enCode h q := by
  by_cases hb : h[0]? = some 91
  · have h4 : ¬ (v4parse h).2 = true := fun c => v4parse_no91 c (List.mem_of_getElem? hb)
    by_cases hx : boxed h
    · by_cases h58 : (58 : UInt8) ∈ innerL h
      · have hp : hostP h = adParse (innerL h) := by unfold hostP; rw [if_pos hb, if_pos ⟨hx, h58⟩]
        rw [adParse_58 h58] at hp
        by_cases h6 : (v6parse (innerL h)).2.2 = true
        · rw [if_pos h6] at hp
          rw [enCode_good hq hp (fun c => c.1 hb)]
          unfold enPart
          rw [if_neg h4, if_pos (show boxed h ∧ (v6parse (innerL h)).2.2 = true from ⟨hx, h6⟩)]
        · rw [if_neg h6] at hp
          rw [enCode_bad q hp, enPart_bad q h4 (fun c => h6 c.2)]
      · have hp : hostP h = zeroA := by unfold hostP; rw [if_pos hb, if_neg (fun c => h58 c.2)]
        rw [enCode_bad q hp, enPart_bad q h4 (fun c => h58 (v6parse_58 c.2))]
    · have hp : hostP h = zeroA := by unfold hostP; rw [if_pos hb, if_neg (fun c => hx c.1)]
      rw [enCode_bad q hp, enPart_bad q h4 (fun c => hx c.1)]
  · have hx : ¬ boxed h := fun c => hb c.2.1
    by_cases h58 : (58 : UInt8) ∈ h
    · rw [enPart_bad q (fun c => v4parse_no58 c h58) (fun c => hx c.1)]
      unfold enCode; rw [if_pos ⟨hb, h58⟩]
    · have hp : hostP h = adParse h := by unfold hostP; rw [if_neg hb]
      rw [adParse_no58 h58] at hp
      by_cases h4 : (v4parse h).2 = true
      · rw [if_pos h4] at hp
        rw [enCode_good hq hp (fun c => h58 c.2)]
        unfold enPart
        rw [if_pos h4]
      · rw [if_neg h4] at hp
        rw [enCode_bad q hp, enPart_bad q h4 (fun c => hx c.1)]

/-! ### right, written -/
def enRight (e : En) : Bool := adRight e.ad && (decide (1 ≤ e.port) && decide (e.port ≤ 65535))
def enText (e : En) : List UInt8 := if enRight e = true then (if e.ad.v6 = true then 91 :: (adText e.ad ++ [93]) else adText e.ad) ++ 58 :: decText e.port else [45]
theorem enRight_iff (e : En) : enRight e = true ↔ adRight e.ad = true ∧ 1 ≤ e.port ∧ e.port ≤ 65535 := by unfold enRight; simp
theorem adOf_same (a : Ad) (h : adRight a = true) (hv : a.v6 = true) : adOf a.hi a.lo = a := by
  have := right6 a hv
  rw [h] at this; exact of_decide_eq_true this
theorem digs_no58' (n : Nat) : (58 : UInt8) ∉ digs n := digs_no58 n
theorem enParse_text (e : En) (hf : e.ad.fits) (h : enRight e = true) : enParse (enText e) = (e, true) := by
  obtain ⟨h1, h2, h3⟩ := (enRight_iff e).1 h
  have hd : decText e.port = digs e.port.toNat := by unfold decText; rw [if_neg (by omega)]; congr 1; omega
  have hq : decParse (digs e.port.toNat) 65535 = (e.port, true) := by
    rw [decParse_digs e.port.toNat 65535 (by omega) (by omega)]; congr 1; omega
  unfold enText
  rw [if_pos h, hd]
  unfold enParse
  rw [lastO_app _ (digs_no58 _)]
  simp only
  rw [List.take_left]
  have e2 : ∀ X : List UInt8, (X ++ 58 :: digs e.port.toNat).drop (X.length + 1) = digs e.port.toNat := fun X => by
    rw [show X ++ 58 :: digs e.port.toNat = (X ++ [58]) ++ digs e.port.toNat from by simp, show X.length + 1 = (X ++ [58]).length from by simp, List.drop_left]
  rw [e2, hq]
  unfold enPart
  rw [if_neg (by simp only; rintro (c | c); cases c; omega)]
  cases hv : e.ad.v6 with
  | true =>
    rw [if_pos rfl]
    have ht : adText e.ad = v6text e.ad.hi e.ad.lo := by unfold adText; rw [if_pos h1, if_pos hv]
    rw [if_neg (fun c => v4parse_no91 c (by simp))]
    have hin : innerL (91 :: (adText e.ad ++ [93])) = adText e.ad := by
      unfold innerL
      simp
    have hbx : boxed (91 :: (adText e.ad ++ [93])) := by
      refine ⟨by simp, by simp, ?_⟩
      simp
    rw [hin, ht, v6parse_text _ _ hf.1 hf.2, if_pos ⟨by rw [← ht]; exact hbx, rfl⟩]
    simp only
    rw [adOf_same e.ad h1 hv]
  | false =>
    rw [if_neg (show ¬ (false = true) from by simp)]
    have ht : adText e.ad = v4text e.ad.lo := by unfold adText; rw [if_pos h1, if_neg (by rw [hv]; simp)]
    have hr := h1
    unfold adRight at hr
    rw [if_neg (by rw [hv]; simp)] at hr
    obtain ⟨r1, r2⟩ := of_decide_eq_true hr
    rw [ht, v4parse_text _ r2, if_pos rfl]
    have : ad4 e.ad.lo = e.ad := Ad.ext' hv.symm r1.symm rfl
    simp only
    rw [this]
theorem enParse_dash : enParse [45] = zeroE := by decide +kernel
theorem enPart_ok (h : List UInt8) (q : Int × Bool) (hq : q.1 ≤ 65535) : (enPart h q).1.ad.fits ∧ ((enPart h q).2 = true → enRight (enPart h q).1 = true) ∧ ((enPart h q).2 = false → enPart h q = zeroE) := by
  have hz : zeroE.1.ad.fits ∧ (zeroE.2 = true → enRight zeroE.1 = true) ∧ (zeroE.2 = false → zeroE = zeroE) := ⟨⟨by decide, by decide⟩, fun h => (by cases h), fun _ => rfl⟩
  unfold enPart
  split
  · exact hz
  · rename_i hc
    split
    · rename_i h4
      have := adParse_lt4 h4
      refine ⟨⟨by simp [ad4], by simp only [ad4]; omega⟩, fun _ => ?_, fun h => (by cases h)⟩
      rw [enRight_iff]
      refine ⟨?_, by simp only; omega, by simp only; omega⟩
      unfold adRight ad4; rw [if_neg (by simp)]; exact decide_eq_true ⟨rfl, this⟩
    · split
      · have := v6parse_lt (innerL h)
        refine ⟨adOf_fits _ _ this.1 this.2, fun _ => ?_, fun h => (by cases h)⟩
        rw [enRight_iff]
        exact ⟨adOf_right _ _, by simp only; omega, by simp only; omega⟩
      · exact hz
theorem dec_le {l : List UInt8} {m : Int} (hm : 0 ≤ m) : 0 ≤ (decParse l m).1 ∧ (decParse l m).1 ≤ m := by
  cases h : (decParse l m).2 with
  | true =>
    obtain ⟨k, h1, _, h2, _⟩ := decParse_true (l := l) (most := m) (n := (decParse l m).1) (by rw [← h])
    omega
  | false => rw [decParse_false h]; exact ⟨by simp, hm⟩
theorem enParse_ok (l : List UInt8) : (enParse l).1.ad.fits ∧ ((enParse l).2 = true → enRight (enParse l).1 = true) ∧ ((enParse l).2 = false → enParse l = zeroE) := by
  unfold enParse
  cases lastO 58 l with
  | none => exact (⟨⟨by decide, by decide⟩, fun h => (by cases h), fun _ => rfl⟩ : zeroE.1.ad.fits ∧ (zeroE.2 = true → enRight zeroE.1 = true) ∧ (zeroE.2 = false → zeroE = zeroE))
  | some i => exact enPart_ok _ _ (dec_le (by omega)).2
theorem enText_inj (e f : En) (he : e.ad.fits) (hf : f.ad.fits) (h1 : enRight e = true) (h2 : enRight f = true) : e = f ↔ enText e = enText f := by
  constructor
  · intro h; rw [h]
  · intro h
    have a := enParse_text e he h1
    rw [h, enParse_text f hf h2] at a
    exact (congrArg Prod.fst a).symm
theorem enText_len (e : En) (hf : e.ad.fits) : (enText e).length ≤ 2000 := by
  unfold enText
  split
  · rename_i h
    obtain ⟨_, h2, h3⟩ := (enRight_iff e).1 h
    have h4 : (adText e.ad).length ≤ 1000 := adText_len e.ad hf
    have h5 := decText_len e.port (by omega) (by omega)
    split <;> simp <;> omega
  · simp
end Go.Proofs.Ytnohkfbapibmdaa
/- Texts of numbers, addresses, subnets and ends hold no blank and no line's end. Plain. -/
namespace Go.Proofs.Ytnohkfbapibmdaa
open Go.RowKit

theorem digs_no32 (n : Nat) : (32 : UInt8) ∉ digs n := fun h => by have := digs_isDig n _ h; unfold isDig at this; simp at this
theorem v4text_no32 (n : Nat) : (32 : UInt8) ∉ v4text n := by
  unfold v4text v4parts
  rw [joinL_cons, joinL_cons, joinL_cons, joinL_one]
  simp [digs_no32]
theorem v4parse_no32 {l : List UInt8} (h : (v4parse l).2 = true) : (32 : UInt8) ∉ l := by
  have := (v4parse_true (l := l) (n := (v4parse l).1) (by rw [← h])).2
  intro hm; rw [this] at hm; exact v4text_no32 _ hm
theorem hexParse_no32 {p : List UInt8} (h : (hexParse p).2 = true) : (32 : UInt8) ∉ p := by
  intro hm
  obtain ⟨a, b, rfl⟩ := List.append_of_mem hm
  have hz : hloop (a ++ 32 :: b) = none := by
    unfold hloop
    rw [List.foldl_append, List.foldl_cons]
    have : ∀ x : Option Int, hstep x 32 = none := fun x => by
      cases x with
      | none => rfl
      | some n =>
        show (if hexVal 32 < 0 then none else some (n * 16 + hexVal 32)) = none
        rw [if_pos (show hexVal 32 < 0 from by decide +kernel)]
    rw [this, hfold_none]
  unfold hexParse at h
  rw [hz] at h
  split at h <;> cases h
theorem fullP_no32 {L : List (List UInt8)} : ∀ (a : List Nat), (∃ p ∈ L, (32 : UInt8) ∈ p) → fullP L a = none := by
  induction L with
  | nil => intro a ⟨p, hp, _⟩; cases hp
  | cons q r ih =>
    intro a ⟨p, hp, hm⟩
    unfold fullP
    rcases List.mem_cons.1 hp with rfl | hp
    · rw [if_neg (fun hx => hexParse_no32 hx hm), if_neg (fun hx => v4parse_no32 hx.1 hm)]
    · by_cases hx : (hexParse q).2 = true
      · rw [if_pos hx]; exact ih _ ⟨p, hp, hm⟩
      · rw [if_neg hx, if_neg (fun hy => by rw [hy.2] at hp; cases hp)]
theorem fourL_no32 {may : Bool} {l : List UInt8} (hm : (32 : UInt8) ∈ l) : fourL may l = none := by
  unfold fourL
  rw [if_neg (fun h => by rw [h] at hm; cases hm)]
  cases h : fourP may (splitL 58 l) [] with
  | none => rfl
  | some g =>
    have h1 := fourP_full h
    have h2 := fullP_no32 [] (split_mem (c := 58) (d := 32) (by decide) l hm)
    rw [h2] at h1; cases h1
theorem v6parse_no32 {l : List UInt8} (h : (v6parse l).2.2 = true) : (32 : UInt8) ∉ l := by
  intro hm
  have hz : spreadL l = none := by
    unfold spreadL
    cases hg : gapO l with
    | none => exact fourL_no32 hm
    | some i =>
      obtain ⟨h1, h2, _⟩ := gapO_some hg
      simp only
      obtain ⟨k, hk⟩ := List.mem_iff_getElem?.1 hm
      have k1 : k ≠ i := fun e => by rw [e, h1] at hk; cases hk
      have k2 : k ≠ i + 1 := fun e => by rw [e, h2] at hk; cases hk
      by_cases hlt : k < i
      · have : (32 : UInt8) ∈ l.take i := List.mem_iff_getElem?.2 ⟨k, by rw [List.getElem?_take, if_pos hlt]; exact hk⟩
        rw [fourL_no32 this]
      · have : (32 : UInt8) ∈ l.drop (i + 2) := List.mem_iff_getElem?.2 ⟨k - (i + 2), by rw [List.getElem?_drop, show i + 2 + (k - (i + 2)) = k from by omega]; exact hk⟩
        rw [fourL_no32 this]
        cases fourL false (l.take i) <;> rfl
  unfold v6parse at h
  rw [hz] at h; cases h
theorem adParse_no32 {l : List UInt8} (h : (adParse l).2 = true) : (32 : UInt8) ∉ l := by
  unfold adParse at h
  split at h
  · rename_i h4; exact v4parse_no32 h4
  · split at h
    · rename_i h6; exact v6parse_no32 h6
    · cases h
theorem adText_no32 (a : Ad) (hf : a.fits) : (32 : UInt8) ∉ adText a := by
  cases h : adRight a with
  | true => exact adParse_no32 (by rw [adParse_text a hf h])
  | false => rw [adText_bad a h]; simp
/-- read as one of six, an address is what it stands for -/
theorem digs_no10 (n : Nat) : (10 : UInt8) ∉ digs n := fun h => by have := digs_isDig n _ h; unfold isDig at this; simp at this
theorem v4text_no10 (n : Nat) : (10 : UInt8) ∉ v4text n := by
  unfold v4text v4parts
  rw [joinL_cons, joinL_cons, joinL_cons, joinL_one]
  simp [digs_no10]
theorem v4parse_no10 {l : List UInt8} (h : (v4parse l).2 = true) : (10 : UInt8) ∉ l := by
  have := (v4parse_true (l := l) (n := (v4parse l).1) (by rw [← h])).2
  intro hm; rw [this] at hm; exact v4text_no10 _ hm
theorem hexParse_no10 {p : List UInt8} (h : (hexParse p).2 = true) : (10 : UInt8) ∉ p := by
  intro hm
  obtain ⟨a, b, rfl⟩ := List.append_of_mem hm
  have hz : hloop (a ++ 10 :: b) = none := by
    unfold hloop
    rw [List.foldl_append, List.foldl_cons]
    have : ∀ x : Option Int, hstep x 10 = none := fun x => by
      cases x with
      | none => rfl
      | some n =>
        show (if hexVal 10 < 0 then none else some (n * 16 + hexVal 10)) = none
        rw [if_pos (show hexVal 10 < 0 from by decide +kernel)]
    rw [this, hfold_none]
  unfold hexParse at h
  rw [hz] at h
  split at h <;> cases h
theorem fullP_no10 {L : List (List UInt8)} : ∀ (a : List Nat), (∃ p ∈ L, (10 : UInt8) ∈ p) → fullP L a = none := by
  induction L with
  | nil => intro a ⟨p, hp, _⟩; cases hp
  | cons q r ih =>
    intro a ⟨p, hp, hm⟩
    unfold fullP
    rcases List.mem_cons.1 hp with rfl | hp
    · rw [if_neg (fun hx => hexParse_no10 hx hm), if_neg (fun hx => v4parse_no10 hx.1 hm)]
    · by_cases hx : (hexParse q).2 = true
      · rw [if_pos hx]; exact ih _ ⟨p, hp, hm⟩
      · rw [if_neg hx, if_neg (fun hy => by rw [hy.2] at hp; cases hp)]
theorem fourL_no10 {may : Bool} {l : List UInt8} (hm : (10 : UInt8) ∈ l) : fourL may l = none := by
  unfold fourL
  rw [if_neg (fun h => by rw [h] at hm; cases hm)]
  cases h : fourP may (splitL 58 l) [] with
  | none => rfl
  | some g =>
    have h1 := fourP_full h
    have h2 := fullP_no10 [] (split_mem (c := 58) (d := 10) (by decide) l hm)
    rw [h2] at h1; cases h1
theorem v6parse_no10 {l : List UInt8} (h : (v6parse l).2.2 = true) : (10 : UInt8) ∉ l := by
  intro hm
  have hz : spreadL l = none := by
    unfold spreadL
    cases hg : gapO l with
    | none => exact fourL_no10 hm
    | some i =>
      obtain ⟨h1, h2, _⟩ := gapO_some hg
      simp only
      obtain ⟨k, hk⟩ := List.mem_iff_getElem?.1 hm
      have k1 : k ≠ i := fun e => by rw [e, h1] at hk; cases hk
      have k2 : k ≠ i + 1 := fun e => by rw [e, h2] at hk; cases hk
      by_cases hlt : k < i
      · have : (10 : UInt8) ∈ l.take i := List.mem_iff_getElem?.2 ⟨k, by rw [List.getElem?_take, if_pos hlt]; exact hk⟩
        rw [fourL_no10 this]
      · have : (10 : UInt8) ∈ l.drop (i + 2) := List.mem_iff_getElem?.2 ⟨k - (i + 2), by rw [List.getElem?_drop, show i + 2 + (k - (i + 2)) = k from by omega]; exact hk⟩
        rw [fourL_no10 this]
        cases fourL false (l.take i) <;> rfl
  unfold v6parse at h
  rw [hz] at h; cases h
theorem adParse_no10 {l : List UInt8} (h : (adParse l).2 = true) : (10 : UInt8) ∉ l := by
  unfold adParse at h
  split at h
  · rename_i h4; exact v4parse_no10 h4
  · split at h
    · rename_i h6; exact v6parse_no10 h6
    · cases h
theorem adText_no10 (a : Ad) (hf : a.fits) : (10 : UInt8) ∉ adText a := by
  cases h : adRight a with
  | true => exact adParse_no10 (by rw [adParse_text a hf h])
  | false => rw [adText_bad a h]; simp
/-- read as one of six, an address is what it stands for -/
theorem decText_no32 (n : Int) : (32 : UInt8) ∉ decText n := by unfold decText; split <;> simp [digs_no32]
theorem decText_no10 (n : Int) : (10 : UInt8) ∉ decText n := by unfold decText; split <;> simp [digs_no10]
theorem ntText_no32 (n : Nt) (hf : n.ad.fits) : (32 : UInt8) ∉ ntText n := by
  unfold ntText; split <;> simp [adText_no32 n.ad hf, decText_no32]
theorem ntText_no10 (n : Nt) (hf : n.ad.fits) : (10 : UInt8) ∉ ntText n := by
  unfold ntText; split <;> simp [adText_no10 n.ad hf, decText_no10]
theorem enText_no32 (e : En) (hf : e.ad.fits) : (32 : UInt8) ∉ enText e := by
  unfold enText; split
  · split <;> simp [adText_no32 e.ad hf, decText_no32]
  · simp
theorem enText_no10 (e : En) (hf : e.ad.fits) : (10 : UInt8) ∉ enText e := by
  unfold enText; split
  · split <;> simp [adText_no10 e.ad hf, decText_no10]
  · simp
end Go.Proofs.Ytnohkfbapibmdaa
/- Bans: plain. No condition. -/
namespace Go.Proofs.Ytnohkfbapibmdaa
open Go.RowKit

structure Ba where
  nt : Nt
  till : Int
deriving DecidableEq
instance : Inhabited Ba := ⟨⟨⟨⟨false, 0, 0⟩, 0⟩, 0⟩⟩
theorem Ba.ext' {a b : Ba} (h1 : a.nt = b.nt) (h2 : a.till = b.till) : a = b := by cases a; cases b; simp_all
def baRight (b : Ba) : Bool := ntRight b.nt && (decide (1 ≤ b.till) && decide (b.till ≤ 1099511627776))
def untilL : List UInt8 := [117, 110, 116, 105, 108]
def baText (b : Ba) : List UInt8 := if baRight b = true then joinL 32 [ntText b.nt, untilL, decText b.till] else []
def zeroB : Ba × Bool := (⟨⟨⟨false, 0, 0⟩, 0⟩, 0⟩, false)
def baLives (b : Ba) (now : Int) : Bool := decide (now < b.till)
def baHits (b : Ba) (a : Ad) (now : Int) : Bool := decide (now < b.till) && ntHas b.nt a
def baJoin (a b : Ba) : Ba := if a.nt = b.nt ∧ a.till < b.till then b else a
def baCand (p : Nt × Bool) (q : Int × Bool) (l : List UInt8) : Ba × Bool := if p.2 = true ∧ q.2 = true ∧ baText ⟨p.1, q.1⟩ = l then (⟨p.1, q.1⟩, true) else zeroB
/-- as the reference reads, at the first blank -/
def baParse (l : List UInt8) : Ba × Bool := baCand (ntParse (l.take (atB 32 l))) (decParse (l.drop (atB 32 l + 7)) 1099511627776) l
theorem baRight_iff (b : Ba) : baRight b = true ↔ ntRight b.nt = true ∧ 1 ≤ b.till ∧ b.till ≤ 1099511627776 := by unfold baRight; simp
theorem baText_bad (b : Ba) (h : baRight b = false) : baText b = [] := by unfold baText; rw [if_neg (by rw [h]; simp)]
theorem baText_good (b : Ba) (h : baRight b = true) : baText b = ntText b.nt ++ 32 :: (untilL ++ 32 :: decText b.till) := by
  unfold baText; rw [if_pos h]; simp only [joinL_cons, joinL_one]
theorem ntText_ne (n : Nt) (h : ntRight n = true) : ntText n ≠ [] := by unfold ntText; rw [if_pos h]; simp
theorem baText_ne (b : Ba) (h : baRight b = true) : baText b ≠ [] := by rw [baText_good b h]; simp
theorem baText_split (b : Ba) (hf : b.nt.ad.fits) (h : baRight b = true) : splitL 32 (baText b) = [ntText b.nt, untilL, decText b.till] := by
  have : baText b = joinL 32 [ntText b.nt, untilL, decText b.till] := by unfold baText; rw [if_pos h]
  rw [this]
  refine splitL_join 32 _ (by simp) ?_
  intro x hx
  simp only [List.mem_cons, List.not_mem_nil, or_false] at hx
  rcases hx with rfl | rfl | rfl
  · exact ntText_no32 _ hf
  · decide
  · exact decText_no32 _
theorem decParse_dec (n : Int) (h0 : 0 ≤ n) (h1 : n ≤ 1099511627776) : decParse (decText n) 1099511627776 = (n, true) := by
  have hd : decText n = digs n.toNat := by unfold decText; rw [if_neg (by omega)]; congr 1; omega
  rw [hd, decParse_digs n.toNat _ (by omega) (by omega)]; congr 1; omega
theorem baParse_text (b : Ba) (hf : b.nt.ad.fits) (h : baRight b = true) : baParse (baText b) = (b, true) := by
  obtain ⟨h1, h2, h3⟩ := (baRight_iff b).1 h
  have ht := baText_good b h
  unfold baParse
  have ha : atB 32 (baText b) = (ntText b.nt).length := by rw [ht, atB_app _ (ntText_no32 _ hf)]
  have hd : (baText b).drop ((ntText b.nt).length + 7) = decText b.till := by
    rw [ht, show ntText b.nt ++ 32 :: (untilL ++ 32 :: decText b.till) = (ntText b.nt ++ 32 :: (untilL ++ [32])) ++ decText b.till from by simp,
      show (ntText b.nt).length + 7 = (ntText b.nt ++ 32 :: (untilL ++ [32])).length from by simp [untilL], List.drop_left]
  rw [ha, hd, decParse_dec _ (by omega) h3]
  have hk : (baText b).take (ntText b.nt).length = ntText b.nt := by rw [ht, List.take_left]
  rw [hk, ntParse_text _ hf h1]
  unfold baCand
  rw [if_pos ⟨rfl, rfl, rfl⟩]
theorem baCand_ok {p : Nt × Bool} {q : Int × Bool} {l : List UInt8} (hp : p.1.ad.fits) (hr : p.2 = true → ntRight p.1 = true) (hl : (baCand p q l).2 = true) : baText (baCand p q l).1 = l ∧ (l ≠ [] → baRight (baCand p q l).1 = true) ∧ (baCand p q l).1.nt.ad.fits := by
  unfold baCand at hl ⊢
  split
  · rename_i h
    refine ⟨h.2.2, fun hne => ?_, hp⟩
    cases hb : baRight ⟨p.1, q.1⟩ with
    | true => rfl
    | false =>
      have := h.2.2
      rw [baText_bad _ hb] at this
      exact absurd this.symm hne
  · rename_i h; rw [if_neg h] at hl; cases hl
theorem baCand_no {p : Nt × Bool} {q : Int × Bool} {l : List UInt8} (hl : (baCand p q l).2 = false) : baCand p q l = zeroB := by
  unfold baCand at hl ⊢
  split
  · rename_i h; rw [if_pos h] at hl; cases hl
  · rfl
theorem baParse_nil : baParse [] = zeroB := by decide +kernel
theorem baParse_ok (l : List UInt8) : (baParse l).1.nt.ad.fits ∧ ((baParse l).2 = true → baRight (baParse l).1 = true ∧ baText (baParse l).1 = l) ∧ ((baParse l).2 = false → baParse l = zeroB) := by
  have hp := ntParse_ok (l.take (atB 32 l))
  refine ⟨?_, fun h => ?_, fun h => baCand_no h⟩
  · cases h : (baParse l).2 with
    | true => exact (baCand_ok hp.1 hp.2.1 h).2.2
    | false => rw [show baParse l = zeroB from baCand_no h]; exact ⟨by decide, by decide⟩
  · obtain ⟨h1, h2, h3⟩ := baCand_ok hp.1 hp.2.1 h
    refine ⟨h2 (fun e => ?_), h1⟩
    subst e; rw [baParse_nil] at h; cases h
/-- as the code reads: three parts -/
def baCode (L : List (List UInt8)) (l : List UInt8) : Ba × Bool := if L.length = 3 ∧ L[1]? = some untilL then baCand (ntParse (L.getD 0 [])) (decParse (L.getD 2 []) 1099511627776) l else zeroB
theorem baParse_other {l : List UInt8} (h : ¬ ((splitL 32 l).length = 3 ∧ (splitL 32 l)[1]? = some untilL)) : baParse l = zeroB := by
  obtain ⟨h1, h2, h3⟩ := baParse_ok l
  cases hb : (baParse l).2 with
  | false => exact h3 hb
  | true =>
    obtain ⟨h4, h5⟩ := h2 hb
    have := baText_split _ h1 h4
    rw [h5] at this
    exact absurd (by rw [this]; exact ⟨rfl, rfl⟩) h
theorem baParse_three {l x y : List UInt8} (h : splitL 32 l = [x, untilL, y]) : baParse l = baCand (ntParse x) (decParse y 1099511627776) l := by
  have hl := joinL_split 32 l
  rw [h] at hl
  simp only [joinL_cons, joinL_one] at hl
  have hx : (32 : UInt8) ∉ x := splitL_parts 32 l x (by rw [h]; simp)
  have ha : atB 32 l = x.length := by rw [← hl, atB_app _ hx]
  unfold baParse
  rw [ha]
  have hd : l.drop (x.length + 7) = y := by
    rw [← hl, show x ++ 32 :: (untilL ++ 32 :: y) = (x ++ 32 :: (untilL ++ [32])) ++ y from by simp,
      show x.length + 7 = (x ++ 32 :: (untilL ++ [32])).length from by simp [untilL], List.drop_left]
  have hk : l.take x.length = x := by rw [← hl, List.take_left]
  rw [hd, hk]
theorem baCode_eq (l : List UInt8) : baCode (splitL 32 l) l = baParse l := by
  unfold baCode
  split
  · rename_i h
    obtain ⟨h1, h2⟩ := h
    obtain ⟨x, u, y, hs⟩ : ∃ x u y, splitL 32 l = [x, u, y] := by
      match hL : splitL 32 l, h1 with
      | [x, u, y], _ => exact ⟨x, u, y, rfl⟩
    rw [hs] at h2 ⊢
    simp at h2
    subst h2
    rw [baParse_three hs]; rfl
  · rename_i h; exact (baParse_other h).symm
theorem baText_len (b : Ba) (hf : b.nt.ad.fits) : (baText b).length ≤ 3000 := by
  cases h : baRight b with
  | false => rw [baText_bad b h]; simp
  | true =>
    obtain ⟨h1, h2, h3⟩ := (baRight_iff b).1 h
    have h5 := decText_len b.till (by omega) (by omega)
    have h6 : (ntText b.nt).length ≤ 2000 := by
      unfold ntText; rw [if_pos h1]
      obtain ⟨_, r2, r3, _⟩ := (ntRight_iff b.nt).1 h1
      have := adBits_nn b.nt.ad
      have h4 := adText_len b.nt.ad hf
      have h5 := decText_len b.nt.bits (by omega) (by omega)
      simp; omega
    rw [baText_good b h]; simp [untilL]; omega
end Go.Proofs.Ytnohkfbapibmdaa
/- Confs: plain. No condition. -/
namespace Go.Proofs.Ytnohkfbapibmdaa
open Go.RowKit

structure Cf where
  mi : Int
  mo : Int
  sh : Int
  mb : Int
  mbk : Int
  secret : Nat
  qg : Int
  qp : Int
  qw : Int
  qt : Int
  half : Int
  limit : Int
  banfor : Int
  base : Int
  cap : Int
  jitter : Int
deriving DecidableEq
def zeroCf : Cf := ⟨0, 0, 0, 0, 0, 0, 0, 0, 0, 0, 0, 0, 0, 0, 0, 0⟩
def plainCf : Cf := ⟨8, 4, 4, 64, 64, 1, 1, 1, 1, 1, 100, 100, 1000, 2, 64, 4⟩
def cfWords : List (List UInt8) := [[105, 110], [111, 117, 116], [115, 104, 97, 114, 100, 115], [98, 97, 110, 115], [98, 111, 111, 107], [115, 101, 99, 114, 101, 116], [103, 114, 111, 117, 112], [112, 105, 110, 103], [119, 111, 114, 107], [116, 105, 109, 101], [104, 97, 108, 102], [108, 105, 109, 105, 116], [98, 97, 110, 102, 111, 114], [98, 97, 115, 101], [99, 97, 112], [106, 105, 116, 116, 101, 114]]
def cfNums (c : Cf) : List Int := [c.mi, c.mo, c.sh, c.mb, c.mbk, c.secret, c.qg, c.qp, c.qw, c.qt, c.half, c.limit, c.banfor, c.base, c.cap, c.jitter]
def cfRight (c : Cf) : Bool := decide (c.secret ≤ 9223372036854775807) && (decide (0 ≤ c.mi ∧ c.mi ≤ 65535) && (decide (0 ≤ c.mo ∧ c.mo ≤ 65535) && (decide (1 ≤ c.sh ∧ c.sh ≤ 8) && (decide (0 ≤ c.mb ∧ c.mb ≤ 1024) && (decide (0 ≤ c.mbk ∧ c.mbk ≤ 1024) &&
  (decide (0 ≤ c.qg ∧ c.qg ≤ 64) && (decide (0 ≤ c.qp ∧ c.qp ≤ 64) && (decide (0 ≤ c.qw ∧ c.qw ≤ 64) && (decide (0 ≤ c.qt ∧ c.qt ≤ 64) && (decide (1 ≤ c.half ∧ c.half ≤ 1073741824) && (decide (1 ≤ c.limit ∧ c.limit ≤ 10000) &&
  (decide (1 ≤ c.banfor ∧ c.banfor ≤ 1073741824) && (decide (1 ≤ c.base ∧ c.base ≤ 1073741824) && (decide (c.base ≤ c.cap ∧ c.cap ≤ 1073741824) && decide (0 ≤ c.jitter ∧ c.jitter ≤ 1073741824)))))))))))))))
theorem cfRight_iff (c : Cf) : cfRight c = true ↔ c.secret ≤ 9223372036854775807 ∧ (0 ≤ c.mi ∧ c.mi ≤ 65535) ∧ (0 ≤ c.mo ∧ c.mo ≤ 65535) ∧ (1 ≤ c.sh ∧ c.sh ≤ 8) ∧ (0 ≤ c.mb ∧ c.mb ≤ 1024) ∧ (0 ≤ c.mbk ∧ c.mbk ≤ 1024) ∧
    (0 ≤ c.qg ∧ c.qg ≤ 64) ∧ (0 ≤ c.qp ∧ c.qp ≤ 64) ∧ (0 ≤ c.qw ∧ c.qw ≤ 64) ∧ (0 ≤ c.qt ∧ c.qt ≤ 64) ∧ (1 ≤ c.half ∧ c.half ≤ 1073741824) ∧ (1 ≤ c.limit ∧ c.limit ≤ 10000) ∧
    (1 ≤ c.banfor ∧ c.banfor ≤ 1073741824) ∧ (1 ≤ c.base ∧ c.base ≤ 1073741824) ∧ (c.base ≤ c.cap ∧ c.cap ≤ 1073741824) ∧ (0 ≤ c.jitter ∧ c.jitter ≤ 1073741824) := by
  unfold cfRight
  simp only [Bool.and_eq_true, decide_eq_true_eq]
def cfLine (w : List UInt8) (n : Int) : List UInt8 := w ++ 32 :: decText n
def cfLines (c : Cf) : List (List UInt8) := List.zipWith cfLine cfWords (cfNums c)
def fed (L : List (List UInt8)) : List UInt8 := L.flatMap fun l => l ++ [10]
def cfText (c : Cf) : List UInt8 := if cfRight c = true then fed (cfLines c) else []
theorem fed_join (L : List (List UInt8)) (h : L ≠ []) : fed L = joinL 10 L ++ [10] := by
  induction L with
  | nil => exact absurd rfl h
  | cons x r ih =>
    cases r with
    | nil => unfold fed; simp [joinL_one]
    | cons y r =>
      have := ih (by simp)
      unfold fed at this ⊢
      rw [List.flatMap_cons, this, joinL_cons]; simp
/-- the number of a row, if the line is one -/
def rdRow (w l : List UInt8) : Option Int :=
  if w ++ [32] <+: l then (let r := decParse (l.drop (w.length + 1)) 9223372036854775807; if r.2 = true then some r.1 else none) else none
theorem rdRow_line {w l : List UInt8} {n : Int} (h : rdRow w l = some n) : l = cfLine w n ∧ 0 ≤ n ∧ n ≤ 9223372036854775807 := by
  unfold rdRow at h
  split at h
  · rename_i hp
    obtain ⟨t, ht⟩ := hp
    have hd : l.drop (w.length + 1) = t := by rw [← ht, show w.length + 1 = (w ++ [32]).length from by simp, List.drop_left]
    rw [hd] at h
    simp only at h
    split at h
    · rename_i h2
      have h3 : decParse t 9223372036854775807 = ((decParse t 9223372036854775807).1, true) := by rw [← h2]
      obtain ⟨m, hm, hl, h4, h5⟩ := decParse_true h3
      cases h
      rw [hm]
      refine ⟨?_, by omega, by omega⟩
      unfold cfLine decText
      rw [if_neg (by omega), ← ht, hl]
      simp
    · cases h
  · cases h
theorem rdRow_of {w : List UInt8} {n : Int} (h0 : 0 ≤ n) (h1 : n ≤ 9223372036854775807) : rdRow w (cfLine w n) = some n := by
  unfold rdRow cfLine
  have hp : w ++ [32] <+: w ++ 32 :: decText n := ⟨decText n, by simp⟩
  have hd : (w ++ 32 :: decText n).drop (w.length + 1) = decText n := by
    rw [show w ++ 32 :: decText n = (w ++ [32]) ++ decText n from by simp, show w.length + 1 = (w ++ [32]).length from by simp, List.drop_left]
  rw [if_pos hp, hd]
  have ht : decText n = digs n.toNat := by unfold decText; rw [if_neg (by omega)]; congr 1; omega
  rw [ht, decParse_digs n.toNat _ (by omega) (by omega)]
  simp; omega
/-- the numbers of rows; or the first line that is none -/
def rdRows (k : Nat) : List (List UInt8) → List (List UInt8) → Except Nat (List Int)
  | [], _ => .ok []
  | _ :: _, [] => .error (k + 1)
  | w :: ws, l :: ls => match rdRow w l with
    | none => .error (k + 1)
    | some x => match rdRows (k + 1) ws ls with
      | .ok xs => .ok (x :: xs)
      | .error e => .error e
def cfOf (n : Nat → Int) : Cf := ⟨n 0, n 1, n 2, n 3, n 4, (n 5).toNat, n 6, n 7, n 8, n 9, n 10, n 11, n 12, n 13, n 14, n 15⟩
def cfDone (more : Bool) (xs : List Int) : Cf × Int × Int :=
  if more = true then (zeroCf, 17, 2) else if cfRight (cfOf fun i => xs.getD i 0) = true then (cfOf fun i => xs.getD i 0, 0, 0) else (zeroCf, 0, 3)
def cfGo (L : List (List UInt8) × Int) : Cf × Int × Int :=
  if L.2 ≠ 0 then (zeroCf, 0, L.2) else match rdRows 0 cfWords L.1 with
    | .error k => (zeroCf, k, 2)
    | .ok xs => cfDone (decide (16 < L.1.length)) xs
def cfParse (s : List UInt8) : Cf × Int × Int := cfGo (linesL s)
/-- what was read so far: place after place -/
def RdTo (ws ls : List (List UInt8)) (xs : List Int) : Prop := xs.length ≤ ws.length ∧ xs.length ≤ ls.length ∧ ∀ i, i < xs.length → ∃ w l x, ws[i]? = some w ∧ ls[i]? = some l ∧ xs[i]? = some x ∧ rdRow w l = some x
theorem RdTo.nil (ws ls : List (List UInt8)) : RdTo ws ls [] := ⟨by simp, by simp, fun i h => by simp at h⟩
theorem RdTo.snoc {ws ls : List (List UInt8)} {xs : List Int} {w l : List UInt8} {x : Int} (h : RdTo ws ls xs) (hw : ws[xs.length]? = some w) (hl : ls[xs.length]? = some l) (hx : rdRow w l = some x) : RdTo ws ls (xs ++ [x]) := by
  have h1 := (List.getElem?_eq_some_iff.1 hw).1
  have h2 := (List.getElem?_eq_some_iff.1 hl).1
  refine ⟨by simp; omega, by simp; omega, fun i hi => ?_⟩
  by_cases hlt : i < xs.length
  · obtain ⟨w', l', x', a, b, c, d⟩ := h.2.2 i hlt
    exact ⟨w', l', x', a, b, by rw [List.getElem?_append_left hlt]; exact c, d⟩
  · simp at hi
    obtain rfl : i = xs.length := by omega
    exact ⟨w, l, x, hw, hl, by simp, hx⟩
theorem RdTo.tail {w : List UInt8} {ws : List (List UInt8)} {l : List UInt8} {ls : List (List UInt8)} {x : Int} {xs : List Int} (h : RdTo (w :: ws) (l :: ls) (x :: xs)) : rdRow w l = some x ∧ RdTo ws ls xs := by
  refine ⟨?_, by have := h.1; simpa using this, by have := h.2.1; simpa using this, fun i hi => ?_⟩
  · obtain ⟨w', l', x', a, b, c, d⟩ := h.2.2 0 (by simp)
    simp at a b c; subst a b c; exact d
  · obtain ⟨w', l', x', a, b, c, d⟩ := h.2.2 (i + 1) (by simpa using hi)
    exact ⟨w', l', x', by simpa using a, by simpa using b, by simpa using c, d⟩
theorem rdRows_stop {ws ls : List (List UInt8)} {xs : List Int} (k : Nat) (h : RdTo ws ls xs) {w : List UInt8} (hw : ws[xs.length]? = some w) (hs : ls[xs.length]? = none ∨ ∃ l, ls[xs.length]? = some l ∧ rdRow w l = none) : rdRows k ws ls = .error (k + xs.length + 1) := by
  induction xs generalizing ws ls k with
  | nil =>
    cases ws with
    | nil => simp at hw
    | cons w' ws =>
      simp at hw; subst hw
      cases ls with
      | nil => rfl
      | cons l' ls =>
        rcases hs with hs | ⟨l, hs, hr⟩
        · simp at hs
        · simp at hs; subst hs
          unfold rdRows; rw [hr]; rfl
  | cons x xs ih =>
    cases ws with
    | nil => have := h.1; simp at this
    | cons w' ws =>
      cases ls with
      | nil => have := h.2.1; simp at this
      | cons l' ls =>
        obtain ⟨h1, h2⟩ := h.tail
        have := ih (k + 1) h2 (by simpa using hw) (by simpa using hs)
        unfold rdRows
        rw [h1]
        simp only
        rw [this]
        simp only [List.length_cons]
        congr 1; omega
theorem rdRows_all {ws ls : List (List UInt8)} {xs : List Int} (k : Nat) (h : RdTo ws ls xs) (hl : xs.length = ws.length) : rdRows k ws ls = .ok xs := by
  induction xs generalizing ws ls k with
  | nil =>
    cases ws with
    | nil => cases ls <;> rfl
    | cons w ws => simp at hl
  | cons x xs ih =>
    cases ws with
    | nil => simp at hl
    | cons w ws =>
      cases ls with
      | nil => have := h.2.1; simp at this
      | cons l ls =>
        obtain ⟨h1, h2⟩ := h.tail
        unfold rdRows; rw [h1]; simp only; rw [ih (k + 1) h2 (by simpa using hl)]
theorem rdRows_ok {ws ls : List (List UInt8)} {k : Nat} {xs : List Int} (h : rdRows k ws ls = .ok xs) : RdTo ws ls xs ∧ xs.length = ws.length := by
  induction ws generalizing ls k xs with
  | nil => cases ls <;> (unfold rdRows at h; cases h; exact ⟨RdTo.nil _ _, rfl⟩)
  | cons w ws ih =>
    cases ls with
    | nil => unfold rdRows at h; cases h
    | cons l ls =>
      unfold rdRows at h
      cases hr : rdRow w l with
      | none => rw [hr] at h; cases h
      | some x =>
        rw [hr] at h; simp only at h
        cases hh : rdRows (k + 1) ws ls with
        | error e => rw [hh] at h; cases h
        | ok ys =>
          rw [hh] at h; cases h
          obtain ⟨h1, h2⟩ := ih hh
          refine ⟨⟨by simp; omega, by have := h1.2.1; simp; omega, fun i hi => ?_⟩, by simp [h2]⟩
          cases i with
          | zero => exact ⟨w, l, x, rfl, rfl, rfl, hr⟩
          | succ i =>
            obtain ⟨w', l', x', a, b, c, d⟩ := h1.2.2 i (by simpa using hi)
            exact ⟨w', l', x', by simpa using a, by simpa using b, by simpa using c, d⟩
end Go.Proofs.Ytnohkfbapibmdaa
/- Confs: read of their texts. No condition. -/
namespace Go.Proofs.Ytnohkfbapibmdaa
open Go.RowKit

theorem cfParse_no {s : List UInt8} (h : (cfParse s).2.2 ≠ 0) : (cfParse s).1 = zeroCf := by
  unfold cfParse cfGo at *
  split
  · rfl
  · rename_i h0
    rw [if_neg h0] at h
    cases hr : rdRows 0 cfWords (linesL s).1 with
    | error k => rfl
    | ok xs =>
      rw [hr] at h
      simp only at h ⊢
      unfold cfDone at *
      split
      · rfl
      · rename_i h1
        rw [if_neg h1] at h
        split
        · rename_i h2; rw [if_pos h2] at h; exact absurd rfl h
        · rfl
theorem cfNums_len (c : Cf) : (cfNums c).length = 16 := rfl
theorem cfOf_nums (c : Cf) : cfOf (fun i => (cfNums c).getD i 0) = c := by
  cases c; simp [cfOf, cfNums]
theorem cfNums_of (xs : List Int) (h : xs.length = 16) (h5 : 0 ≤ xs.getD 5 0) : cfNums (cfOf fun i => xs.getD i 0) = xs := by
  match xs, h with
  | [a0, a1, a2, a3, a4, a5, a6, a7, a8, a9, a10, a11, a12, a13, a14, a15], _ =>
    simp [cfNums, cfOf] at h5 ⊢; omega
theorem rdRows_zip (k : Nat) (ws : List (List UInt8)) (ns : List Int) (hl : ws.length = ns.length) (h : ∀ n ∈ ns, 0 ≤ n ∧ n ≤ 9223372036854775807) : rdRows k ws (List.zipWith cfLine ws ns) = .ok ns := by
  induction ws generalizing ns k with
  | nil => cases ns with
    | nil => rfl
    | cons n ns => simp at hl
  | cons w ws ih =>
    cases ns with
    | nil => simp at hl
    | cons n ns =>
      have hn := h n (by simp)
      rw [List.zipWith_cons_cons]
      unfold rdRows
      rw [rdRow_of hn.1 hn.2]
      simp only
      rw [ih (k + 1) ns (by simpa using hl) (fun m hm => h m (by simp [hm]))]
theorem cfNums_ok {c : Cf} (h : cfRight c = true) : ∀ n ∈ cfNums c, 0 ≤ n ∧ n ≤ 9223372036854775807 := by
  have h' := (cfRight_iff c).1 h
  intro n hn
  simp only [cfNums, List.mem_cons, List.not_mem_nil, or_false] at hn
  rcases hn with rfl | rfl | rfl | rfl | rfl | rfl | rfl | rfl | rfl | rfl | rfl | rfl | rfl | rfl | rfl | rfl <;> omega
/-- a byte that a line of a conf may have -/
def okB (c : UInt8) : Bool := plainC c && !(c == 10)
theorem digs_ok (n : Nat) : (digs n).all okB = true := by
  rw [List.all_eq_true]
  intro c hc
  have := digs_isDig n c hc
  unfold isDig at this
  unfold okB plainC
  have h1 : c ≠ 10 := by rintro rfl; simp at this
  simp at this ⊢
  refine ⟨Or.inr (by omega), h1⟩
theorem cfLine_ok {w : List UInt8} {n : Int} (hw : w.all okB = true) (hn : 0 ≤ n) : (cfLine w n).all okB = true := by
  unfold cfLine decText
  rw [if_neg (by omega), List.all_append, List.all_cons, hw, digs_ok]
  rfl
theorem cfLines_ok {c : Cf} (h : cfRight c = true) : ∀ l ∈ cfLines c, l.all okB = true ∧ l.length ≤ 40 := by
  have hn := cfNums_ok h
  intro l hl
  unfold cfLines at hl
  obtain ⟨i, hi⟩ := List.mem_iff_getElem?.1 hl
  rw [List.getElem?_zipWith] at hi
  cases hw : cfWords[i]? with
  | none => rw [hw] at hi; simp at hi
  | some w =>
    cases hx : (cfNums c)[i]? with
    | none => rw [hw, hx] at hi; simp at hi
    | some x =>
      rw [hw, hx] at hi
      simp at hi
      subst hi
      have hx' := hn x (List.mem_of_getElem? hx)
      have hw' : ∀ w ∈ cfWords, w.all okB = true ∧ w.length ≤ 6 := by decide
      have hw2 := hw' w (List.mem_of_getElem? hw)
      refine ⟨cfLine_ok hw2.1 hx'.1, ?_⟩
      have := decText_len x (by omega) (by omega)
      unfold cfLine; simp; omega
theorem okB_ne {l : List UInt8} (h : l.all okB = true) : (10 : UInt8) ∉ l := by
  intro hm
  have := List.all_eq_true.1 h 10 hm
  exact absurd this (by decide)
theorem okB_plain {l : List UInt8} (h : l.all okB = true) : l.all plainC = true := by
  rw [List.all_eq_true] at *
  intro c hc
  have := h c hc
  unfold okB at this
  simp at this; exact this.1
theorem joinL_plain {L : List (List UInt8)} (h : ∀ l ∈ L, l.all plainC = true) : (joinL 10 L).all plainC = true := by
  induction L with
  | nil => rfl
  | cons x r ih =>
    cases r with
    | nil => rw [joinL_one]; exact h x (by simp)
    | cons y r =>
      rw [joinL_cons, List.all_append, List.all_cons, h x (by simp), ih (fun l hl => h l (by simp [hl]))]
      rfl
theorem linesL_fed {L : List (List UInt8)} (hne : L ≠ []) (h : ∀ l ∈ L, l.all okB = true) (hlen : (fed L).length ≤ 4096) : linesL (fed L) = (L, 0) := by
  have hf := fed_join L hne
  rw [hf] at hlen ⊢
  have hc : (joinL 10 L ++ [10]).count 10 ≤ (joinL 10 L ++ [10]).length := List.count_le_length
  unfold linesL
  rw [if_neg (by omega), if_neg (by rw [List.all_append, joinL_plain (fun l hl => okB_plain (h l hl))]; simp; decide), if_neg (by simp), if_neg (by simp), List.dropLast_concat, splitL_join 10 L hne (fun x hx => okB_ne (h x hx))]
theorem cfParse_text (c : Cf) (h : cfRight c = true) : cfParse (cfText c) = (c, 0, 0) := by
  have hl := cfLines_ok h
  have hlen : (fed (cfLines c)).length ≤ 4096 := by
    rw [fed_join _ (by simp [cfLines, cfWords, cfNums])]
    have := joinL_len 10 (cfLines c) 16 40 (fun x hx => (hl x hx).2) (by simp [cfLines, cfWords, cfNums])
    simp; omega
  unfold cfParse cfText
  rw [if_pos h, linesL_fed (by simp [cfLines, cfWords, cfNums]) (fun l hl' => (hl l hl').1) hlen]
  unfold cfGo
  simp only [ne_eq, not_true_eq_false, if_false]
  rw [show cfLines c = List.zipWith cfLine cfWords (cfNums c) from rfl, rdRows_zip 0 cfWords (cfNums c) rfl (cfNums_ok h)]
  simp only
  unfold cfDone
  rw [cfOf_nums, if_neg (by simp [cfWords, cfNums]), if_pos h]
theorem cfParse_ok {s : List UInt8} (h : (cfParse s).2.2 = 0) : cfRight (cfParse s).1 = true ∧ cfText (cfParse s).1 = s := by
  unfold cfParse cfGo at *
  by_cases h0 : (linesL s).2 ≠ 0
  · rw [if_pos h0] at h; exact absurd h h0
  rw [if_neg h0] at h ⊢
  cases hr : rdRows 0 cfWords (linesL s).1 with
  | error k => rw [hr] at h; simp at h
  | ok xs =>
    rw [hr] at h
    simp only at h ⊢
    obtain ⟨hrd, hxl⟩ := rdRows_ok hr
    unfold cfDone at *
    by_cases hm : decide (16 < (linesL s).1.length) = true
    · rw [if_pos hm] at h; simp at h
    rw [if_neg hm] at h ⊢
    by_cases hg : cfRight (cfOf fun i => xs.getD i 0) = true
    · rw [if_pos hg] at h ⊢
      refine ⟨hg, ?_⟩
      have hxl' : xs.length = 16 := hxl
      have hl16 : (linesL s).1.length = 16 := by have := hrd.2.1; simp at hm; omega
      have hx5 : 0 ≤ xs.getD 5 0 := by
        obtain ⟨w, l, x, _, _, hx, hrow⟩ := hrd.2.2 5 (by omega)
        rw [List.getD_eq_getElem?_getD, hx]
        exact (rdRow_line hrow).2.1
      have hlines : (linesL s).1 = cfLines (cfOf fun i => xs.getD i 0) := by
        unfold cfLines
        rw [cfNums_of xs hxl' hx5]
        apply List.ext_getElem?
        intro i
        rw [List.getElem?_zipWith]
        by_cases hi : i < 16
        · obtain ⟨w, l, x, hw, hl, hx, hrow⟩ := hrd.2.2 i (by omega)
          rw [hw, hl, hx]
          simp only
          rw [(rdRow_line hrow).1]
        · rw [List.getElem?_eq_none (by omega), List.getElem?_eq_none (l := cfWords) (by show 16 ≤ i; omega)]
      unfold cfText
      rw [if_pos hg, ← hlines]
      have hne : (linesL s).1 ≠ [] := by intro e; rw [e] at hl16; simp at hl16
      rw [fed_join _ hne]
      unfold linesL at *
      split at hne
      · exact absurd rfl hne
      · rename_i c1
        rw [if_neg c1] at *
        split at hne
        · exact absurd rfl hne
        · rename_i c2
          rw [if_neg c2] at *
          split at hne
          · exact absurd rfl hne
          · rename_i c3
            rw [if_neg c3] at *
            split at hne
            · exact absurd rfl hne
            · rename_i c4
              rw [if_neg c4]
              simp only
              rw [joinL_split]
              have := Classical.not_not.1 c4
              obtain ⟨t, rfl⟩ := List.getLast?_eq_some_iff.1 this
              rw [List.dropLast_concat]
    · rw [if_neg hg] at h; simp at h
end Go.Proofs.Ytnohkfbapibmdaa
/- Confs: a row of a conf, by cutting at blanks. No condition. -/
namespace Go.Proofs.Ytnohkfbapibmdaa
open Go.RowKit

theorem digs_no32c (n : Nat) : (32 : UInt8) ∉ digs n := fun h => by have := digs_isDig n _ h; unfold isDig at this; simp at this
theorem rdRow_split {w l : List UInt8} (hw : (32 : UInt8) ∉ w) : rdRow w l = if (splitL 32 l).length = 2 ∧ (splitL 32 l)[0]? = some w ∧ (decParse ((splitL 32 l).getD 1 []) 9223372036854775807).2 = true then some (decParse ((splitL 32 l).getD 1 []) 9223372036854775807).1 else none := by
  by_cases h : (splitL 32 l).length = 2 ∧ (splitL 32 l)[0]? = some w
  · obtain ⟨h1, h2⟩ := h
    obtain ⟨x, y, hs⟩ : ∃ x y, splitL 32 l = [x, y] := by
      match hL : splitL 32 l, h1 with
      | [x, y], _ => exact ⟨x, y, rfl⟩
    rw [hs] at h2 ⊢
    simp at h2
    subst h2
    have hj := joinL_split 32 l
    rw [hs, joinL_cons, joinL_one] at hj
    have hp : x ++ [32] <+: l := ⟨y, by rw [← hj]; simp⟩
    have hd : l.drop (x.length + 1) = y := by rw [← hj, show x ++ 32 :: y = (x ++ [32]) ++ y from by simp, show x.length + 1 = (x ++ [32]).length from by simp, List.drop_left]
    unfold rdRow
    rw [if_pos hp, hd]
    simp
  · rw [if_neg (fun c => h ⟨c.1, c.2.1⟩)]
    cases hr : rdRow w l with
    | none => rfl
    | some n =>
      exfalso
      obtain ⟨hl, h0, h1⟩ := rdRow_line hr
      apply h
      have hsp : splitL 32 l = [w, decText n] := by
        rw [hl]
        unfold cfLine
        rw [splitL_app 32 w _ hw, splitL_free 32 _ (by unfold decText; rw [if_neg (by omega)]; exact digs_no32c _)]
      rw [hsp]
      exact ⟨rfl, rfl⟩
theorem cfWd_no32 (k : Nat) : (32 : UInt8) ∉ cfWords.getD k [] := by
  by_cases hk : k < 16
  · have hm : cfWords.getD k [] ∈ cfWords := by
      rw [List.getD_eq_getElem?_getD, List.getElem?_eq_getElem (show k < cfWords.length from hk)]; exact List.getElem_mem _
    exact (by decide : ∀ w ∈ cfWords, (32 : UInt8) ∉ w) _ hm
  · rw [List.getD_eq_getElem?_getD, List.getElem?_eq_none (by show 16 ≤ k; omega)]; simp
end Go.Proofs.Ytnohkfbapibmdaa
