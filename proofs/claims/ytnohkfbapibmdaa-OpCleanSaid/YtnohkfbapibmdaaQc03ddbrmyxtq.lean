/- Texts put together: PlEnd, PlNoB, PlPeer, PlReply, PlBan, PlOp, PlOpB. No condition. -/
import Derived.Test.YtnohkfbapibmdaaPlNetP
import Derived.Lib.LastIndexByte
import Derived.Lib.Strings
import Derived.Test.YtnohkfbapibmdaaQ3d1c45inyoua
/- Ends: what is right, read, written. Plain. -/
namespace Go.Proofs.Ytnohkfbapibmdaa
open Go.RowKit

def lastO (c : UInt8) : List UInt8 → Option Nat
  | [] => none
  | x :: r => match lastO c r with | some i => some (i + 1) | none => if x = c then some 0 else none
theorem lastO_none {c : UInt8} {l : List UInt8} (h : lastO c l = none) : c ∉ l := by
  induction l with
  | nil => simp
  | cons x r ih =>
    unfold lastO at h
    cases hr : lastO c r with
    | some i => rw [hr] at h; cases h
    | none =>
      rw [hr] at h; simp only at h
      by_cases hx : x = c
      · rw [if_pos hx] at h; cases h
      · intro hm
        rcases List.mem_cons.1 hm with e | e
        · exact hx e.symm
        · exact ih hr e
theorem lastO_some {c : UInt8} {l : List UInt8} {i : Nat} (h : lastO c l = some i) : l[i]? = some c ∧ c ∉ l.drop (i + 1) ∧ i < l.length := by
  induction l generalizing i with
  | nil => cases h
  | cons x r ih =>
    unfold lastO at h
    cases hr : lastO c r with
    | some j =>
      rw [hr] at h; simp only [Option.some.injEq] at h; subst h
      obtain ⟨a, b, d⟩ := ih hr
      exact ⟨by simpa using a, by simpa using b, by simp; omega⟩
    | none =>
      rw [hr] at h; simp only at h
      by_cases hx : x = c
      · rw [if_pos hx] at h; injection h with h; subst h
        exact ⟨by simp [hx], by simpa using lastO_none hr, by simp⟩
      · rw [if_neg hx] at h; cases h
theorem lastO_free {c : UInt8} {l : List UInt8} (h : c ∉ l) : lastO c l = none := by
  cases hl : lastO c l with
  | none => rfl
  | some i => exact absurd (List.mem_of_getElem? (lastO_some hl).1) h
theorem lastO_at {c : UInt8} {l : List UInt8} {i : Nat} (h1 : l[i]? = some c) (h2 : c ∉ l.drop (i + 1)) : lastO c l = some i := by
  cases hl : lastO c l with
  | none => exact absurd (List.mem_of_getElem? h1) (lastO_none hl)
  | some j =>
    obtain ⟨a, b, d⟩ := lastO_some hl
    rcases Nat.lt_trichotomy i j with h | h | h
    · exact absurd (List.mem_of_getElem? (i := j - (i + 1)) (by rw [List.getElem?_drop, show i + 1 + (j - (i + 1)) = j from by omega]; exact a)) h2
    · rw [h]
    · exact absurd (List.mem_of_getElem? (i := i - (j + 1)) (by rw [List.getElem?_drop, show j + 1 + (i - (j + 1)) = i from by omega]; exact h1)) b
theorem lastO_app {c : UInt8} (x : List UInt8) {r : List UInt8} (h : c ∉ r) : lastO c (x ++ c :: r) = some x.length := by
  refine lastO_at (by simp) ?_
  rw [show x ++ c :: r = (x ++ [c]) ++ r from by simp, show x.length + 1 = (x ++ [c]).length from by simp, List.drop_left]; exact h
def lastI (c : UInt8) (l : List UInt8) : Int := match lastO c l with | none => -1 | some i => i
theorem lastIdx_eq (s : ByteArray) : Lib.lastIndexByte s 58 = lastI 58 s.data.toList := by
  have hget : ∀ j, j < s.size → s.data.toList[j]? = some (s.data[j]!) := fun j hj => by
    rw [get_data s j hj]; congr 1
    show s.data[j] = s.data[j]!
    rw [getElem!_pos s.data j hj]
  have h58 : ∀ b : UInt8, (b.toNat : Int) = 58 ↔ b = 58 := fun b => ⟨fun h => byte_eq (by rw [h]; rfl), fun h => by rw [h]; rfl⟩
  unfold Lib.lastIndexByte lastI
  rcases Lib.lastIdx_spec s 58 s.size with ⟨h1, h2⟩ | ⟨i, h1, h2, h3, h4⟩
  · rw [h1, lastO_free]
    intro hm
    obtain ⟨k, hk⟩ := List.mem_iff_getElem?.1 hm
    have hl := (List.getElem?_eq_some_iff.1 hk).1
    rw [len_data] at hl
    rw [hget k hl] at hk
    injection hk with hk
    exact h2 k hl ((h58 _).2 hk)
  · rw [h2, lastO_at (i := i)]
    · rw [hget i h1, (h58 _).1 h3]
    · intro hm
      obtain ⟨k, hk⟩ := List.mem_iff_getElem?.1 hm
      rw [List.getElem?_drop] at hk
      have hl := (List.getElem?_eq_some_iff.1 hk).1
      rw [len_data] at hl
      rw [hget _ hl] at hk
      injection hk with hk
      exact h4 _ (by omega) hl ((h58 _).2 hk)

/-! ### reading -/
def zeroE : En × Bool := (⟨⟨false, 0, 0⟩, 0⟩, false)
def innerL (h : List UInt8) : List UInt8 := (h.drop 1).take (h.length - 2)
def boxed (h : List UInt8) : Prop := 2 ≤ h.length ∧ h[0]? = some 91 ∧ h[h.length - 1]? = some 93
instance (h : List UInt8) : Decidable (boxed h) := by unfold boxed; infer_instance
/-- as the reference reads, at the last colon -/
def enPart (h : List UInt8) (q : Int × Bool) : En × Bool :=
  if q.2 = false ∨ q.1 < 1 then zeroE else if (v4parse h).2 = true then (⟨ad4 (v4parse h).1, q.1⟩, true)
  else if boxed h ∧ (v6parse (innerL h)).2.2 = true then (⟨adOf (v6parse (innerL h)).1 (v6parse (innerL h)).2.1, q.1⟩, true) else zeroE
def enParse (l : List UInt8) : En × Bool := match lastO 58 l with | none => zeroE | some i => enPart (l.take i) (decParse (l.drop (i + 1)) 65535)
def zeroA : Ad × Bool := (⟨false, 0, 0⟩, false)
/-- as the code reads the part ahead of the port -/
def hostP (h : List UInt8) : Ad × Bool := if h[0]? = some 91 then (if boxed h ∧ 58 ∈ innerL h then adParse (innerL h) else zeroA) else adParse h
def enCode (h : List UInt8) (q : Int × Bool) : En × Bool :=
  if h[0]? ≠ some 91 ∧ 58 ∈ h then zeroE else if (hostP h).2 = false ∨ q.2 = false ∨ q.1 = 0 then zeroE else (⟨(hostP h).1, q.1⟩, true)
theorem v4parse_no91 {l : List UInt8} (h : (v4parse l).2 = true) : (91 : UInt8) ∉ l := by
  have := (v4parse_true (l := l) (n := (v4parse l).1) (by rw [← h])).2
  intro hm; rw [this] at hm
  have hd : ∀ n : Nat, (91 : UInt8) ∉ digs n := fun n h => by have := digs_isDig n _ h; unfold isDig at this; simp at this
  unfold v4text v4parts at hm
  rw [joinL_cons, joinL_cons, joinL_cons, joinL_one] at hm
  simp [hd] at hm
theorem adParse_58 {l : List UInt8} (h : (58 : UInt8) ∈ l) : adParse l = if (v6parse l).2.2 = true then (adOf (v6parse l).1 (v6parse l).2.1, true) else zeroA := by
  unfold adParse zeroA
  rw [if_neg (fun h4 => v4parse_no58 h4 h)]
theorem adParse_no58 {l : List UInt8} (h : (58 : UInt8) ∉ l) : adParse l = if (v4parse l).2 = true then (ad4 (v4parse l).1, true) else zeroA := by
  unfold adParse zeroA
  by_cases h4 : (v4parse l).2 = true
  · rw [if_pos h4, if_pos h4]
  · rw [if_neg h4, if_neg h4, if_neg (fun h6 => h (v6parse_58 h6))]
theorem enCode_bad {h : List UInt8} (q : Int × Bool) (hp : hostP h = zeroA) : enCode h q = zeroE := by
  unfold enCode; rw [hp]
  split
  · rfl
  · exact if_pos (show zeroA.2 = false ∨ q.2 = false ∨ q.1 = 0 from Or.inl rfl)
theorem enCode_good {h : List UInt8} {q : Int × Bool} {a : Ad} (hq : 0 ≤ q.1) (hp : hostP h = (a, true)) (hc : ¬ (h[0]? ≠ some 91 ∧ 58 ∈ h)) : enCode h q = if q.2 = false ∨ q.1 < 1 then zeroE else (⟨a, q.1⟩, true) := by
  unfold enCode; rw [if_neg hc, hp]
  by_cases c : q.2 = false ∨ q.1 < 1
  · rw [if_pos c, if_pos]
    rcases c with c | c
    · exact Or.inr (Or.inl c)
    · exact Or.inr (Or.inr (by omega))
  · rw [if_neg c, if_neg]
    simp only
    rintro (d | d | d)
    · cases d
    · exact c (Or.inl d)
    · exact c (Or.inr (by omega))
theorem enPart_bad {h : List UInt8} (q : Int × Bool) (h4 : ¬ (v4parse h).2 = true) (h6 : ¬ (boxed h ∧ (v6parse (innerL h)).2.2 = true)) : enPart h q = zeroE := by
  unfold enPart
  rw [if_neg h4, if_neg h6]
  split <;> rfl
theorem en_eq (h : List UInt8) (q : Int × Bool) (hq : 0 ≤ q.1) : enPart h q = enCode h q := by
  by_cases hb : h[0]? = some 91
  · have h4 : ¬ (v4parse h).2 = true := fun c => v4parse_no91 c (List.mem_of_getElem? hb)
    by_cases hx : boxed h
    · by_cases h58 : (58 : UInt8) ∈ innerL h
      · have hp : hostP h = adParse (innerL h) := by unfold hostP; rw [if_pos hb, if_pos ⟨hx, h58⟩]
        rw [adParse_58 h58] at hp
        by_cases h6 : (v6parse (innerL h)).2.2 = true
        · rw [if_pos h6] at hp
          rw [enCode_good hq hp (fun c => c.1 hb)]
          unfold enPart
          rw [if_neg h4, if_pos (show boxed h ∧ (v6parse (innerL h)).2.2 = true from ⟨hx, h6⟩)]
        · rw [if_neg h6] at hp
          rw [enCode_bad q hp, enPart_bad q h4 (fun c => h6 c.2)]
      · have hp : hostP h = zeroA := by unfold hostP; rw [if_pos hb, if_neg (fun c => h58 c.2)]
        rw [enCode_bad q hp, enPart_bad q h4 (fun c => h58 (v6parse_58 c.2))]
    · have hp : hostP h = zeroA := by unfold hostP; rw [if_pos hb, if_neg (fun c => hx c.1)]
      rw [enCode_bad q hp, enPart_bad q h4 (fun c => hx c.1)]
  · have hx : ¬ boxed h := fun c => hb c.2.1
    by_cases h58 : (58 : UInt8) ∈ h
    · rw [enPart_bad q (fun c => v4parse_no58 c h58) (fun c => hx c.1)]
      unfold enCode; rw [if_pos ⟨hb, h58⟩]
    · have hp : hostP h = adParse h := by unfold hostP; rw [if_neg hb]
      rw [adParse_no58 h58] at hp
      by_cases h4 : (v4parse h).2 = true
      · rw [if_pos h4] at hp
        rw [enCode_good hq hp (fun c => h58 c.2)]
        unfold enPart
        rw [if_pos h4]
      · rw [if_neg h4] at hp
        rw [enCode_bad q hp, enPart_bad q h4 (fun c => hx c.1)]

/-! ### right, written -/
def enRight (e : En) : Bool := adRight e.ad && (decide (1 ≤ e.port) && decide (e.port ≤ 65535))
def enText (e : En) : List UInt8 := if enRight e = true then (if e.ad.v6 = true then 91 :: (adText e.ad ++ [93]) else adText e.ad) ++ 58 :: decText e.port else [45]
theorem enRight_iff (e : En) : enRight e = true ↔ adRight e.ad = true ∧ 1 ≤ e.port ∧ e.port ≤ 65535 := by unfold enRight; simp
theorem adOf_same (a : Ad) (h : adRight a = true) (hv : a.v6 = true) : adOf a.hi a.lo = a := by
  have := right6 a hv
  rw [h] at this; exact of_decide_eq_true this
theorem digs_no58' (n : Nat) : (58 : UInt8) ∉ digs n := digs_no58 n
theorem enParse_text (e : En) (hf : e.ad.fits) (h : enRight e = true) : enParse (enText e) = (e, true) := by
  obtain ⟨h1, h2, h3⟩ := (enRight_iff e).1 h
  have hd : decText e.port = digs e.port.toNat := by unfold decText; rw [if_neg (by omega)]; congr 1; omega
  have hq : decParse (digs e.port.toNat) 65535 = (e.port, true) := by
    rw [decParse_digs e.port.toNat 65535 (by omega) (by omega)]; congr 1; omega
  unfold enText
  rw [if_pos h, hd]
  unfold enParse
  rw [lastO_app _ (digs_no58 _)]
  simp only
  rw [List.take_left]
  have e2 : ∀ X : List UInt8, (X ++ 58 :: digs e.port.toNat).drop (X.length + 1) = digs e.port.toNat := fun X => by
    rw [show X ++ 58 :: digs e.port.toNat = (X ++ [58]) ++ digs e.port.toNat from by simp, show X.length + 1 = (X ++ [58]).length from by simp, List.drop_left]
  rw [e2, hq]
  unfold enPart
  rw [if_neg (by simp only; rintro (c | c); cases c; omega)]
  cases hv : e.ad.v6 with
  | true =>
    rw [if_pos rfl]
    have ht : adText e.ad = v6text e.ad.hi e.ad.lo := by unfold adText; rw [if_pos h1, if_pos hv]
    rw [if_neg (fun c => v4parse_no91 c (by simp))]
    have hin : innerL (91 :: (adText e.ad ++ [93])) = adText e.ad := by
      unfold innerL
      simp
    have hbx : boxed (91 :: (adText e.ad ++ [93])) := by
      refine ⟨by simp, by simp, ?_⟩
      simp
    rw [hin, ht, v6parse_text _ _ hf.1 hf.2, if_pos ⟨by rw [← ht]; exact hbx, rfl⟩]
    simp only
    rw [adOf_same e.ad h1 hv]
  | false =>
    rw [if_neg (show ¬ (false = true) from by simp)]
    have ht : adText e.ad = v4text e.ad.lo := by unfold adText; rw [if_pos h1, if_neg (by rw [hv]; simp)]
    have hr := h1
    unfold adRight at hr
    rw [if_neg (by rw [hv]; simp)] at hr
    obtain ⟨r1, r2⟩ := of_decide_eq_true hr
    rw [ht, v4parse_text _ r2, if_pos rfl]
    have : ad4 e.ad.lo = e.ad := Ad.ext' hv.symm r1.symm rfl
    simp only
    rw [this]
theorem enParse_dash : enParse [45] = zeroE := by decide +kernel
theorem enPart_ok (h : List UInt8) (q : Int × Bool) (hq : q.1 ≤ 65535) : (enPart h q).1.ad.fits ∧ ((enPart h q).2 = true → enRight (enPart h q).1 = true) ∧ ((enPart h q).2 = false → enPart h q = zeroE) := by
  have hz : zeroE.1.ad.fits ∧ (zeroE.2 = true → enRight zeroE.1 = true) ∧ (zeroE.2 = false → zeroE = zeroE) := ⟨⟨by decide, by decide⟩, fun h => (by cases h), fun _ => rfl⟩
  unfold enPart
  split
  · exact hz
  · rename_i hc
    split
    · rename_i h4
      have := adParse_lt4 h4
      refine ⟨⟨by simp [ad4], by simp only [ad4]; omega⟩, fun _ => ?_, fun h => (by cases h)⟩
      rw [enRight_iff]
      refine ⟨?_, by simp only; omega, by simp only; omega⟩
      unfold adRight ad4; rw [if_neg (by simp)]; exact decide_eq_true ⟨rfl, this⟩
    · split
      · have := v6parse_lt (innerL h)
        refine ⟨adOf_fits _ _ this.1 this.2, fun _ => ?_, fun h => (by cases h)⟩
        rw [enRight_iff]
        exact ⟨adOf_right _ _, by simp only; omega, by simp only; omega⟩
      · exact hz
theorem dec_le {l : List UInt8} {m : Int} (hm : 0 ≤ m) : 0 ≤ (decParse l m).1 ∧ (decParse l m).1 ≤ m := by
  cases h : (decParse l m).2 with
  | true =>
    obtain ⟨k, h1, _, h2, _⟩ := decParse_true (l := l) (most := m) (n := (decParse l m).1) (by rw [← h])
    omega
  | false => rw [decParse_false h]; exact ⟨by simp, hm⟩
theorem enParse_ok (l : List UInt8) : (enParse l).1.ad.fits ∧ ((enParse l).2 = true → enRight (enParse l).1 = true) ∧ ((enParse l).2 = false → enParse l = zeroE) := by
  unfold enParse
  cases lastO 58 l with
  | none => exact (⟨⟨by decide, by decide⟩, fun h => (by cases h), fun _ => rfl⟩ : zeroE.1.ad.fits ∧ (zeroE.2 = true → enRight zeroE.1 = true) ∧ (zeroE.2 = false → zeroE = zeroE))
  | some i => exact enPart_ok _ _ (dec_le (by omega)).2
theorem enText_inj (e f : En) (he : e.ad.fits) (hf : f.ad.fits) (h1 : enRight e = true) (h2 : enRight f = true) : e = f ↔ enText e = enText f := by
  constructor
  · intro h; rw [h]
  · intro h
    have a := enParse_text e he h1
    rw [h, enParse_text f hf h2] at a
    exact (congrArg Prod.fst a).symm
theorem enText_len (e : En) (hf : e.ad.fits) : (enText e).length ≤ 2000 := by
  unfold enText
  split
  · rename_i h
    obtain ⟨_, h2, h3⟩ := (enRight_iff e).1 h
    have h4 : (adText e.ad).length ≤ 1000 := adText_len e.ad hf
    have h5 := decText_len e.port (by omega) (by omega)
    split <;> simp <;> omega
  · simp
end Go.Proofs.Ytnohkfbapibmdaa
/- Texts of numbers, addresses, subnets and ends hold no blank and no line's end. Plain. -/
namespace Go.Proofs.Ytnohkfbapibmdaa
open Go.RowKit

theorem digs_no32 (n : Nat) : (32 : UInt8) ∉ digs n := fun h => by have := digs_isDig n _ h; unfold isDig at this; simp at this
theorem v4text_no32 (n : Nat) : (32 : UInt8) ∉ v4text n := by
  unfold v4text v4parts
  rw [joinL_cons, joinL_cons, joinL_cons, joinL_one]
  simp [digs_no32]
theorem v4parse_no32 {l : List UInt8} (h : (v4parse l).2 = true) : (32 : UInt8) ∉ l := by
  have := (v4parse_true (l := l) (n := (v4parse l).1) (by rw [← h])).2
  intro hm; rw [this] at hm; exact v4text_no32 _ hm
theorem hexParse_no32 {p : List UInt8} (h : (hexParse p).2 = true) : (32 : UInt8) ∉ p := by
  intro hm
  obtain ⟨a, b, rfl⟩ := List.append_of_mem hm
  have hz : hloop (a ++ 32 :: b) = none := by
    unfold hloop
    rw [List.foldl_append, List.foldl_cons]
    have : ∀ x : Option Int, hstep x 32 = none := fun x => by
      cases x with
      | none => rfl
      | some n =>
        show (if hexVal 32 < 0 then none else some (n * 16 + hexVal 32)) = none
        rw [if_pos (show hexVal 32 < 0 from by decide +kernel)]
    rw [this, hfold_none]
  unfold hexParse at h
  rw [hz] at h
  split at h <;> cases h
theorem fullP_no32 {L : List (List UInt8)} : ∀ (a : List Nat), (∃ p ∈ L, (32 : UInt8) ∈ p) → fullP L a = none := by
  induction L with
  | nil => intro a ⟨p, hp, _⟩; cases hp
  | cons q r ih =>
    intro a ⟨p, hp, hm⟩
    unfold fullP
    rcases List.mem_cons.1 hp with rfl | hp
    · rw [if_neg (fun hx => hexParse_no32 hx hm), if_neg (fun hx => v4parse_no32 hx.1 hm)]
    · by_cases hx : (hexParse q).2 = true
      · rw [if_pos hx]; exact ih _ ⟨p, hp, hm⟩
      · rw [if_neg hx, if_neg (fun hy => by rw [hy.2] at hp; cases hp)]
theorem fourL_no32 {may : Bool} {l : List UInt8} (hm : (32 : UInt8) ∈ l) : fourL may l = none := by
  unfold fourL
  rw [if_neg (fun h => by rw [h] at hm; cases hm)]
  cases h : fourP may (splitL 58 l) [] with
  | none => rfl
  | some g =>
    have h1 := fourP_full h
    have h2 := fullP_no32 [] (split_mem (c := 58) (d := 32) (by decide) l hm)
    rw [h2] at h1; cases h1
theorem v6parse_no32 {l : List UInt8} (h : (v6parse l).2.2 = true) : (32 : UInt8) ∉ l := by
  intro hm
  have hz : spreadL l = none := by
    unfold spreadL
    cases hg : gapO l with
    | none => exact fourL_no32 hm
    | some i =>
      obtain ⟨h1, h2, _⟩ := gapO_some hg
      simp only
      obtain ⟨k, hk⟩ := List.mem_iff_getElem?.1 hm
      have k1 : k ≠ i := fun e => by rw [e, h1] at hk; cases hk
      have k2 : k ≠ i + 1 := fun e => by rw [e, h2] at hk; cases hk
      by_cases hlt : k < i
      · have : (32 : UInt8) ∈ l.take i := List.mem_iff_getElem?.2 ⟨k, by rw [List.getElem?_take, if_pos hlt]; exact hk⟩
        rw [fourL_no32 this]
      · have : (32 : UInt8) ∈ l.drop (i + 2) := List.mem_iff_getElem?.2 ⟨k - (i + 2), by rw [List.getElem?_drop, show i + 2 + (k - (i + 2)) = k from by omega]; exact hk⟩
        rw [fourL_no32 this]
        cases fourL false (l.take i) <;> rfl
  unfold v6parse at h
  rw [hz] at h; cases h
theorem adParse_no32 {l : List UInt8} (h : (adParse l).2 = true) : (32 : UInt8) ∉ l := by
  unfold adParse at h
  split at h
  · rename_i h4; exact v4parse_no32 h4
  · split at h
    · rename_i h6; exact v6parse_no32 h6
    · cases h
theorem adText_no32 (a : Ad) (hf : a.fits) : (32 : UInt8) ∉ adText a := by
  cases h : adRight a with
  | true => exact adParse_no32 (by rw [adParse_text a hf h])
  | false => rw [adText_bad a h]; simp
/-- read as one of six, an address is what it stands for -/
theorem digs_no10 (n : Nat) : (10 : UInt8) ∉ digs n := fun h => by have := digs_isDig n _ h; unfold isDig at this; simp at this
theorem v4text_no10 (n : Nat) : (10 : UInt8) ∉ v4text n := by
  unfold v4text v4parts
  rw [joinL_cons, joinL_cons, joinL_cons, joinL_one]
  simp [digs_no10]
theorem v4parse_no10 {l : List UInt8} (h : (v4parse l).2 = true) : (10 : UInt8) ∉ l := by
  have := (v4parse_true (l := l) (n := (v4parse l).1) (by rw [← h])).2
  intro hm; rw [this] at hm; exact v4text_no10 _ hm
theorem hexParse_no10 {p : List UInt8} (h : (hexParse p).2 = true) : (10 : UInt8) ∉ p := by
  intro hm
  obtain ⟨a, b, rfl⟩ := List.append_of_mem hm
  have hz : hloop (a ++ 10 :: b) = none := by
    unfold hloop
    rw [List.foldl_append, List.foldl_cons]
    have : ∀ x : Option Int, hstep x 10 = none := fun x => by
      cases x with
      | none => rfl
      | some n =>
        show (if hexVal 10 < 0 then none else some (n * 16 + hexVal 10)) = none
        rw [if_pos (show hexVal 10 < 0 from by decide +kernel)]
    rw [this, hfold_none]
  unfold hexParse at h
  rw [hz] at h
  split at h <;> cases h
theorem fullP_no10 {L : List (List UInt8)} : ∀ (a : List Nat), (∃ p ∈ L, (10 : UInt8) ∈ p) → fullP L a = none := by
  induction L with
  | nil => intro a ⟨p, hp, _⟩; cases hp
  | cons q r ih =>
    intro a ⟨p, hp, hm⟩
    unfold fullP
    rcases List.mem_cons.1 hp with rfl | hp
    · rw [if_neg (fun hx => hexParse_no10 hx hm), if_neg (fun hx => v4parse_no10 hx.1 hm)]
    · by_cases hx : (hexParse q).2 = true
      · rw [if_pos hx]; exact ih _ ⟨p, hp, hm⟩
      · rw [if_neg hx, if_neg (fun hy => by rw [hy.2] at hp; cases hp)]
theorem fourL_no10 {may : Bool} {l : List UInt8} (hm : (10 : UInt8) ∈ l) : fourL may l = none := by
  unfold fourL
  rw [if_neg (fun h => by rw [h] at hm; cases hm)]
  cases h : fourP may (splitL 58 l) [] with
  | none => rfl
  | some g =>
    have h1 := fourP_full h
    have h2 := fullP_no10 [] (split_mem (c := 58) (d := 10) (by decide) l hm)
    rw [h2] at h1; cases h1
theorem v6parse_no10 {l : List UInt8} (h : (v6parse l).2.2 = true) : (10 : UInt8) ∉ l := by
  intro hm
  have hz : spreadL l = none := by
    unfold spreadL
    cases hg : gapO l with
    | none => exact fourL_no10 hm
    | some i =>
      obtain ⟨h1, h2, _⟩ := gapO_some hg
      simp only
      obtain ⟨k, hk⟩ := List.mem_iff_getElem?.1 hm
      have k1 : k ≠ i := fun e => by rw [e, h1] at hk; cases hk
      have k2 : k ≠ i + 1 := fun e => by rw [e, h2] at hk; cases hk
      by_cases hlt : k < i
      · have : (10 : UInt8) ∈ l.take i := List.mem_iff_getElem?.2 ⟨k, by rw [List.getElem?_take, if_pos hlt]; exact hk⟩
        rw [fourL_no10 this]
      · have : (10 : UInt8) ∈ l.drop (i + 2) := List.mem_iff_getElem?.2 ⟨k - (i + 2), by rw [List.getElem?_drop, show i + 2 + (k - (i + 2)) = k from by omega]; exact hk⟩
        rw [fourL_no10 this]
        cases fourL false (l.take i) <;> rfl
  unfold v6parse at h
  rw [hz] at h; cases h
theorem adParse_no10 {l : List UInt8} (h : (adParse l).2 = true) : (10 : UInt8) ∉ l := by
  unfold adParse at h
  split at h
  · rename_i h4; exact v4parse_no10 h4
  · split at h
    · rename_i h6; exact v6parse_no10 h6
    · cases h
theorem adText_no10 (a : Ad) (hf : a.fits) : (10 : UInt8) ∉ adText a := by
  cases h : adRight a with
  | true => exact adParse_no10 (by rw [adParse_text a hf h])
  | false => rw [adText_bad a h]; simp
/-- read as one of six, an address is what it stands for -/
theorem decText_no32 (n : Int) : (32 : UInt8) ∉ decText n := by unfold decText; split <;> simp [digs_no32]
theorem decText_no10 (n : Int) : (10 : UInt8) ∉ decText n := by unfold decText; split <;> simp [digs_no10]
theorem ntText_no32 (n : Nt) (hf : n.ad.fits) : (32 : UInt8) ∉ ntText n := by
  unfold ntText; split <;> simp [adText_no32 n.ad hf, decText_no32]
theorem ntText_no10 (n : Nt) (hf : n.ad.fits) : (10 : UInt8) ∉ ntText n := by
  unfold ntText; split <;> simp [adText_no10 n.ad hf, decText_no10]
theorem enText_no32 (e : En) (hf : e.ad.fits) : (32 : UInt8) ∉ enText e := by
  unfold enText; split
  · split <;> simp [adText_no32 e.ad hf, decText_no32]
  · simp
theorem enText_no10 (e : En) (hf : e.ad.fits) : (10 : UInt8) ∉ enText e := by
  unfold enText; split
  · split <;> simp [adText_no10 e.ad hf, decText_no10]
  · simp
end Go.Proofs.Ytnohkfbapibmdaa
/- Peers: plain. No condition. -/
namespace Go.Proofs.Ytnohkfbapibmdaa
open Go.RowKit

structure Pe where
  en : En
  came : Bool
  since : Int
  pts : Int
  at_ : Int
  ping : Int
  work : Int
deriving DecidableEq
instance : Inhabited Pe := ⟨⟨⟨⟨false, 0, 0⟩, 0⟩, false, 0, 0, 0, 0, 0⟩⟩
def withinB (n most : Int) : Bool := decide (0 ≤ n) && decide (n ≤ most)
def peRight (p : Pe) : Bool := enRight p.en && (withinB p.since 1099511627776 && (withinB p.at_ 1099511627776 && (withinB p.work 1099511627776 && (withinB p.pts 1099511627776 && withinB p.ping 1048576))))
def peNew (e : En) (came : Bool) (now : Int) : Pe := ⟨e, came, fitI now, 0, fitI now, 0, 0⟩
def pePong (p : Pe) (ms : Int) : Pe := if 1 ≤ ms ∧ ms ≤ 1048576 ∧ (p.ping = 0 ∨ ms < p.ping) then { p with ping := ms } else p
def peWorked (p : Pe) (now : Int) : Pe := { p with work := max p.work (fitI now) }
def peBlamed (p : Pe) (points half now : Int) : Pe := { p with pts := addPts p.pts p.at_ half now points, at_ := decAt p.at_ half now }
def wayText (b : Bool) : List UInt8 := if b = true then [105, 110] else [111, 117, 116]
def pePartsOf (p : Pe) : List (List UInt8) := [wayText p.came, enText p.en, [115, 105, 110, 99, 101], decText p.since, [112, 111, 105, 110, 116, 115], decText (wholeI p.pts), [112, 105, 110, 103], decText p.ping, [119, 111, 114, 107], decText p.work]
def peText (p : Pe) : List UInt8 := joinL 32 (pePartsOf p)
def Pe.fits (p : Pe) : Prop := (p.en.ad.fits ∧ -9223372036854775808 ≤ p.en.port ∧ p.en.port ≤ 9223372036854775807) ∧ (-9223372036854775808 ≤ p.since ∧ p.since ≤ 9223372036854775807) ∧ (-9223372036854775808 ≤ p.pts ∧ p.pts ≤ 9223372036854775807) ∧ (-9223372036854775808 ≤ p.at_ ∧ p.at_ ≤ 9223372036854775807) ∧ (-9223372036854775808 ≤ p.ping ∧ p.ping ≤ 9223372036854775807) ∧ (-9223372036854775808 ≤ p.work ∧ p.work ≤ 9223372036854775807)
theorem Pe.ext' {a b : Pe} (h1 : a.en = b.en) (h2 : a.came = b.came) (h3 : a.since = b.since) (h4 : a.pts = b.pts) (h5 : a.at_ = b.at_) (h6 : a.ping = b.ping) (h7 : a.work = b.work) : a = b := by cases a; cases b; simp_all
theorem wholeI_in {p : Int} (h : p ≤ 9223372036854775807) : 0 ≤ wholeI p ∧ wholeI p ≤ 9223372036854775807 := by unfold wholeI; split <;> omega
theorem wayText_len (b : Bool) : (wayText b).length ≤ 3 := by cases b <;> decide
theorem peText_eq (p : Pe) : peText p = wayText p.came ++ 32 :: (enText p.en ++ 32 :: ([115, 105, 110, 99, 101] ++ 32 :: (decText p.since ++ 32 :: ([112, 111, 105, 110, 116, 115] ++ 32 :: (decText (wholeI p.pts) ++ 32 :: ([112, 105, 110, 103] ++ 32 :: (decText p.ping ++ 32 :: ([119, 111, 114, 107] ++ 32 :: decText p.work)))))))) := by
  unfold peText pePartsOf
  simp only [joinL_cons, joinL_one]
theorem peText_ref (p : Pe) : (if p.came = true then [105, 110, 32] else [111, 117, 116, 32]) ++ enText p.en ++ [32, 115, 105, 110, 99, 101, 32] ++ decText p.since ++ [32, 112, 111, 105, 110, 116, 115, 32] ++ decText (wholeI p.pts) ++ [32, 112, 105, 110, 103, 32] ++ decText p.ping ++ [32, 119, 111, 114, 107, 32] ++ decText p.work = peText p := by
  rw [peText_eq]; unfold wayText; cases p.came <;> simp
theorem peText_len (p : Pe) (hf : p.fits) : (peText p).length ≤ 3000 := by
  obtain ⟨h1, h2, h3, h4, h5, h6⟩ := hf
  have w := wholeI_in h3.2
  have a := enText_len p.en h1.1
  have b := decText_len p.since h2.1 h2.2
  have c := decText_len (wholeI p.pts) (by omega) w.2
  have d := decText_len p.ping h5.1 h5.2
  have e := decText_len p.work h6.1 h6.2
  have f := wayText_len p.came
  rw [peText_eq]; simp; omega
theorem peNew_fits (e : En) (hf : e.ad.fits ∧ -9223372036854775808 ≤ e.port ∧ e.port ≤ 9223372036854775807) (b : Bool) (n : Int) : (peNew e b n).fits := by
  have := fitI_in n
  unfold peNew Pe.fits; simp only; exact ⟨hf, by omega, by omega, by omega, by omega, by omega⟩
theorem pePong_fits (p : Pe) (hf : p.fits) (n : Int) : (pePong p n).fits := by
  unfold pePong; split
  · obtain ⟨h1, h2, h3, h4, h5, h6⟩ := hf
    unfold Pe.fits; simp only; exact ⟨h1, h2, h3, h4, by omega, h6⟩
  · exact hf
theorem peWorked_fits (p : Pe) (hf : p.fits) (n : Int) : (peWorked p n).fits := by
  obtain ⟨h1, h2, h3, h4, h5, h6⟩ := hf
  have := fitI_in n
  unfold peWorked Pe.fits; simp only; exact ⟨h1, h2, h3, h4, h5, by omega⟩
theorem peBlamed_fits (p : Pe) (hf : p.fits) (x y z : Int) : (peBlamed p x y z).fits := by
  obtain ⟨h1, h2, h3, h4, h5, h6⟩ := hf
  have a := addPts_in p.pts p.at_ y z x; have b := decAt_in p.at_ y z
  unfold peBlamed Pe.fits; simp only; exact ⟨h1, h2, by omega, by omega, h5, h6⟩
end Go.Proofs.Ytnohkfbapibmdaa
/- Replies: plain. No condition. -/
namespace Go.Proofs.Ytnohkfbapibmdaa
open Go.RowKit

def zeroEn : En := ⟨⟨false, 0, 0⟩, 0⟩
def eqL (name : List UInt8) (t : List UInt8) : List UInt8 := name ++ [61] ++ t
def namedL (name : List UInt8) (n : Int) : List (List UInt8) := if n = 0 then [] else [eqL name (decText n)]
def endW : List UInt8 := [101, 110, 100]
def nW : List UInt8 := [110]
def untilW : List UInt8 := [117, 110, 116, 105, 108]
def peersW : List UInt8 := [112, 101, 101, 114, 115]
def headL (code : Int) : List UInt8 := if nameAt errN code = [] then [45] else nameAt errN code
def endL (e : En) : List (List UInt8) := if e = zeroEn then [] else [eqL endW (enText e)]
def rpParts (code : Int) (e : En) (n till : Int) (k : Nat) : List (List UInt8) := [headL code] ++ endL e ++ namedL nW n ++ namedL untilW till ++ namedL peersW k
def rpText (code : Int) (e : En) (n till : Int) (k : Nat) : List UInt8 := joinL 32 (rpParts code e n till k)
theorem namedL_len (w : List UInt8) (n : Int) : (namedL w n).length ≤ 1 := by unfold namedL; split <;> simp
theorem endL_len (e : En) : (endL e).length ≤ 1 := by unfold endL; split <;> simp
theorem errN_len : ∀ i : Fin 10, (errN[i.val]'i.isLt).length ≤ 10 := by decide
theorem nameAt_len (c : Int) : (nameAt errN c).length ≤ 10 := by
  unfold nameAt
  split
  · rename_i h
    have hl : errN.length = 10 := rfl
    have hi : c.toNat < 10 := by omega
    have := errN_len ⟨c.toNat, hi⟩
    rw [show errN.getD c.toNat [] = errN[c.toNat]'(by omega) from by rw [List.getD_eq_getElem?_getD, List.getElem?_eq_getElem (by omega)]; rfl]; exact this
  · simp
theorem headL_len (c : Int) : (headL c).length ≤ 10 := by unfold headL; have := nameAt_len c; split <;> simp; omega
/-- what follows a first word, each behind a blank -/
def tailL (L : List (List UInt8)) : List UInt8 := (L.map fun x => 32 :: x).flatten
theorem joinL_tail (x : List UInt8) (L : List (List UInt8)) : joinL 32 (x :: L) = x ++ tailL L := by
  induction L generalizing x with
  | nil => rw [joinL_one]; simp [tailL]
  | cons y r ih => rw [joinL_cons, ih]; simp [tailL]
theorem tailL_app (A B : List (List UInt8)) : tailL (A ++ B) = tailL A ++ tailL B := by simp [tailL]
theorem tailL_nil : tailL [] = [] := rfl
theorem tailL_one (x : List UInt8) : tailL [x] = 32 :: x := by simp [tailL]
theorem rpText_eq (code : Int) (e : En) (n till : Int) (k : Nat) : rpText code e n till k = headL code ++ tailL (endL e) ++ tailL (namedL nW n) ++ tailL (namedL untilW till) ++ tailL (namedL peersW k) := by
  unfold rpText rpParts
  simp only [List.cons_append, List.nil_append]
  rw [joinL_tail]; simp [tailL_app]
def i64 (n : Int) : Prop := -9223372036854775808 ≤ n ∧ n ≤ 9223372036854775807
theorem tail_named_len (w : List UInt8) (n : Int) (hn : i64 n) (hw : w.length ≤ 10) : (tailL (namedL w n)).length ≤ 40 := by
  unfold namedL; split
  · simp [tailL]
  · have := decText_len n hn.1 hn.2
    rw [tailL_one]; unfold eqL; simp; omega
theorem tail_end_len (e : En) (hf : e.ad.fits) : (tailL (endL e)).length ≤ 2010 := by
  unfold endL; split
  · simp [tailL]
  · have := enText_len e hf
    rw [tailL_one]; unfold eqL endW; simp; omega
theorem rpText_len (code : Int) (e : En) (n till : Int) (k : Nat) (hf : e.ad.fits) (hn : i64 n) (ht : i64 till) (hk : i64 k) : (rpText code e n till k).length ≤ 3000 := by
  rw [rpText_eq]
  have h1 := headL_len code; have h2 := tail_end_len e hf
  have h3 := tail_named_len nW n hn (by decide); have h4 := tail_named_len untilW till ht (by decide); have h5 := tail_named_len peersW k hk (by decide)
  simp only [List.length_append]; omega

/-! ### two replies with one line -/
theorem no32_named (w : List UInt8) (n : Int) (hw : (32 : UInt8) ∉ w) : ∀ x ∈ namedL w n, (32 : UInt8) ∉ x := by
  intro x hx; unfold namedL at hx; split at hx
  · cases hx
  · rw [List.mem_singleton] at hx; subst hx; unfold eqL; simp [hw, decText_no32]
theorem no32_end (e : En) (hf : e.ad.fits) : ∀ x ∈ endL e, (32 : UInt8) ∉ x := by
  intro x hx; unfold endL at hx; split at hx
  · cases hx
  · rw [List.mem_singleton] at hx; subst hx; unfold eqL endW; simp [enText_no32 e hf]
theorem no32_errN : ∀ i : Fin 10, (32 : UInt8) ∉ (errN[i.val]'i.isLt) := by decide
theorem nameAt_err {c : Int} (h0 : 0 ≤ c) (h1 : c ≤ 9) : nameAt errN c = errN[c.toNat]'(by have : errN.length = 10 := rfl; omega) :=
  nameAt_in h0 (List.getElem?_eq_getElem _)
theorem errN_inj : ∀ i j : Fin 10, (errN[i.val]'i.isLt) = (errN[j.val]'j.isLt) → i = j := by decide
theorem errN_ne : ∀ i : Fin 10, (errN[i.val]'i.isLt) ≠ [] := by decide
theorem headL_good {c : Int} (h0 : 0 ≤ c) (h1 : c ≤ 9) : headL c = errN[c.toNat]'(by have : errN.length = 10 := rfl; omega) := by
  unfold headL; rw [nameAt_err h0 h1]; exact if_neg (errN_ne ⟨c.toNat, by omega⟩)
theorem rpText_split {c : Int} {e : En} (n till : Int) (h0 : 0 ≤ c) (h1 : c ≤ 9) (hf : e.ad.fits) : splitL 32 (rpText c e n till 0) = rpParts c e n till 0 := by
  refine splitL_join 32 _ (by unfold rpParts; simp) ?_
  intro x hx
  unfold rpParts at hx
  simp only [List.mem_append] at hx
  rcases hx with (((hx | hx) | hx) | hx) | hx
  · rw [List.mem_singleton] at hx; subst hx; rw [headL_good h0 h1]; exact no32_errN ⟨c.toNat, by omega⟩
  · exact no32_end e hf x hx
  · exact no32_named _ _ (by decide) x hx
  · exact no32_named _ _ (by decide) x hx
  · exact no32_named _ _ (by decide) x hx
def pick (b : UInt8) (L : List (List UInt8)) : List (List UInt8) := L.filter fun x => decide (x[0]? = some b)
theorem pick_app (b : UInt8) (A B : List (List UInt8)) : pick b (A ++ B) = pick b A ++ pick b B := by simp [pick]
theorem pick_named (b x : UInt8) (w : List UInt8) (n : Int) : pick b (namedL (x :: w) n) = if x = b then namedL (x :: w) n else [] := by
  unfold namedL eqL pick
  split
  · simp
  · by_cases h : x = b <;> simp [h]
theorem pick_end (b : UInt8) (e : En) : pick b (endL e) = if (101 : UInt8) = b then endL e else [] := by
  unfold endL eqL endW pick
  split
  · simp
  · by_cases h : (101 : UInt8) = b <;> simp [h]
theorem named_inj {w : List UInt8} {n m : Int} (h : namedL w n = namedL w m) (hi : ∀ a b : Int, i64 a → i64 b → decText a = decText b → a = b) (hn : i64 n) (hm : i64 m) : n = m := by
  unfold namedL eqL at h
  split at h <;> split at h
  · omega
  · cases h
  · cases h
  · simp at h; exact hi n m hn hm h
theorem decText_inj (a b : Int) (h : decText a = decText b) : a = b := by
  unfold decText at h
  have hd : ∀ n m : Nat, digs n = digs m → n = m := fun n m h => by rw [← nval_digs n, ← nval_digs m, h]
  have h45 : ∀ n : Nat, (45 : UInt8) ∉ digs n := fun n h => by have := digs_isDig n _ h; unfold isDig at this; simp at this
  split at h <;> split at h
  · have := hd _ _ (List.cons_inj_right _ |>.1 h); omega
  · exact absurd (h ▸ List.mem_cons_self) (h45 _)
  · exact absurd (h.symm ▸ List.mem_cons_self) (h45 _)
  · have := hd _ _ h; omega
theorem end_inj {e f : En} (he : e.ad.fits) (hf : f.ad.fits) (h1 : enRight e = true ∨ e = zeroEn) (h2 : enRight f = true ∨ f = zeroEn) (h : endL e = endL f) : e = f := by
  unfold endL eqL at h
  split at h <;> split at h
  · rename_i a b; rw [a, b]
  · cases h
  · cases h
  · rename_i a b
    simp at h
    exact (enText_inj e f he hf (h1.resolve_right a) (h2.resolve_right b)).2 h
theorem rp_inj {c d : Int} {e f : En} {n m u v : Int} (hc : 0 ≤ c ∧ c ≤ 9) (hd : 0 ≤ d ∧ d ≤ 9) (he : e.ad.fits) (hf : f.ad.fits) (h1 : enRight e = true ∨ e = zeroEn) (h2 : enRight f = true ∨ f = zeroEn) :
    rpText c e n u 0 = rpText d f m v 0 ↔ c = d ∧ e = f ∧ n = m ∧ u = v := by
  constructor
  · intro h
    have hs := congrArg (splitL 32) h
    rw [rpText_split n u hc.1 hc.2 he, rpText_split m v hd.1 hd.2 hf] at hs
    unfold rpParts at hs
    simp only [List.cons_append, List.nil_append, List.cons.injEq] at hs
    obtain ⟨ha, hb⟩ := hs
    rw [headL_good hc.1 hc.2, headL_good hd.1 hd.2] at ha
    have hcd := errN_inj ⟨c.toNat, by omega⟩ ⟨d.toNat, by omega⟩ ha
    simp only [Fin.mk.injEq] at hcd
    have p : ∀ b, _ := fun b => congrArg (pick b) hb
    have z : namedL peersW ((0 : Nat) : Int) = [] := rfl
    have p1 := p 101; have p2 := p 110; have p3 := p 117
    unfold nW untilW at p1 p2 p3
    simp only [pick_app, pick_named, pick_end, z] at p1 p2 p3
    simp [pick] at p1 p2 p3
    refine ⟨by omega, end_inj he hf h1 h2 p1, ?_, ?_⟩
    · exact (by
        unfold namedL eqL at p2
        split at p2 <;> split at p2
        · omega
        · cases p2
        · cases p2
        · simp at p2; exact decText_inj _ _ p2)
    · exact (by
        unfold namedL eqL at p3
        split at p3 <;> split at p3
        · omega
        · cases p3
        · cases p3
        · simp at p3; exact decText_inj _ _ p3)
  · rintro ⟨rfl, rfl, rfl, rfl⟩; rfl
end Go.Proofs.Ytnohkfbapibmdaa
/- Bans: plain. No condition. -/
namespace Go.Proofs.Ytnohkfbapibmdaa
open Go.RowKit

structure Ba where
  nt : Nt
  till : Int
deriving DecidableEq
instance : Inhabited Ba := ⟨⟨⟨⟨false, 0, 0⟩, 0⟩, 0⟩⟩
theorem Ba.ext' {a b : Ba} (h1 : a.nt = b.nt) (h2 : a.till = b.till) : a = b := by cases a; cases b; simp_all
def baRight (b : Ba) : Bool := ntRight b.nt && (decide (1 ≤ b.till) && decide (b.till ≤ 1099511627776))
def untilL : List UInt8 := [117, 110, 116, 105, 108]
def baText (b : Ba) : List UInt8 := if baRight b = true then joinL 32 [ntText b.nt, untilL, decText b.till] else []
def zeroB : Ba × Bool := (⟨⟨⟨false, 0, 0⟩, 0⟩, 0⟩, false)
def baLives (b : Ba) (now : Int) : Bool := decide (now < b.till)
def baHits (b : Ba) (a : Ad) (now : Int) : Bool := decide (now < b.till) && ntHas b.nt a
def baJoin (a b : Ba) : Ba := if a.nt = b.nt ∧ a.till < b.till then b else a
def baCand (p : Nt × Bool) (q : Int × Bool) (l : List UInt8) : Ba × Bool := if p.2 = true ∧ q.2 = true ∧ baText ⟨p.1, q.1⟩ = l then (⟨p.1, q.1⟩, true) else zeroB
/-- as the reference reads, at the first blank -/
def baParse (l : List UInt8) : Ba × Bool := baCand (ntParse (l.take (atB 32 l))) (decParse (l.drop (atB 32 l + 7)) 1099511627776) l
theorem baRight_iff (b : Ba) : baRight b = true ↔ ntRight b.nt = true ∧ 1 ≤ b.till ∧ b.till ≤ 1099511627776 := by unfold baRight; simp
theorem baText_bad (b : Ba) (h : baRight b = false) : baText b = [] := by unfold baText; rw [if_neg (by rw [h]; simp)]
theorem baText_good (b : Ba) (h : baRight b = true) : baText b = ntText b.nt ++ 32 :: (untilL ++ 32 :: decText b.till) := by
  unfold baText; rw [if_pos h]; simp only [joinL_cons, joinL_one]
theorem ntText_ne (n : Nt) (h : ntRight n = true) : ntText n ≠ [] := by unfold ntText; rw [if_pos h]; simp
theorem baText_ne (b : Ba) (h : baRight b = true) : baText b ≠ [] := by rw [baText_good b h]; simp
theorem baText_split (b : Ba) (hf : b.nt.ad.fits) (h : baRight b = true) : splitL 32 (baText b) = [ntText b.nt, untilL, decText b.till] := by
  have : baText b = joinL 32 [ntText b.nt, untilL, decText b.till] := by unfold baText; rw [if_pos h]
  rw [this]
  refine splitL_join 32 _ (by simp) ?_
  intro x hx
  simp only [List.mem_cons, List.not_mem_nil, or_false] at hx
  rcases hx with rfl | rfl | rfl
  · exact ntText_no32 _ hf
  · decide
  · exact decText_no32 _
theorem decParse_dec (n : Int) (h0 : 0 ≤ n) (h1 : n ≤ 1099511627776) : decParse (decText n) 1099511627776 = (n, true) := by
  have hd : decText n = digs n.toNat := by unfold decText; rw [if_neg (by omega)]; congr 1; omega
  rw [hd, decParse_digs n.toNat _ (by omega) (by omega)]; congr 1; omega
theorem baParse_text (b : Ba) (hf : b.nt.ad.fits) (h : baRight b = true) : baParse (baText b) = (b, true) := by
  obtain ⟨h1, h2, h3⟩ := (baRight_iff b).1 h
  have ht := baText_good b h
  unfold baParse
  have ha : atB 32 (baText b) = (ntText b.nt).length := by rw [ht, atB_app _ (ntText_no32 _ hf)]
  have hd : (baText b).drop ((ntText b.nt).length + 7) = decText b.till := by
    rw [ht, show ntText b.nt ++ 32 :: (untilL ++ 32 :: decText b.till) = (ntText b.nt ++ 32 :: (untilL ++ [32])) ++ decText b.till from by simp,
      show (ntText b.nt).length + 7 = (ntText b.nt ++ 32 :: (untilL ++ [32])).length from by simp [untilL], List.drop_left]
  rw [ha, hd, decParse_dec _ (by omega) h3]
  have hk : (baText b).take (ntText b.nt).length = ntText b.nt := by rw [ht, List.take_left]
  rw [hk, ntParse_text _ hf h1]
  unfold baCand
  rw [if_pos ⟨rfl, rfl, rfl⟩]
theorem baCand_ok {p : Nt × Bool} {q : Int × Bool} {l : List UInt8} (hp : p.1.ad.fits) (hr : p.2 = true → ntRight p.1 = true) (hl : (baCand p q l).2 = true) : baText (baCand p q l).1 = l ∧ (l ≠ [] → baRight (baCand p q l).1 = true) ∧ (baCand p q l).1.nt.ad.fits := by
  unfold baCand at hl ⊢
  split
  · rename_i h
    refine ⟨h.2.2, fun hne => ?_, hp⟩
    cases hb : baRight ⟨p.1, q.1⟩ with
    | true => rfl
    | false =>
      have := h.2.2
      rw [baText_bad _ hb] at this
      exact absurd this.symm hne
  · rename_i h; rw [if_neg h] at hl; cases hl
theorem baCand_no {p : Nt × Bool} {q : Int × Bool} {l : List UInt8} (hl : (baCand p q l).2 = false) : baCand p q l = zeroB := by
  unfold baCand at hl ⊢
  split
  · rename_i h; rw [if_pos h] at hl; cases hl
  · rfl
theorem baParse_nil : baParse [] = zeroB := by decide +kernel
theorem baParse_ok (l : List UInt8) : (baParse l).1.nt.ad.fits ∧ ((baParse l).2 = true → baRight (baParse l).1 = true ∧ baText (baParse l).1 = l) ∧ ((baParse l).2 = false → baParse l = zeroB) := by
  have hp := ntParse_ok (l.take (atB 32 l))
  refine ⟨?_, fun h => ?_, fun h => baCand_no h⟩
  · cases h : (baParse l).2 with
    | true => exact (baCand_ok hp.1 hp.2.1 h).2.2
    | false => rw [show baParse l = zeroB from baCand_no h]; exact ⟨by decide, by decide⟩
  · obtain ⟨h1, h2, h3⟩ := baCand_ok hp.1 hp.2.1 h
    refine ⟨h2 (fun e => ?_), h1⟩
    subst e; rw [baParse_nil] at h; cases h
/-- as the code reads: three parts -/
def baCode (L : List (List UInt8)) (l : List UInt8) : Ba × Bool := if L.length = 3 ∧ L[1]? = some untilL then baCand (ntParse (L.getD 0 [])) (decParse (L.getD 2 []) 1099511627776) l else zeroB
theorem baParse_other {l : List UInt8} (h : ¬ ((splitL 32 l).length = 3 ∧ (splitL 32 l)[1]? = some untilL)) : baParse l = zeroB := by
  obtain ⟨h1, h2, h3⟩ := baParse_ok l
  cases hb : (baParse l).2 with
  | false => exact h3 hb
  | true =>
    obtain ⟨h4, h5⟩ := h2 hb
    have := baText_split _ h1 h4
    rw [h5] at this
    exact absurd (by rw [this]; exact ⟨rfl, rfl⟩) h
theorem baParse_three {l x y : List UInt8} (h : splitL 32 l = [x, untilL, y]) : baParse l = baCand (ntParse x) (decParse y 1099511627776) l := by
  have hl := joinL_split 32 l
  rw [h] at hl
  simp only [joinL_cons, joinL_one] at hl
  have hx : (32 : UInt8) ∉ x := splitL_parts 32 l x (by rw [h]; simp)
  have ha : atB 32 l = x.length := by rw [← hl, atB_app _ hx]
  unfold baParse
  rw [ha]
  have hd : l.drop (x.length + 7) = y := by
    rw [← hl, show x ++ 32 :: (untilL ++ 32 :: y) = (x ++ 32 :: (untilL ++ [32])) ++ y from by simp,
      show x.length + 7 = (x ++ 32 :: (untilL ++ [32])).length from by simp [untilL], List.drop_left]
  have hk : l.take x.length = x := by rw [← hl, List.take_left]
  rw [hd, hk]
theorem baCode_eq (l : List UInt8) : baCode (splitL 32 l) l = baParse l := by
  unfold baCode
  split
  · rename_i h
    obtain ⟨h1, h2⟩ := h
    obtain ⟨x, u, y, hs⟩ : ∃ x u y, splitL 32 l = [x, u, y] := by
      match hL : splitL 32 l, h1 with
      | [x, u, y], _ => exact ⟨x, u, y, rfl⟩
    rw [hs] at h2 ⊢
    simp at h2
    subst h2
    rw [baParse_three hs]; rfl
  · rename_i h; exact (baParse_other h).symm
theorem baText_len (b : Ba) (hf : b.nt.ad.fits) : (baText b).length ≤ 3000 := by
  cases h : baRight b with
  | false => rw [baText_bad b h]; simp
  | true =>
    obtain ⟨h1, h2, h3⟩ := (baRight_iff b).1 h
    have h5 := decText_len b.till (by omega) (by omega)
    have h6 : (ntText b.nt).length ≤ 2000 := by
      unfold ntText; rw [if_pos h1]
      obtain ⟨_, r2, r3, _⟩ := (ntRight_iff b.nt).1 h1
      have := adBits_nn b.nt.ad
      have h4 := adText_len b.nt.ad hf
      have h5 := decText_len b.nt.bits (by omega) (by omega)
      simp; omega
    rw [baText_good b h]; simp [untilL]; omega
end Go.Proofs.Ytnohkfbapibmdaa
/- Operations: plain. No condition. -/
namespace Go.Proofs.Ytnohkfbapibmdaa
open Go.RowKit

/-- an entry of the book -/
structure Ey where
  en : En
  state : Int
  fails : Int
  next : Int
deriving DecidableEq
/-- an operation; its slices are values, told by lists -/
structure Oq where
  kind : Int
  lock : Int
  lk : Int
  ls : Int
  lt : Int
  old : Int
  new : Int
  vn : Int
  pe : Pe
  bans : Go.Value × List Ba
  book : Go.Value × List Ey
  mark : Bool
def zeroPe : Pe := ⟨zeroEn, false, 0, 0, 0, 0, 0⟩
def noBans : Go.Value × List Ba := (.slice none 0 0, [])
def noBook : Go.Value × List Ey := (.slice none 0 0, [])
def zeroOq : Oq := ⟨0, 0, 0, 0, 0, 0, 0, 0, zeroPe, noBans, noBook, false⟩
def plOk (k s t n : Int) : Bool := decide (1 ≤ n ∧ n ≤ 8 ∧ 1 ≤ k ∧ k ≤ 6 ∧ (k < 5 ∨ 0 ≤ s ∧ s < n) ∧ (k < 6 ∨ 0 ≤ t))
def opRight (o : Oq) (n : Int) : Bool :=
  decide (1 ≤ n ∧ n ≤ 8) && (
    if o.kind = 1 ∨ o.kind = 3 then decide (0 ≤ o.lock ∧ o.lock ≤ n + 1)
    else if o.kind = 2 ∨ o.kind = 4 then decide (o.lock = 0)
    else if o.kind = 5 then plOk o.lk o.ls o.lt n
    else if o.kind = 6 then plOk o.lk o.ls o.lt n && decide (2 < o.lk)
    else if o.kind = 7 then decide (o.lk = 1 ∨ o.lk = 2)
    else decide (o.kind = 8))
def inL (k : Int) : Bool := decide (1 ≤ k ∧ k ≤ 6)
def cK (k : Int) : Int := if 1 ≤ k ∧ k ≤ 6 then k else 0
def cS (k s : Int) : Int := if k = 5 ∨ k = 6 then s else 0
def cT (k t : Int) : Int := if k = 6 then t else 0
def cN (k n : Int) : Int := if k = 1 ∨ k = 2 ∨ k = 5 then n else 0
def cP (k : Int) (p : Pe) : Pe := if k = 6 then p else zeroPe
def cB {α : Type} (k : Int) (z b : α) : α := if k = 3 then b else z
def cY {α : Type} (k : Int) (z b : α) : α := if k = 4 then b else z
def opClean (o : Oq) : Oq :=
  if o.kind < 1 ∨ 8 < o.kind then zeroOq
  else if o.kind < 5 then ⟨o.kind, o.lock, 0, 0, 0, 0, 0, 0, zeroPe, noBans, noBook, o.mark⟩
  else if o.kind = 5 then ⟨o.kind, 0, cK o.lk, cS o.lk o.ls, cT o.lk o.lt, 0, 0, 0, zeroPe, noBans, noBook, o.mark⟩
  else if o.kind = 6 then ⟨o.kind, 0, cK o.lk, cS o.lk o.ls, cT o.lk o.lt, 0, 0, cN o.lk o.vn, cP o.lk o.pe, cB o.lk noBans o.bans, cY o.lk noBook o.book, o.mark⟩
  else if o.kind = 7 then ⟨o.kind, 0, cK o.lk, cS o.lk o.ls, cT o.lk o.lt, o.old, o.new, 0, zeroPe, noBans, noBook, o.mark⟩
  else ⟨o.kind, 0, 0, 0, 0, 0, 0, 0, zeroPe, noBans, noBook, o.mark⟩
def locW (k s t : Int) : List (List UInt8) := nameAt locN k :: ((if k = 5 ∨ k = 6 then [decText s] else []) ++ (if k = 6 then [decText t] else []))
def storedW (k n : Int) (e : En) (nb ny : Nat) : List (List UInt8) := if k = 5 then [decText n] else if k = 6 then [enText e] else if k = 3 then [decText nb] else if k = 4 then [decText ny] else []
def markW (m : Bool) : List (List UInt8) := if m = true then [[42]] else []
def opArgs (o : Oq) : List (List UInt8) :=
  if o.kind < 5 then [decText o.lock]
  else if o.kind = 5 then locW o.lk o.ls o.lt
  else if o.kind = 6 then locW o.lk o.ls o.lt ++ storedW o.lk o.vn o.pe.en o.bans.2.length o.book.2.length
  else if o.kind = 7 then locW o.lk o.ls o.lt ++ [decText o.old, decText o.new]
  else []
def opText (o : Oq) : List UInt8 := if o.kind < 1 ∨ 8 < o.kind then [] else joinL 32 (nameAt opN o.kind :: (opArgs o ++ markW o.mark))
theorem nameAt_cK (k : Int) : nameAt locN (cK k) = nameAt locN k := by
  unfold cK
  split
  · rfl
  · rename_i h
    have hl : ((locN.length : Nat) : Int) = 7 := rfl
    rcases Int.lt_or_le k 0 with h1 | h1
    · rw [nameAt_lo h1]; rfl
    · rcases Int.lt_or_le k 1 with h2 | h2
      · rw [show k = 0 from by omega]
      · rw [nameAt_hi (L := locN) (n := k) (by omega)]; rfl
theorem cK_lt {k j : Int} (h0 : 0 < j) (h1 : j ≤ 6) : cK k = j ↔ k = j := by unfold cK; split <;> omega
theorem locW_clean (k s t : Int) : locW (cK k) (cS k s) (cT k t) = locW k s t := by
  unfold locW
  rw [nameAt_cK]
  by_cases h5 : k = 5
  · subst h5; rfl
  · by_cases h6 : k = 6
    · subst h6; rfl
    · rw [if_neg (by rw [cK_lt (by omega) (by omega), cK_lt (by omega) (by omega)]; omega), if_neg (by rw [cK_lt (by omega) (by omega)]; omega), if_neg (by omega), if_neg (by omega)]
theorem storedW_clean (k n : Int) (p : Pe) (b : Go.Value × List Ba) (y : Go.Value × List Ey) :
    storedW (cK k) (cN k n) (cP k p).en (cB k noBans b).2.length (cY k noBook y).2.length = storedW k n p.en b.2.length y.2.length := by
  unfold storedW
  by_cases h5 : k = 5
  · subst h5; rfl
  · by_cases h6 : k = 6
    · subst h6; rfl
    · by_cases h3 : k = 3
      · subst h3; rfl
      · by_cases h4 : k = 4
        · subst h4; rfl
        · simp only [cK_lt (k := k) (j := 5) (by omega) (by omega), cK_lt (k := k) (j := 6) (by omega) (by omega), cK_lt (k := k) (j := 3) (by omega) (by omega), cK_lt (k := k) (j := 4) (by omega) (by omega), h5, h6, h3, h4, if_false]
theorem opText_clean (o : Oq) : opText (opClean o) = opText o := by
  unfold opClean
  split
  · rename_i h; unfold opText; rw [if_pos (by left; show (0 : Int) < 1; omega), if_pos h]
  · rename_i h
    split
    · rename_i h1; unfold opText opArgs; simp only [h, h1, if_false, if_true]
    · rename_i h1
      split
      · rename_i h2; unfold opText opArgs; simp [h, h1, h2, if_false, if_true, locW_clean]
      · rename_i h2
        split
        · rename_i h3; unfold opText opArgs; simp [h, h1, h2, h3, if_false, if_true, locW_clean, storedW_clean]
        · rename_i h3
          split
          · rename_i h4; unfold opText opArgs; simp [h, h1, h2, h3, h4, if_false, if_true, locW_clean]
          · rename_i h4; unfold opText opArgs; simp [h, h1, h2, h3, h4, if_false]
theorem plOk_clean (k s t n : Int) : plOk (cK k) (cS k s) (cT k t) n = plOk k s t n := by
  unfold plOk
  rw [decide_eq_decide]
  unfold cK cS cT
  by_cases h : 1 ≤ k ∧ k ≤ 6
  · rw [if_pos h]
    by_cases h5 : k = 5 ∨ k = 6
    · rw [if_pos h5]; by_cases h6 : k = 6
      · rw [if_pos h6]
      · rw [if_neg h6]; omega
    · rw [if_neg h5, if_neg (by omega)]; omega
  · rw [if_neg h]; omega
theorem opRight_clean (o : Oq) (n : Int) : opRight (opClean o) n = opRight o n := by
  unfold opClean
  split
  · rename_i h; unfold opRight zeroOq; simp only
    rw [if_neg (by omega), if_neg (by omega), if_neg (by omega), if_neg (by omega), if_neg (by omega), if_neg (by omega), if_neg (by omega), if_neg (by omega), if_neg (by omega), if_neg (by omega), decide_eq_false (by omega : ¬ (0 : Int) = 8), decide_eq_false (by omega : ¬ o.kind = 8)]
  · rename_i h
    split
    · unfold opRight; simp only
      split
      · rfl
      · split
        · rfl
        · rw [if_neg (by omega), if_neg (by omega), if_neg (by omega), if_neg (by omega), if_neg (by omega), if_neg (by omega)]
    · rename_i h1
      have a1 : ¬ (o.kind = 1 ∨ o.kind = 3) := by omega
      have a2 : ¬ (o.kind = 2 ∨ o.kind = 4) := by omega
      have k2 : decide (2 < cK o.lk) = decide (2 < o.lk ∧ o.lk ≤ 6) := by rw [decide_eq_decide]; unfold cK; split <;> omega
      split
      · rename_i h2; unfold opRight; simp [a1, a2, h2, if_false, if_true, plOk_clean]
      · rename_i h2
        split
        · rename_i h3; unfold opRight; simp [a1, a2, h2, h3, if_false, if_true, plOk_clean]
          congr 1
          cases hp : plOk o.lk o.ls o.lt n with
          | false => rfl
          | true =>
            have := of_decide_eq_true hp
            rw [k2]; congr 1; rw [decide_eq_decide]; omega
        · rename_i h3
          split
          · rename_i h4; unfold opRight; simp [a1, a2, h2, h3, h4, if_false, if_true, cK_lt (k := o.lk) (j := 1) (by omega) (by omega), cK_lt (k := o.lk) (j := 2) (by omega) (by omega)]
          · rename_i h4; unfold opRight; simp [a1, a2, h2, h3, h4, if_false]
theorem cK_idem (k : Int) : cK (cK k) = cK k := by
  unfold cK
  split <;> rfl
theorem opClean_idem (o : Oq) : opClean (opClean o) = opClean o := by
  have e5 : ∀ k, (cK k = 5 ↔ k = 5) := fun k => cK_lt (by omega) (by omega)
  have e6 : ∀ k, (cK k = 6 ↔ k = 6) := fun k => cK_lt (by omega) (by omega)
  have e3 : ∀ k, (cK k = 3 ↔ k = 3) := fun k => cK_lt (by omega) (by omega)
  have e4 : ∀ k, (cK k = 4 ↔ k = 4) := fun k => cK_lt (by omega) (by omega)
  have e1 : ∀ k, (cK k = 1 ↔ k = 1) := fun k => cK_lt (by omega) (by omega)
  have e2 : ∀ k, (cK k = 2 ↔ k = 2) := fun k => cK_lt (by omega) (by omega)
  have s1 : ∀ k s, cS (cK k) (cS k s) = cS k s := fun k s => by unfold cS; simp only [e5, e6]; split <;> rfl
  have t1 : ∀ k s, cT (cK k) (cT k s) = cT k s := fun k s => by unfold cT; simp only [e6]; split <;> rfl
  have n1 : ∀ k s, cN (cK k) (cN k s) = cN k s := fun k s => by unfold cN; simp only [e1, e2, e5]; split <;> rfl
  have p1 : ∀ k s, cP (cK k) (cP k s) = cP k s := fun k s => by unfold cP; simp only [e6]; split <;> rfl
  have b1 : ∀ {α : Type} k (z s : α), cB (cK k) z (cB k z s) = cB k z s := fun k z s => by unfold cB; simp only [e3]; split <;> rfl
  have y1 : ∀ {α : Type} k (z s : α), cY (cK k) z (cY k z s) = cY k z s := fun k z s => by unfold cY; simp only [e4]; split <;> rfl
  rcases Classical.em (o.kind < 1 ∨ 8 < o.kind) with h | h
  · have e : opClean o = zeroOq := by unfold opClean; rw [if_pos h]
    rw [e]; rfl
  rcases Classical.em (o.kind < 5) with h1 | h1
  · have e : opClean o = ⟨o.kind, o.lock, 0, 0, 0, 0, 0, 0, zeroPe, noBans, noBook, o.mark⟩ := by unfold opClean; rw [if_neg h, if_pos h1]
    rw [e]; unfold opClean; simp only; rw [if_neg h, if_pos h1]
  rcases Classical.em (o.kind = 5) with h2 | h2
  · have e : opClean o = ⟨o.kind, 0, cK o.lk, cS o.lk o.ls, cT o.lk o.lt, 0, 0, 0, zeroPe, noBans, noBook, o.mark⟩ := by unfold opClean; rw [if_neg h, if_neg h1, if_pos h2]
    rw [e]; unfold opClean; simp only; rw [if_neg h, if_neg h1, if_pos h2, cK_idem, s1, t1]
  rcases Classical.em (o.kind = 6) with h3 | h3
  · have e : opClean o = ⟨o.kind, 0, cK o.lk, cS o.lk o.ls, cT o.lk o.lt, 0, 0, cN o.lk o.vn, cP o.lk o.pe, cB o.lk noBans o.bans, cY o.lk noBook o.book, o.mark⟩ := by unfold opClean; rw [if_neg h, if_neg h1, if_neg h2, if_pos h3]
    rw [e]; unfold opClean; simp only; rw [if_neg h, if_neg h1, if_neg h2, if_pos h3, cK_idem, s1, t1, n1, p1, b1, y1]
  rcases Classical.em (o.kind = 7) with h4 | h4
  · have e : opClean o = ⟨o.kind, 0, cK o.lk, cS o.lk o.ls, cT o.lk o.lt, o.old, o.new, 0, zeroPe, noBans, noBook, o.mark⟩ := by unfold opClean; rw [if_neg h, if_neg h1, if_neg h2, if_neg h3, if_pos h4]
    rw [e]; unfold opClean; simp only; rw [if_neg h, if_neg h1, if_neg h2, if_neg h3, if_pos h4, cK_idem, s1, t1]
  · have e : opClean o = ⟨o.kind, 0, 0, 0, 0, 0, 0, 0, zeroPe, noBans, noBook, o.mark⟩ := by unfold opClean; rw [if_neg h, if_neg h1, if_neg h2, if_neg h3, if_neg h4]
    rw [e]; unfold opClean; simp only; rw [if_neg h, if_neg h1, if_neg h2, if_neg h3, if_neg h4]
theorem opText_tail (o : Oq) (h : ¬ (o.kind < 1 ∨ 8 < o.kind)) : opText o = nameAt opN o.kind ++ tailL (opArgs o) ++ tailL (markW o.mark) := by
  unfold opText; rw [if_neg h, joinL_tail, tailL_app, List.append_assoc]
end Go.Proofs.Ytnohkfbapibmdaa
/- Operations: how long their texts are. No condition. -/
namespace Go.Proofs.Ytnohkfbapibmdaa
open Go.RowKit

theorem nameOp_len (c : Int) : (nameAt opN c).length ≤ 10 := by
  unfold nameAt
  split
  · rename_i h
    have hl : (opN.length : Int) = 9 := rfl
    have : ∀ i : Fin 9, (opN.getD i.val []).length ≤ 10 := by decide
    exact this ⟨c.toNat, by omega⟩
  · simp
theorem nameLoc_len (c : Int) : (nameAt locN c).length ≤ 10 := by
  unfold nameAt
  split
  · rename_i h
    have hl : (locN.length : Int) = 7 := rfl
    have : ∀ i : Fin 7, (locN.getD i.val []).length ≤ 10 := by decide
    exact this ⟨c.toNat, by omega⟩
  · simp
/-- short texts, and not many -/
def Few (n : Nat) (l : List (List UInt8)) : Prop := l.length ≤ n ∧ ∀ x ∈ l, x.length ≤ 2000
theorem Few.nil : Few 0 [] := ⟨by simp, fun x h => by simp at h⟩
theorem Few.app {n m : Nat} {l k : List (List UInt8)} (h : Few n l) (g : Few m k) : Few (n + m) (l ++ k) := ⟨by have := h.1; have := g.1; simp; omega, fun x hx => by
  rcases List.mem_append.1 hx with h' | h'
  · exact h.2 x h'
  · exact g.2 x h'⟩
theorem Few.cons {m : Nat} {x : List UInt8} {k : List (List UInt8)} (h : x.length ≤ 2000) (g : Few m k) : Few (m + 1) (x :: k) := ⟨by have := g.1; simp; omega, fun y hy => by
  rcases List.mem_cons.1 hy with rfl | h'
  · exact h
  · exact g.2 y h'⟩
theorem Few.le {n m : Nat} {l : List (List UInt8)} (h : Few n l) (hm : n ≤ m) : Few m l := ⟨Nat.le_trans h.1 hm, h.2⟩
theorem Few.join {n : Nat} {l : List (List UInt8)} (h : Few n l) : (joinL 32 l).length ≤ n * 2001 := joinL_len 32 l n 2000 h.2 h.1
theorem few42 : Few 1 [[42]] := Few.cons (by simp) Few.nil
theorem locW_few (k s t : Int) (hs : i64 s) (ht : i64 t) : Few 3 (locW k s t) := by
  unfold locW
  refine Few.cons (Nat.le_trans (nameLoc_len k) (by omega)) (Few.app (n := 1) (m := 1) ?_ ?_)
  · split
    · exact Few.cons (Nat.le_trans (decText_len s hs.1 hs.2) (by omega)) Few.nil
    · exact Few.nil.le (by omega)
  · split
    · exact Few.cons (Nat.le_trans (decText_len t ht.1 ht.2) (by omega)) Few.nil
    · exact Few.nil.le (by omega)
theorem storedW_few (k n : Int) (e : En) (nb ny : Nat) (hn : i64 n) (he : e.ad.fits) (hb : nb ≤ 1000000) (hy : ny ≤ 1000000) : Few 1 (storedW k n e nb ny) := by
  unfold storedW
  split
  · exact Few.cons (Nat.le_trans (decText_len n hn.1 hn.2) (by omega)) Few.nil
  · split
    · exact Few.cons (enText_len e he) Few.nil
    · split
      · exact Few.cons (Nat.le_trans (decText_len _ (by omega) (by omega)) (by omega)) Few.nil
      · split
        · exact Few.cons (Nat.le_trans (decText_len _ (by omega) (by omega)) (by omega)) Few.nil
        · exact Few.nil.le (by omega)
theorem markW_few (m : Bool) : Few 1 (markW m) := by
  unfold markW
  split
  · exact Few.cons (by simp) Few.nil
  · exact Few.nil.le (by omega)
end Go.Proofs.Ytnohkfbapibmdaa
