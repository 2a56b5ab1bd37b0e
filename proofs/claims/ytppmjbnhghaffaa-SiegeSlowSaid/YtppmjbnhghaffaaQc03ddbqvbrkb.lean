/- Texts put together: PlEnd, PlPeer. No condition. -/
import Derived.Test.YtppmjbnhghaffaaPlNetP
import Derived.Lib.LastIndexByte
import Derived.Lib.Strings
import Derived.Test.YtppmjbnhghaffaaQ3d1c45ppqqkp
/- Ends: what is right, read, written. Plain. -/
namespace Go.Proofs.Ytppmjbnhghaffaa
open Go.RowKit

def lastO (c : UInt8) : List UInt8 → Option Nat
  | [] => none
  | x :: r => match lastO c r with | some i => some (i + 1) | none => if x = c then some 0 else none
theorem lastO_none {c : UInt8} {l : List UInt8} (h : lastO c l = none) : c ∉ l := by
  induction l with
  | nil => simp
  | cons x r ih =>
    unfold lastO at h
    cases hr : lastO c r with
    | some i => rw [hr] at h; cases h
    | none =>
      rw [hr] at h; simp only at h
      by_cases hx : x = c
      · rw [if_pos hx] at h; cases h
      · intro hm
        rcases List.mem_cons.1 hm with e | e
        · exact hx e.symm
        · exact ih hr e
theorem lastO_some {c : UInt8} {l : List UInt8} {i : Nat} (h : lastO c l = some i) : l[i]? = some c ∧ c ∉ l.drop (i + 1) ∧ i < l.length := by
  induction l generalizing i with
  | nil => cases h
  | cons x r ih =>
    unfold lastO at h
    cases hr : lastO c r with
    | some j =>
      rw [hr] at h; simp only [Option.some.injEq] at h; subst h
      obtain ⟨a, b, d⟩ := ih hr
      exact ⟨by simpa using a, by simpa using b, by simp; omega⟩
    | none =>
      rw [hr] at h; simp only at h
      by_cases hx : x = c
      · rw [if_pos hx] at h; injection h with h; subst h
        exact ⟨by simp [hx], by simpa using lastO_none hr, by simp⟩
      · rw [if_neg hx] at h; cases h
theorem lastO_free {c : UInt8} {l : List UInt8} (h : c ∉ l) : lastO c l = none := by
  cases hl : lastO c l with
  | none => rfl
  | some i => exact absurd (List.mem_of_getElem? (lastO_some hl).1) h
theorem lastO_at {c : UInt8} {l : List UInt8} {i : Nat} (h1 : l[i]? = some c) (h2 : c ∉ l.drop (i + 1)) : lastO c l = some i := by
  cases hl : lastO c l with
  | none => exact absurd (List.mem_of_getElem? h1) (lastO_none hl)
  | some j =>
    obtain ⟨a, b, d⟩ := lastO_some hl
    rcases Nat.lt_trichotomy i j with h | h | h
    · exact absurd (List.mem_of_getElem? (i := j - (i + 1)) (by rw [List.getElem?_drop, show i + 1 + (j - (i + 1)) = j from by omega]; exact a)) h2
    · rw [h]
    · exact absurd (List.mem_of_getElem? (i := i - (j + 1)) (by rw [List.getElem?_drop, show j + 1 + (i - (j + 1)) = i from by omega]; exact h1)) b
theorem lastO_app {c : UInt8} (x : List UInt8) {r : List UInt8} (h : c ∉ r) : lastO c (x ++ c :: r) = some x.length := by
  refine lastO_at (by simp) ?_
  rw [show x ++ c :: r = (x ++ [c]) ++ r from by simp, show x.length + 1 = (x ++ [c]).length from by simp, List.drop_left]; exact h
def lastI (c : UInt8) (l : List UInt8) : Int := match lastO c l with | none => -1 | some i => i
theorem lastIdx_eq (s : ByteArray) : Lib.lastIndexByte s 58 = lastI 58 s.data.toList := by
  have hget : ∀ j, j < s.size → s.data.toList[j]? = some (s.data[j]!) := fun j hj => by
    rw [get_data s j hj]; congr 1
    show s.data[j] = s.data[j]!
    rw [getElem!_pos s.data j hj]
  have h58 : ∀ b : UInt8, (b.toNat : Int) = 58 ↔ b = 58 := fun b => ⟨fun h => byte_eq (by rw [h]; rfl), fun h => by rw [h]; rfl⟩
  unfold Lib.lastIndexByte lastI
  rcases Lib.lastIdx_spec s 58 s.size with ⟨h1, h2⟩ | ⟨i, h1, h2, h3, h4⟩
  · rw [h1, lastO_free]
    intro hm
    obtain ⟨k, hk⟩ := List.mem_iff_getElem?.1 hm
    have hl := (List.getElem?_eq_some_iff.1 hk).1
    rw [len_data] at hl
    rw [hget k hl] at hk
    injection hk with hk
    exact h2 k hl ((h58 _).2 hk)
  · rw [h2, lastO_at (i := i)]
    · rw [hget i h1, (h58 _).1 h3]
    · intro hm
      obtain ⟨k, hk⟩ := List.mem_iff_getElem?.1 hm
      rw [List.getElem?_drop] at hk
      have hl := (List.getElem?_eq_some_iff.1 hk).1
      rw [len_data] at hl
      rw [hget _ hl] at hk
      injection hk with hk
      exact h4 _ (by omega) hl ((h58 _).2 hk)

/-! ### reading -/
def zeroE : En × Bool := (⟨⟨false, 0, 0⟩, 0⟩, false)
def innerL (h : List UInt8) : List UInt8 := (h.drop 1).take (h.length - 2)
def boxed (h : List UInt8) : Prop := 2 ≤ h.length ∧ h[0]? = some 91 ∧ h[h.length - 1]? = some 93
instance (h : List UInt8) : Decidable (boxed h) := by unfold boxed; infer_instance
/-- as the reference reads, at the last colon -/
def enPart (h : List UInt8) (q : Int × Bool) : En × Bool :=
  if q.2 = false ∨ q.1 < 1 then zeroE else if (v4parse h).2 = true then (⟨ad4 (v4parse h).1, q.1⟩, true)
  else if boxed h ∧ (v6parse (innerL h)).2.2 = true then (⟨adOf (v6parse (innerL h)).1 (v6parse (innerL h)).2.1, q.1⟩, true) else zeroE
def enParse (l : List UInt8) : En × Bool := match lastO 58 l with | none => zeroE | some i => enPart (l.take i) (decParse (l.drop (i + 1)) 65535)
def zeroA : Ad × Bool := (⟨false, 0, 0⟩, false)
/-- as the code reads the part ahead of the port -/
def hostP (h : List UInt8) : Ad × Bool := if h[0]? = some 91 then (if boxed h ∧ 58 ∈ innerL h then adParse (innerL h) else zeroA) else adParse h
def enCode (h : List UInt8) (q : Int × Bool) : En × Bool :=
  if h[0]? ≠ some 91 ∧ 58 ∈ h then zeroE else if (hostP h).2 = false ∨ q.2 = false ∨ q.1 = 0 then zeroE else (⟨(hostP h).1, q.1⟩, true)
theorem v4parse_no91 {l : List UInt8} (h : (v4parse l).2 = true) : (91 : UInt8) ∉ l := by
  have := (v4parse_true (l := l) (n := (v4parse l).1) (by rw [← h])).2
  intro hm; rw [this] at hm
  have hd : ∀ n : Nat, (91 : UInt8) ∉ digs n := fun n h => by have := digs_isDig n _ h; unfold isDig at this; simp at this
  unfold v4text v4parts at hm
  rw [joinL_cons, joinL_cons, joinL_cons, joinL_one] at hm
  simp [hd] at hm
theorem adParse_58 {l : List UInt8} (h : (58 : UInt8) ∈ l) : adParse l = if (v6parse l).2.2 = true then (adOf (v6parse l).1 (v6parse l).2.1, true) else zeroA := by
  unfold adParse zeroA
  rw [if_neg (fun h4 => v4parse_no58 h4 h)]
theorem adParse_no58 {l : List UInt8} (h : (58 : UInt8) ∉ l) : adParse l = if (v4parse l).2 = true then (ad4 (v4parse l).1, true) else zeroA := by
  unfold adParse zeroA
  by_cases h4 : (v4parse l).2 = true
  · rw [if_pos h4, if_pos h4]
  · rw [if_neg h4, if_neg h4, if_neg (fun h6 => h (v6parse_58 h6))]
theorem enCode_bad {h : List UInt8} (q : Int × Bool) (hp : hostP h = zeroA) : enCode h q = zeroE := by
  unfold enCode; rw [hp]
  split
  · rfl
  · exact if_pos (show zeroA.2 = false ∨ q.2 = false ∨ q.1 = 0 from Or.inl rfl)
theorem enCode_good {h : List UInt8} {q : Int × Bool} {a : Ad} (hq : 0 ≤ q.1) (hp : hostP h = (a, true)) (hc : ¬ (h[0]? ≠ some 91 ∧ 58 ∈ h)) : enCode h q = if q.2 = false ∨ q.1 < 1 then zeroE else (⟨a, q.1⟩, true) := by
  unfold enCode; rw [if_neg hc, hp]
  by_cases c : q.2 = false ∨ q.1 < 1
  · rw [if_pos c, if_pos]
    rcases c with c | c
    · exact Or.inr (Or.inl c)
    · exact Or.inr (Or.inr (by omega))
  · rw [if_neg c, if_neg]
    simp only
    rintro (d | d | d)
    · cases d
    · exact c (Or.inl d)
    · exact c (Or.inr (by omega))
theorem enPart_bad {h : List UInt8} (q : Int × Bool) (h4 : ¬ (v4parse h).2 = true) (h6 : ¬ (boxed h ∧ (v6parse (innerL h)).2.2 = true)) : enPart h q = zeroE := by
  unfold enPart
  rw [if_neg h4, if_neg h6]
  split <;> rfl
theorem en_eq (h : List UInt8) (q : Int × Bool) (hq : 0 ≤ q.1) : enPart h q = enCode h q := by
  by_cases hb : h[0]? = some 91
  · have h4 : ¬ (v4parse h).2 = true := fun c => v4parse_no91 c (List.mem_of_getElem? hb)
    by_cases hx : boxed h
    · by_cases h58 : (58 : UInt8) ∈ innerL h
      · have hp : hostP h = adParse (innerL h) := by unfold hostP; rw [if_pos hb, if_pos ⟨hx, h58⟩]
        rw [adParse_58 h58] at hp
        by_cases h6 : (v6parse (innerL h)).2.2 = true
        · rw [if_pos h6] at hp
          rw [enCode_good hq hp (fun c => c.1 hb)]
          unfold enPart
          rw [if_neg h4, if_pos (show boxed h ∧ (v6parse (innerL h)).2.2 = true from ⟨hx, h6⟩)]
        · rw [if_neg h6] at hp
          rw [enCode_bad q hp, enPart_bad q h4 (fun c => h6 c.2)]
      · have hp : hostP h = zeroA := by unfold hostP; rw [if_pos hb, if_neg (fun c => h58 c.2)]
        rw [enCode_bad q hp, enPart_bad q h4 (fun c => h58 (v6parse_58 c.2))]
    · have hp : hostP h = zeroA := by unfold hostP; rw [if_pos hb, if_neg (fun c => hx c.1)]
      rw [enCode_bad q hp, enPart_bad q h4 (fun c => hx c.1)]
  · have hx : ¬ boxed h := fun c => hb c.2.1
    by_cases h58 : (58 : UInt8) ∈ h
    · rw [enPart_bad q (fun c => v4parse_no58 c h58) (fun c => hx c.1)]
      unfold enCode; rw [if_pos ⟨hb, h58⟩]
    · have hp : hostP h = adParse h := by unfold hostP; rw [if_neg hb]
      rw [adParse_no58 h58] at hp
      by_cases h4 : (v4parse h).2 = true
      · rw [if_pos h4] at hp
        rw [enCode_good hq hp (fun c => h58 c.2)]
        unfold enPart
        rw [if_pos h4]
      · rw [if_neg h4] at hp
        rw [enCode_bad q hp, enPart_bad q h4 (fun c => hx c.1)]

/-! ### right, written -/
def enRight (e : En) : Bool := adRight e.ad && (decide (1 ≤ e.port) && decide (e.port ≤ 65535))
def enText (e : En) : List UInt8 := if enRight e = true then (if e.ad.v6 = true then 91 :: (adText e.ad ++ [93]) else adText e.ad) ++ 58 :: decText e.port else [45]
theorem enRight_iff (e : En) : enRight e = true ↔ adRight e.ad = true ∧ 1 ≤ e.port ∧ e.port ≤ 65535 := by unfold enRight; simp
theorem adOf_same (a : Ad) (h : adRight a = true) (hv : a.v6 = true) : adOf a.hi a.lo = a := by
  have := right6 a hv
  rw [h] at this; exact of_decide_eq_true this
theorem digs_no58' (n : Nat) : (58 : UInt8) ∉ digs n := digs_no58 n
theorem enParse_text (e : En) (hf : e.ad.fits) (h : enRight e = true) : enParse (enText e) = (e, true) := by
  obtain ⟨h1, h2, h3⟩ := (enRight_iff e).1 h
  have hd : decText e.port = digs e.port.toNat := by unfold decText; rw [if_neg (by omega)]; congr 1; omega
  have hq : decParse (digs e.port.toNat) 65535 = (e.port, true) := by
    rw [decParse_digs e.port.toNat 65535 (by omega) (by omega)]; congr 1; omega
  unfold enText
  rw [if_pos h, hd]
  unfold enParse
  rw [lastO_app _ (digs_no58 _)]
  simp only
  rw [List.take_left]
  have e2 : ∀ X : List UInt8, (X ++ 58 :: digs e.port.toNat).drop (X.length + 1) = digs e.port.toNat := fun X => by
    rw [show X ++ 58 :: digs e.port.toNat = (X ++ [58]) ++ digs e.port.toNat from by simp, show X.length + 1 = (X ++ [58]).length from by simp, List.drop_left]
  rw [e2, hq]
  unfold enPart
  rw [if_neg (by simp only; rintro (c | c); cases c; omega)]
  cases hv : e.ad.v6 with
  | true =>
    rw [if_pos rfl]
    have ht : adText e.ad = v6text e.ad.hi e.ad.lo := by unfold adText; rw [if_pos h1, if_pos hv]
    rw [if_neg (fun c => v4parse_no91 c (by simp))]
    have hin : innerL (91 :: (adText e.ad ++ [93])) = adText e.ad := by
      unfold innerL
      simp
    have hbx : boxed (91 :: (adText e.ad ++ [93])) := by
      refine ⟨by simp, by simp, ?_⟩
      simp
    rw [hin, ht, v6parse_text _ _ hf.1 hf.2, if_pos ⟨by rw [← ht]; exact hbx, rfl⟩]
    simp only
    rw [adOf_same e.ad h1 hv]
  | false =>
    rw [if_neg (show ¬ (false = true) from by simp)]
    have ht : adText e.ad = v4text e.ad.lo := by unfold adText; rw [if_pos h1, if_neg (by rw [hv]; simp)]
    have hr := h1
    unfold adRight at hr
    rw [if_neg (by rw [hv]; simp)] at hr
    obtain ⟨r1, r2⟩ := of_decide_eq_true hr
    rw [ht, v4parse_text _ r2, if_pos rfl]
    have : ad4 e.ad.lo = e.ad := Ad.ext' hv.symm r1.symm rfl
    simp only
    rw [this]
theorem enParse_dash : enParse [45] = zeroE := by decide +kernel
theorem enPart_ok (h : List UInt8) (q : Int × Bool) (hq : q.1 ≤ 65535) : (enPart h q).1.ad.fits ∧ ((enPart h q).2 = true → enRight (enPart h q).1 = true) ∧ ((enPart h q).2 = false → enPart h q = zeroE) := by
  have hz : zeroE.1.ad.fits ∧ (zeroE.2 = true → enRight zeroE.1 = true) ∧ (zeroE.2 = false → zeroE = zeroE) := ⟨⟨by decide, by decide⟩, fun h => (by cases h), fun _ => rfl⟩
  unfold enPart
  split
  · exact hz
  · rename_i hc
    split
    · rename_i h4
      have := adParse_lt4 h4
      refine ⟨⟨by simp [ad4], by simp only [ad4]; omega⟩, fun _ => ?_, fun h => (by cases h)⟩
      rw [enRight_iff]
      refine ⟨?_, by simp only; omega, by simp only; omega⟩
      unfold adRight ad4; rw [if_neg (by simp)]; exact decide_eq_true ⟨rfl, this⟩
    · split
      · have := v6parse_lt (innerL h)
        refine ⟨adOf_fits _ _ this.1 this.2, fun _ => ?_, fun h => (by cases h)⟩
        rw [enRight_iff]
        exact ⟨adOf_right _ _, by simp only; omega, by simp only; omega⟩
      · exact hz
theorem dec_le {l : List UInt8} {m : Int} (hm : 0 ≤ m) : 0 ≤ (decParse l m).1 ∧ (decParse l m).1 ≤ m := by
  cases h : (decParse l m).2 with
  | true =>
    obtain ⟨k, h1, _, h2, _⟩ := decParse_true (l := l) (most := m) (n := (decParse l m).1) (by rw [← h])
    omega
  | false => rw [decParse_false h]; exact ⟨by simp, hm⟩
theorem enParse_ok (l : List UInt8) : (enParse l).1.ad.fits ∧ ((enParse l).2 = true → enRight (enParse l).1 = true) ∧ ((enParse l).2 = false → enParse l = zeroE) := by
  unfold enParse
  cases lastO 58 l with
  | none => exact (⟨⟨by decide, by decide⟩, fun h => (by cases h), fun _ => rfl⟩ : zeroE.1.ad.fits ∧ (zeroE.2 = true → enRight zeroE.1 = true) ∧ (zeroE.2 = false → zeroE = zeroE))
  | some i => exact enPart_ok _ _ (dec_le (by omega)).2
theorem enText_inj (e f : En) (he : e.ad.fits) (hf : f.ad.fits) (h1 : enRight e = true) (h2 : enRight f = true) : e = f ↔ enText e = enText f := by
  constructor
  · intro h; rw [h]
  · intro h
    have a := enParse_text e he h1
    rw [h, enParse_text f hf h2] at a
    exact (congrArg Prod.fst a).symm
theorem enText_len (e : En) (hf : e.ad.fits) : (enText e).length ≤ 2000 := by
  unfold enText
  split
  · rename_i h
    obtain ⟨_, h2, h3⟩ := (enRight_iff e).1 h
    have h4 : (adText e.ad).length ≤ 1000 := adText_len e.ad hf
    have h5 := decText_len e.port (by omega) (by omega)
    split <;> simp <;> omega
  · simp
end Go.Proofs.Ytppmjbnhghaffaa
/- Peers: plain. No condition. -/
namespace Go.Proofs.Ytppmjbnhghaffaa
open Go.RowKit

structure Pe where
  en : En
  came : Bool
  since : Int
  pts : Int
  at_ : Int
  ping : Int
  work : Int
deriving DecidableEq
instance : Inhabited Pe := ⟨⟨⟨⟨false, 0, 0⟩, 0⟩, false, 0, 0, 0, 0, 0⟩⟩
def withinB (n most : Int) : Bool := decide (0 ≤ n) && decide (n ≤ most)
def peRight (p : Pe) : Bool := enRight p.en && (withinB p.since 1099511627776 && (withinB p.at_ 1099511627776 && (withinB p.work 1099511627776 && (withinB p.pts 1099511627776 && withinB p.ping 1048576))))
def peNew (e : En) (came : Bool) (now : Int) : Pe := ⟨e, came, fitI now, 0, fitI now, 0, 0⟩
def pePong (p : Pe) (ms : Int) : Pe := if 1 ≤ ms ∧ ms ≤ 1048576 ∧ (p.ping = 0 ∨ ms < p.ping) then { p with ping := ms } else p
def peWorked (p : Pe) (now : Int) : Pe := { p with work := max p.work (fitI now) }
def peBlamed (p : Pe) (points half now : Int) : Pe := { p with pts := addPts p.pts p.at_ half now points, at_ := decAt p.at_ half now }
def wayText (b : Bool) : List UInt8 := if b = true then [105, 110] else [111, 117, 116]
def pePartsOf (p : Pe) : List (List UInt8) := [wayText p.came, enText p.en, [115, 105, 110, 99, 101], decText p.since, [112, 111, 105, 110, 116, 115], decText (wholeI p.pts), [112, 105, 110, 103], decText p.ping, [119, 111, 114, 107], decText p.work]
def peText (p : Pe) : List UInt8 := joinL 32 (pePartsOf p)
def Pe.fits (p : Pe) : Prop := (p.en.ad.fits ∧ -9223372036854775808 ≤ p.en.port ∧ p.en.port ≤ 9223372036854775807) ∧ (-9223372036854775808 ≤ p.since ∧ p.since ≤ 9223372036854775807) ∧ (-9223372036854775808 ≤ p.pts ∧ p.pts ≤ 9223372036854775807) ∧ (-9223372036854775808 ≤ p.at_ ∧ p.at_ ≤ 9223372036854775807) ∧ (-9223372036854775808 ≤ p.ping ∧ p.ping ≤ 9223372036854775807) ∧ (-9223372036854775808 ≤ p.work ∧ p.work ≤ 9223372036854775807)
theorem Pe.ext' {a b : Pe} (h1 : a.en = b.en) (h2 : a.came = b.came) (h3 : a.since = b.since) (h4 : a.pts = b.pts) (h5 : a.at_ = b.at_) (h6 : a.ping = b.ping) (h7 : a.work = b.work) : a = b := by cases a; cases b; simp_all
theorem wholeI_in {p : Int} (h : p ≤ 9223372036854775807) : 0 ≤ wholeI p ∧ wholeI p ≤ 9223372036854775807 := by unfold wholeI; split <;> omega
theorem wayText_len (b : Bool) : (wayText b).length ≤ 3 := by cases b <;> decide
theorem peText_eq (p : Pe) : peText p = wayText p.came ++ 32 :: (enText p.en ++ 32 :: ([115, 105, 110, 99, 101] ++ 32 :: (decText p.since ++ 32 :: ([112, 111, 105, 110, 116, 115] ++ 32 :: (decText (wholeI p.pts) ++ 32 :: ([112, 105, 110, 103] ++ 32 :: (decText p.ping ++ 32 :: ([119, 111, 114, 107] ++ 32 :: decText p.work)))))))) := by
  unfold peText pePartsOf
  simp only [joinL_cons, joinL_one]
theorem peText_ref (p : Pe) : (if p.came = true then [105, 110, 32] else [111, 117, 116, 32]) ++ enText p.en ++ [32, 115, 105, 110, 99, 101, 32] ++ decText p.since ++ [32, 112, 111, 105, 110, 116, 115, 32] ++ decText (wholeI p.pts) ++ [32, 112, 105, 110, 103, 32] ++ decText p.ping ++ [32, 119, 111, 114, 107, 32] ++ decText p.work = peText p := by
  rw [peText_eq]; unfold wayText; cases p.came <;> simp
theorem peText_len (p : Pe) (hf : p.fits) : (peText p).length ≤ 3000 := by
  obtain ⟨h1, h2, h3, h4, h5, h6⟩ := hf
  have w := wholeI_in h3.2
  have a := enText_len p.en h1.1
  have b := decText_len p.since h2.1 h2.2
  have c := decText_len (wholeI p.pts) (by omega) w.2
  have d := decText_len p.ping h5.1 h5.2
  have e := decText_len p.work h6.1 h6.2
  have f := wayText_len p.came
  rw [peText_eq]; simp; omega
theorem peNew_fits (e : En) (hf : e.ad.fits ∧ -9223372036854775808 ≤ e.port ∧ e.port ≤ 9223372036854775807) (b : Bool) (n : Int) : (peNew e b n).fits := by
  have := fitI_in n
  unfold peNew Pe.fits; simp only; exact ⟨hf, by omega, by omega, by omega, by omega, by omega⟩
theorem pePong_fits (p : Pe) (hf : p.fits) (n : Int) : (pePong p n).fits := by
  unfold pePong; split
  · obtain ⟨h1, h2, h3, h4, h5, h6⟩ := hf
    unfold Pe.fits; simp only; exact ⟨h1, h2, h3, h4, by omega, h6⟩
  · exact hf
theorem peWorked_fits (p : Pe) (hf : p.fits) (n : Int) : (peWorked p n).fits := by
  obtain ⟨h1, h2, h3, h4, h5, h6⟩ := hf
  have := fitI_in n
  unfold peWorked Pe.fits; simp only; exact ⟨h1, h2, h3, h4, h5, by omega⟩
theorem peBlamed_fits (p : Pe) (hf : p.fits) (x y z : Int) : (peBlamed p x y z).fits := by
  obtain ⟨h1, h2, h3, h4, h5, h6⟩ := hf
  have a := addPts_in p.pts p.at_ y z x; have b := decAt_in p.at_ y z
  unfold peBlamed Pe.fits; simp only; exact ⟨h1, h2, by omega, by omega, h5, h6⟩
end Go.Proofs.Ytppmjbnhghaffaa
