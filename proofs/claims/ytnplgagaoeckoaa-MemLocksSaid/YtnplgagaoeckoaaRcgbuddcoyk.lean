/- Texts put together: AcV. No condition. -/
import Derived.Test.YtnplgagaoeckoaaRscjrgfasbn
namespace Go.Proofs.Ytnplgagaoeckoaa
open Go.RowKit Go.Lib

structure Ac where
  who : Int
  op : Oq
def acV (a : Ac) : List Value := .int .i64 a.who :: [.int .i64 a.op.kind, .int .i64 a.op.lock, .int .i64 a.op.lk, .int .i64 a.op.ls, .int .i64 a.op.lt, .int .i64 a.op.old, .int .i64 a.op.new, .int .i64 a.op.vn, .bool a.op.pe.en.ad.v6, .int .u64 a.op.pe.en.ad.hi, .int .u64 a.op.pe.en.ad.lo, .int .i64 a.op.pe.en.port, .bool a.op.pe.came, .int .i64 a.op.pe.since, .int .i64 a.op.pe.pts, .int .i64 a.op.pe.at_, .int .i64 a.op.pe.ping, .int .i64 a.op.pe.work, a.op.bans.1, a.op.book.1, .bool a.op.mark]
theorem acV_len (a : Ac) : (acV a).length = 22 := rfl
def ReadsAc (w : World) (v : Value) (l : List Ac) : Prop := ReadsL acV 22 w v l ∧ ∀ a ∈ l, OqAt w a.op
theorem ReadsAc.below {w w' : World} {v : Value} {l : List Ac} (h : ReadsAc w v l) (hb : Below w.heap.size w w') : ReadsAc w' v l := ⟨ReadsL.below h.1 hb, fun a ha => (h.2 a ha).below hb⟩
/-- an act's cells -/
def AcIn (w : World) (b o : Nat) (a : Ac) : Prop := ∀ (j : Nat) (u : Value), (acV a)[j]? = some u → w.cell? ⟨b, o + j, none⟩ = some u
theorem AcIn.below {w w' : World} {b o : Nat} {a : Ac} (h : AcIn w b o a) (hb : Below w.heap.size w w') (hlt : b < w.heap.size) : AcIn w' b o a := fun j u hj => keep hb hlt (h j u hj)
theorem acs_open {w : World} {v : Value} {l : List Ac} (h : ReadsAc w v l) : l.length ≤ 9223372036854775807 ∧ ∃ (a : Option Addr) (c : Nat), v = .slice a l.length c ∧ (0 < l.length → ∃ b o, a = some ⟨b, o, none⟩ ∧ l.length ≤ c ∧ b < w.heap.size ∧
      ∀ (i : Nat) (p : Ac), l[i]? = some p → AcIn w b (o + i * 22) p) := by
  obtain ⟨h1, a, c, h2, h3⟩ := h.1.open acV_len (by omega)
  refine ⟨h1, a, c, h2, fun hp => ?_⟩
  obtain ⟨b, o, h4, h5, h6, h7⟩ := h3 hp
  exact ⟨b, o, h4, h5, h6, fun i x hi j u hj => by have := h7 i x hi j u hj; rwa [← Nat.add_assoc] at this⟩
def acOk (a : Ac) : Bool := decide (a.op.bans.2.length ≤ 20) && decide (a.op.book.2.length ≤ 20)
def acLight (l : List Ac) : Bool := (l.take 60).all acOk && decide (l.length ≤ 60)
theorem acLight_of {l : List Ac} (h : acLight l = true) : l.length ≤ 60 ∧ ∀ a ∈ l, a.op.bans.2.length ≤ 20 ∧ a.op.book.2.length ≤ 20 := by
  unfold acLight at h
  rw [Bool.and_eq_true] at h
  have hl := of_decide_eq_true h.2
  refine ⟨hl, fun a ha => ?_⟩
  rw [List.take_of_length_le hl, List.all_eq_true] at h
  have := h.1 a ha
  unfold acOk at this
  rw [Bool.and_eq_true] at this
  exact ⟨of_decide_eq_true this.1, of_decide_eq_true this.2⟩
theorem acLight_bad {l : List Ac} {k : Nat} {a : Ac} (hk : k < 60) (ha : l[k]? = some a) (h : acOk a = false) : acLight l = false := by
  unfold acLight
  rw [Bool.and_eq_false_iff]; left
  rw [List.all_eq_false]
  exact ⟨a, List.mem_of_getElem? (i := k) (by rw [List.getElem?_take_of_lt hk]; exact ha), by rw [h]; simp⟩
theorem acLight_long {l : List Ac} (h : 60 < l.length) : acLight l = false := by
  unfold acLight
  rw [decide_eq_false (by omega), Bool.and_false]
theorem acLight_end {l : List Ac} (h : l.length ≤ 60) (ha : ∀ i a, i < l.length → l[i]? = some a → acOk a = true) : acLight l = true := by
  unfold acLight
  rw [decide_eq_true h, Bool.and_true, List.all_eq_true]
  intro a hm
  obtain ⟨i, hi⟩ := List.mem_iff_getElem?.1 (List.mem_of_mem_take hm)
  exact ha i a (List.getElem?_eq_some_iff.1 hi).1 hi
set_option maxRecDepth 100000 in
set_option maxHeartbeats 8000000 in
theorem light37_any (v : Value) (l : List Ac) (w : World) (h : ReadsAc w v l) :
    Calls Try.prog 4 #[v] w fun e w' => e = .returned (.bool (acLight l)) ∧ Below w.heap.size w w' := by
  obtain ⟨hm, a0, c, rfl, h3⟩ := acs_open h
  have HR := Lib.hid h.2
  clear h
  go_enter Try.func4, Try.ntmps4
  go_wp2_with fail
  go_loopw [3] (fun i' wr => ∃ k : Nat, k ≤ l.length ∧ k ≤ 60 ∧ i' = .int .i64 k ∧ Hid (∀ i a, i < k → l[i]? = some a → acOk a = true) ∧ Hid (Below w.heap.size w wr)) (fun i' _ => l.length - (intOf i').toNat)
  case atStart => exact ⟨0, by omega, by omega, rfl, fun i s hi => absurd hi (Nat.not_lt_zero _), Below.refl _ _⟩
  case round =>
    obtain ⟨k, hk, hk10, rfl, HL, HB⟩ := hrel
    have q1 : (0 : Int) ≤ (k : Int) := by omega
    by_cases hlt : k < l.length
    · have q2 : (k : Int) < (l.length : Int) := by omega
      by_cases h10 : k < 60
      · have q3 : (k : Int) < 60 := by omega
        have q3d : decide ((k : Int) < 60) = true := decide_eq_true q3
        have q3e : decide (k < 60) = true := decide_eq_true h10
        obtain ⟨x, hx⟩ : ∃ x, l[k]? = some x := ⟨_, List.getElem?_eq_getElem hlt⟩
        obtain ⟨b, o, rfl, h4, h5, h6⟩ := h3 (by omega)
        have hc := h6 k _ hx
        have hr := HR.out _ (List.mem_of_getElem? hx)
        obtain ⟨hm1, p1, d1, e1, -⟩ := ba_open hr.1
        obtain ⟨hm2, p2, d2, e2, -⟩ := ey_open hr.2
        have s1 := keep HB.out h5 (hc 19 _ rfl); have s2 := keep HB.out h5 (hc 20 _ rfl)
        rw [e1] at s1; rw [e2] at s2
        obtain ⟨nb, hnb⟩ : ∃ n, n = x.op.bans.2.length := ⟨_, rfl⟩
        obtain ⟨nk, hnk⟩ : ∃ n, n = x.op.book.2.length := ⟨_, rfl⟩
        rw [← hnb] at s1 hm1; rw [← hnk] at s2 hm2
        have HX := Lib.hid hx; have HNB := Lib.hid hnb; have HNK := Lib.hid hnk
        clear hx h6 hc hr h3 e1 e2 hnb hnk
        rcases Nat.lt_or_ge 20 nb with hb | hb
        · have q4 : (20 : Int) < (nb : Int) := by omega
          have q4d : decide ((20 : Int) < (nb : Int)) = true := decide_eq_true q4
          have q4e : decide (20 < nb) = true := decide_eq_true hb
          have HF : Hid (acLight l = false) := acLight_bad h10 HX.out (by unfold acOk; rw [← HNB.out, decide_eq_false (by omega), Bool.false_and])
          go_wp2_with fail
          go_ret
          exact ⟨by rw [HF.out]; rfl, HB.out⟩
        · have q4 : ¬ (20 : Int) < (nb : Int) := by omega
          have q4d : decide ((20 : Int) < (nb : Int)) = false := decide_eq_false q4
          have q4e : decide (20 < nb) = false := decide_eq_false (by omega)
          rcases Nat.lt_or_ge 20 nk with hc | hc
          · have q5 : (20 : Int) < (nk : Int) := by omega
            have q5d : decide ((20 : Int) < (nk : Int)) = true := decide_eq_true q5
            have q5e : decide (20 < nk) = true := decide_eq_true hc
            have HF : Hid (acLight l = false) := acLight_bad h10 HX.out (by unfold acOk; rw [← HNK.out, decide_eq_false (show ¬ nk ≤ 20 by omega), Bool.and_false])
            go_wp2_with fail
            go_ret
            exact ⟨by rw [HF.out]; rfl, HB.out⟩
          · have q5 : ¬ (20 : Int) < (nk : Int) := by omega
            have q5d : decide ((20 : Int) < (nk : Int)) = false := decide_eq_false q5
            have q5e : decide (20 < nk) = false := decide_eq_false (by omega)
            go_wp2_with fail
            go_roundw
            case rel =>
              refine ⟨k + 1, by omega, by omega, by go_num, fun i s hi hs => ?_, HB.out⟩
              rcases Nat.lt_or_ge i k with e | e
              · exact HL.out i s e hs
              · rw [show i = k by omega, HX.out] at hs
                injection hs with hs
                subst hs
                unfold acOk; rw [← HNB.out, ← HNK.out, decide_eq_true hb, decide_eq_true hc]; rfl
            case measure => simp [intOf]; omega
      · have q3 : ¬ (k : Int) < 60 := by omega
        have q3d : decide ((k : Int) < 60) = false := decide_eq_false q3
        have q3e : decide (k < 60) = false := decide_eq_false h10
        have q6 : ¬ (l.length : Int) ≤ 60 := by omega
        have q7 : ¬ l.length ≤ 60 := by omega
        have HF : Hid (acLight l = false) := acLight_long (by omega)
        clear h3
        go_wp2_with fail
        go_ret
        first | exact ⟨by rw [HF.out]; rfl, HB.out⟩ | exact ⟨by rw [HF.out]; simp, HB.out⟩
    · obtain rfl : k = l.length := by omega
      have q6 : (l.length : Int) ≤ 60 := by omega
      have HF : Hid (acLight l = true) := acLight_end hk10 HL.out
      clear h3
      go_wp2_with fail
      go_ret
      first | exact ⟨by rw [HF.out]; rfl, HB.out⟩ | exact ⟨by rw [HF.out]; simp, HB.out⟩
end Go.Proofs.Ytnplgagaoeckoaa
