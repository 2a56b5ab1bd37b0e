/- Texts put together: NetR. No condition. -/
import Derived.Test.YtnohkfbapibmdaaGreatRqyyanyntzr
namespace Go.Proofs.YtnohkfbapibmdaaGreat
open Go.RowKit
set_option linter.unusedSimpArgs false
set_option linter.unusedVariables false

theorem drop_atB (c : UInt8) (s : ByteArray) (m : Nat) (h : m < s.size) : m + atB c (s.data.toList.drop m) = if s[m] = c then m else m + 1 + atB c (s.data.toList.drop (m + 1)) := by
  rw [drop_cons s m h]
  conv => lhs; unfold atB
  split
  · rfl
  · omega
set_option maxRecDepth 100000 in
set_option maxHeartbeats 8000000 in
theorem refNtParse_any (s : ByteArray) (w : World) (hs : s.size ≤ 4000000000) : Calls Tryz.prog 22 #[.string s] w (GivesNt w (ntParse s.data.toList)) := by
  obtain ⟨l, hl⟩ : ∃ l, s.data.toList = l := ⟨_, rfl⟩
  have hlen : l.length = s.size := by rw [← hl]; exact len_data s
  obtain ⟨k, hk⟩ : ∃ k, atB 47 l = k := ⟨_, rfl⟩
  have hle : k ≤ s.size := by rw [← hk, ← hlen]; exact atB_le 47 l
  have e1 : s.extract 0 k = bs (l.take k) := by rw [← hl]; exact extract_take s k
  have e2 : s.extract (k + 1) s.size = bs (l.drop (k + 1)) := by rw [← hl]; exact extract_drop s (k + 1)
  have hstep : ∀ m (h : m < s.size), m + atB 47 (l.drop m) = if s[m] = 47 then m else m + 1 + atB 47 (l.drop (m + 1)) := by rw [← hl]; exact drop_atB 47 s
  have hend : atB 47 (l.drop s.size) = 0 := by rw [← hlen, List.drop_length]; rfl
  unfold GivesNt ntParse
  rw [hl, hk]
  have ht : (l.take k).length ≤ 4000000000 := by rw [List.length_take]; omega
  have hd : (l.drop (k + 1)).length ≤ 4000000000 := by rw [List.length_drop]; omega
  have hP := fun w => refAdParse_any (bs (l.take k)) w (by rw [bs_size]; omega)
  have hD := fun w => refParse_any (bs (l.drop (k + 1))) 128 w (by rw [bs_size]; omega) (by omega) (by omega)
  have hS := fun w => ref6Parse_any (bs (l.take k)) w (by rw [bs_size]; omega)
  rw [bs_data] at hP hD hS
  unfold GivesAd at hP
  have hpf := adParse_fits (l.take k)
  have hslt := v6parse_lt (l.take k)
  have hqb := dec_bd (l := l.drop (k + 1))
  have hfull : decide (k = l.length) = decide ((k : Int) = s.size) := by rw [hlen]; simp only [Int.ofNat_inj]
  rw [hfull]
  clear hfull
  generalize adParse (l.take k) = p at *
  generalize decParse (l.drop (k + 1)) 128 = q at *
  generalize v6parse (l.take k) = v at *
  generalize l.take k = la at *
  generalize l.drop (k + 1) = lb at *
  obtain ⟨a, ok⟩ := p
  obtain ⟨n, ok2⟩ := q
  obtain ⟨hi, lo, ok3⟩ := v
  simp only at hpf hslt hqb hP hD hS
  obtain ⟨rr, hrr⟩ : ∃ rr, ntPart (a, ok) (decide ((k : Int) = s.size)) (n, ok2) (hi, lo, ok3) = rr := ⟨_, rfl⟩
  rw [hrr]
  have HP := Lib.hid hP; have HD := Lib.hid hD; have HS := Lib.hid hS; have HK := Lib.hid hk; have HST := Lib.hid hstep; have HEND := Lib.hid hend; have HRR := Lib.hid hrr
  clear hrr hP hD hS hk hstep hend ht hd
  go_enter Tryz.func22, Tryz.ntmps22
  go_wp2_with fail
  go_loop [4, 5] (fun x y => ∃ m : Nat, y = .int .i64 ((m : Int) - 1) ∧ m ≤ s.size ∧ x = .int .i64 ((m + atB 47 (l.drop m) : Nat) : Int)) (fun _ y => (intOf y + 1).toNat)
  case atStart => exact ⟨s.size, rfl, Nat.le_refl _, by rw [HEND.out]; rfl⟩
  case round =>
    obtain ⟨m, rfl, hm, rfl⟩ := hrel
    cases m with
    | succ m =>
      have hst := HST.out m (by omega)
      rw [show ((m + 1 : Nat) : Int) - 1 = m from by omega]
      obtain ⟨at0, ha0⟩ : ∃ at0 : Nat, m + 1 + atB 47 (l.drop (m + 1)) = at0 := ⟨_, rfl⟩
      rw [ha0] at hst ⊢
      by_cases c1 : s[m] = 47
      · have q1 : ((s[m].toNat : Int) == 47) = true := by rw [c1]; rfl
        rw [if_pos c1] at hst
        have HS2 := Lib.hid hst; clear hst c1
        go_wp2_with fail
        go_round
        case rel => exact ⟨m, rfl, by omega, by rw [HS2.out]⟩
        case measure => simp [intOf]
      · have q1 : ((s[m].toNat : Int) == 47) = false := by rw [show (47 : Int) = ((47 : UInt8).toNat : Int) from rfl, byte_beq]; simpa using c1
        rw [if_neg c1] at hst
        have HS2 := Lib.hid hst; clear hst c1
        go_wp2_with fail
        go_round
        case rel => exact ⟨m, rfl, by omega, by rw [HS2.out]⟩
        case measure => simp [intOf]
    | zero =>
      rw [List.drop_zero, HK.out, Nat.zero_add, show ((0 : Nat) : Int) - 1 = -1 from rfl]
      have hM := fun n w => refAdMake_any a hpf n w
      have hF := fun w => refNtFull_any a hpf w
      unfold GivesNt at hM
      have HF := Lib.hid hF; clear hF
      have hrr := HRR.out; clear HRR
      unfold ntPart at hrr
      simp only at hrr
      cases ok with
      | false =>
        rw [if_pos rfl] at hrr
        unfold zeroN at hrr
        subst hrr
        go_wp2_with (first | (go_at_call 23; (with_reducible refine (HP.out _).mono ?_); rintro e w2 ⟨rfl, b2⟩; obtain ⟨c2, f2⟩ := bcell b2; have z2 := b2.size; (try simp at z2); have l2a : w.heap.size < w2.heap.size := (by omega); have n2a := Nat.ne_of_lt l2a; have d2a := fun o => c2 (w.heap.size) o (by first | omega | (simp; done) | (simp; omega)); have q2a := fun o => f2 (w.heap.size) o (by first | omega | (simp; done) | (simp; omega)); clear c2 f2) | (go_at_call 47; (with_reducible refine (HF.out _).mono ?_); rintro e w3 ⟨rfl, b3⟩; obtain ⟨c3, f3⟩ := bcell b3; have z3 := b3.size; (try simp at z3); have l3a : w.heap.size < w3.heap.size := (by omega); have n3a := Nat.ne_of_lt l3a; have d3a := fun o => c3 (w.heap.size) o (by first | omega | (simp; done) | (simp; omega)); have q3a := fun o => f3 (w.heap.size) o (by first | omega | (simp; done) | (simp; omega)); clear c3 f3) | (go_at_call 20; (with_reducible refine (HD.out _).mono ?_); rintro e w4 ⟨rfl, b4⟩; obtain ⟨c4, f4⟩ := bcell b4; have z4 := b4.size; (try simp at z4); have l4a : w.heap.size < w4.heap.size := (by omega); have n4a := Nat.ne_of_lt l4a; have d4a := fun o => c4 (w.heap.size) o (by first | omega | (simp; done) | (simp; omega)); have q4a := fun o => f4 (w.heap.size) o (by first | omega | (simp; done) | (simp; omega)); (try have d4b := fun o => c4 (w2.heap.size) o (by first | omega | (simp; done) | (simp; omega))); clear c4 f4) | (go_at_call 45; (with_reducible refine (HS.out _).mono ?_); rintro e w5 ⟨rfl, b5⟩; obtain ⟨c5, f5⟩ := bcell b5; have z5 := b5.size; (try simp at z5); have l5a : w.heap.size < w5.heap.size := (by omega); have n5a := Nat.ne_of_lt l5a; have d5a := fun o => c5 (w.heap.size) o (by first | omega | (simp; done) | (simp; omega)); have q5a := fun o => f5 (w.heap.size) o (by first | omega | (simp; done) | (simp; omega)); (try have d5b := fun o => c5 (w2.heap.size) o (by first | omega | (simp; done) | (simp; omega))); clear c5 f5) | (go_at_call 48; (with_reducible refine (HX.out _).mono ?_); rintro e w6 ⟨rfl, rfl⟩) | (go_at_call 49; (with_reducible refine (HM.out _).mono ?_); rintro e w7 ⟨rfl, b7⟩; obtain ⟨c7, f7⟩ := bcell b7; have z7 := b7.size; (try simp at z7); have l7a : w.heap.size < w7.heap.size := (by omega); have n7a := Nat.ne_of_lt l7a; have d7a := fun o => c7 (w.heap.size) o (by first | omega | (simp; done) | (simp; omega)); have q7a := fun o => f7 (w.heap.size) o (by first | omega | (simp; done) | (simp; omega)); clear c7 f7))
        refine bodyPost_ret (v := .tuple #[.agg #[.bool false, .int .u64 0, .int .u64 0, .int .i64 0], .bool false]) (by simp [results, Tryz.results22, go_sem, *]) rfl ⟨rfl, ?_⟩
        (repeat (first | assumption | exact Below.refl _ _ | refine Below.setCell ?_ (by first | omega | (simp; done) | (simp; omega)) _ | refine Below.alloc ?_ (by first | omega | (simp; done) | (simp; omega)) _ | refine Below.drew ?_ | (refine Below.trans ?_ (Below.mono (by assumption) (by first | omega | (simp; done) | (simp; omega))))))
      | true =>
      rw [if_neg (by simp)] at hrr
      by_cases hfull : (k : Int) = s.size
      · rw [if_pos (decide_eq_true hfull)] at hrr
        have hq : ((k : Int) == s.size) = true := by rw [beq_iff_eq]; exact hfull
        clear hfull
        generalize ntFull a = g at *
        subst hrr
        go_wp2_with (first | (go_at_call 23; (with_reducible refine (HP.out _).mono ?_); rintro e w2 ⟨rfl, b2⟩; obtain ⟨c2, f2⟩ := bcell b2; have z2 := b2.size; (try simp at z2); have l2a : w.heap.size < w2.heap.size := (by omega); have n2a := Nat.ne_of_lt l2a; have d2a := fun o => c2 (w.heap.size) o (by first | omega | (simp; done) | (simp; omega)); have q2a := fun o => f2 (w.heap.size) o (by first | omega | (simp; done) | (simp; omega)); clear c2 f2) | (go_at_call 47; (with_reducible refine (HF.out _).mono ?_); rintro e w3 ⟨rfl, b3⟩; obtain ⟨c3, f3⟩ := bcell b3; have z3 := b3.size; (try simp at z3); have l3a : w.heap.size < w3.heap.size := (by omega); have n3a := Nat.ne_of_lt l3a; have d3a := fun o => c3 (w.heap.size) o (by first | omega | (simp; done) | (simp; omega)); have q3a := fun o => f3 (w.heap.size) o (by first | omega | (simp; done) | (simp; omega)); clear c3 f3) | (go_at_call 20; (with_reducible refine (HD.out _).mono ?_); rintro e w4 ⟨rfl, b4⟩; obtain ⟨c4, f4⟩ := bcell b4; have z4 := b4.size; (try simp at z4); have l4a : w.heap.size < w4.heap.size := (by omega); have n4a := Nat.ne_of_lt l4a; have d4a := fun o => c4 (w.heap.size) o (by first | omega | (simp; done) | (simp; omega)); have q4a := fun o => f4 (w.heap.size) o (by first | omega | (simp; done) | (simp; omega)); (try have d4b := fun o => c4 (w2.heap.size) o (by first | omega | (simp; done) | (simp; omega))); clear c4 f4) | (go_at_call 45; (with_reducible refine (HS.out _).mono ?_); rintro e w5 ⟨rfl, b5⟩; obtain ⟨c5, f5⟩ := bcell b5; have z5 := b5.size; (try simp at z5); have l5a : w.heap.size < w5.heap.size := (by omega); have n5a := Nat.ne_of_lt l5a; have d5a := fun o => c5 (w.heap.size) o (by first | omega | (simp; done) | (simp; omega)); have q5a := fun o => f5 (w.heap.size) o (by first | omega | (simp; done) | (simp; omega)); (try have d5b := fun o => c5 (w2.heap.size) o (by first | omega | (simp; done) | (simp; omega))); clear c5 f5) | (go_at_call 48; (with_reducible refine (HX.out _).mono ?_); rintro e w6 ⟨rfl, rfl⟩) | (go_at_call 49; (with_reducible refine (HM.out _).mono ?_); rintro e w7 ⟨rfl, b7⟩; obtain ⟨c7, f7⟩ := bcell b7; have z7 := b7.size; (try simp at z7); have l7a : w.heap.size < w7.heap.size := (by omega); have n7a := Nat.ne_of_lt l7a; have d7a := fun o => c7 (w.heap.size) o (by first | omega | (simp; done) | (simp; omega)); have q7a := fun o => f7 (w.heap.size) o (by first | omega | (simp; done) | (simp; omega)); clear c7 f7))
        refine bodyPost_ret (v := .tuple #[.agg #[.bool g.ad.v6, .int .u64 g.ad.hi, .int .u64 g.ad.lo, .int .i64 g.bits], .bool true]) (by simp [results, Tryz.results22, go_sem, *]) rfl ⟨rfl, ?_⟩
        (repeat (first | assumption | exact Below.refl _ _ | refine Below.setCell ?_ (by first | omega | (simp; done) | (simp; omega)) _ | refine Below.alloc ?_ (by first | omega | (simp; done) | (simp; omega)) _ | refine Below.drew ?_ | (refine Below.trans ?_ (Below.mono (by assumption) (by first | omega | (simp; done) | (simp; omega))))))
      have hq : ((k : Int) == s.size) = false := by rw [beq_eq_false_iff_ne]; exact hfull
      rw [if_neg (by rw [decide_eq_false hfull]; simp)] at hrr
      have hkl : (k : Int) + 1 ≤ s.size := by omega
      clear hfull
      cases ok2 with
      | false =>
        rw [if_pos rfl] at hrr
        unfold zeroN at hrr
        subst hrr
        go_wp2_with (first | (go_at_call 23; (with_reducible refine (HP.out _).mono ?_); rintro e w2 ⟨rfl, b2⟩; obtain ⟨c2, f2⟩ := bcell b2; have z2 := b2.size; (try simp at z2); have l2a : w.heap.size < w2.heap.size := (by omega); have n2a := Nat.ne_of_lt l2a; have d2a := fun o => c2 (w.heap.size) o (by first | omega | (simp; done) | (simp; omega)); have q2a := fun o => f2 (w.heap.size) o (by first | omega | (simp; done) | (simp; omega)); clear c2 f2) | (go_at_call 47; (with_reducible refine (HF.out _).mono ?_); rintro e w3 ⟨rfl, b3⟩; obtain ⟨c3, f3⟩ := bcell b3; have z3 := b3.size; (try simp at z3); have l3a : w.heap.size < w3.heap.size := (by omega); have n3a := Nat.ne_of_lt l3a; have d3a := fun o => c3 (w.heap.size) o (by first | omega | (simp; done) | (simp; omega)); have q3a := fun o => f3 (w.heap.size) o (by first | omega | (simp; done) | (simp; omega)); clear c3 f3) | (go_at_call 20; (with_reducible refine (HD.out _).mono ?_); rintro e w4 ⟨rfl, b4⟩; obtain ⟨c4, f4⟩ := bcell b4; have z4 := b4.size; (try simp at z4); have l4a : w.heap.size < w4.heap.size := (by omega); have n4a := Nat.ne_of_lt l4a; have d4a := fun o => c4 (w.heap.size) o (by first | omega | (simp; done) | (simp; omega)); have q4a := fun o => f4 (w.heap.size) o (by first | omega | (simp; done) | (simp; omega)); (try have d4b := fun o => c4 (w2.heap.size) o (by first | omega | (simp; done) | (simp; omega))); clear c4 f4) | (go_at_call 45; (with_reducible refine (HS.out _).mono ?_); rintro e w5 ⟨rfl, b5⟩; obtain ⟨c5, f5⟩ := bcell b5; have z5 := b5.size; (try simp at z5); have l5a : w.heap.size < w5.heap.size := (by omega); have n5a := Nat.ne_of_lt l5a; have d5a := fun o => c5 (w.heap.size) o (by first | omega | (simp; done) | (simp; omega)); have q5a := fun o => f5 (w.heap.size) o (by first | omega | (simp; done) | (simp; omega)); (try have d5b := fun o => c5 (w2.heap.size) o (by first | omega | (simp; done) | (simp; omega))); clear c5 f5) | (go_at_call 48; (with_reducible refine (HX.out _).mono ?_); rintro e w6 ⟨rfl, rfl⟩) | (go_at_call 49; (with_reducible refine (HM.out _).mono ?_); rintro e w7 ⟨rfl, b7⟩; obtain ⟨c7, f7⟩ := bcell b7; have z7 := b7.size; (try simp at z7); have l7a : w.heap.size < w7.heap.size := (by omega); have n7a := Nat.ne_of_lt l7a; have d7a := fun o => c7 (w.heap.size) o (by first | omega | (simp; done) | (simp; omega)); have q7a := fun o => f7 (w.heap.size) o (by first | omega | (simp; done) | (simp; omega)); clear c7 f7))
        refine bodyPost_ret (v := .tuple #[.agg #[.bool false, .int .u64 0, .int .u64 0, .int .i64 0], .bool false]) (by simp [results, Tryz.results22, go_sem, *]) rfl ⟨rfl, ?_⟩
        (repeat (first | assumption | exact Below.refl _ _ | refine Below.setCell ?_ (by first | omega | (simp; done) | (simp; omega)) _ | refine Below.alloc ?_ (by first | omega | (simp; done) | (simp; omega)) _ | refine Below.drew ?_ | (refine Below.trans ?_ (Below.mono (by assumption) (by first | omega | (simp; done) | (simp; omega))))))
      | true =>
      rw [if_neg (by simp)] at hrr
      obtain ⟨q0, q1⟩ := hqb rfl
      cases ok3 with
      | false =>
        rw [if_neg (by simp)] at hrr
        have HM := Lib.hid (hM n); clear hM
        generalize adMake a n = r at *
        subst hrr
        go_wp2_with (first | (go_at_call 23; (with_reducible refine (HP.out _).mono ?_); rintro e w2 ⟨rfl, b2⟩; obtain ⟨c2, f2⟩ := bcell b2; have z2 := b2.size; (try simp at z2); have l2a : w.heap.size < w2.heap.size := (by omega); have n2a := Nat.ne_of_lt l2a; have d2a := fun o => c2 (w.heap.size) o (by first | omega | (simp; done) | (simp; omega)); have q2a := fun o => f2 (w.heap.size) o (by first | omega | (simp; done) | (simp; omega)); clear c2 f2) | (go_at_call 47; (with_reducible refine (HF.out _).mono ?_); rintro e w3 ⟨rfl, b3⟩; obtain ⟨c3, f3⟩ := bcell b3; have z3 := b3.size; (try simp at z3); have l3a : w.heap.size < w3.heap.size := (by omega); have n3a := Nat.ne_of_lt l3a; have d3a := fun o => c3 (w.heap.size) o (by first | omega | (simp; done) | (simp; omega)); have q3a := fun o => f3 (w.heap.size) o (by first | omega | (simp; done) | (simp; omega)); clear c3 f3) | (go_at_call 20; (with_reducible refine (HD.out _).mono ?_); rintro e w4 ⟨rfl, b4⟩; obtain ⟨c4, f4⟩ := bcell b4; have z4 := b4.size; (try simp at z4); have l4a : w.heap.size < w4.heap.size := (by omega); have n4a := Nat.ne_of_lt l4a; have d4a := fun o => c4 (w.heap.size) o (by first | omega | (simp; done) | (simp; omega)); have q4a := fun o => f4 (w.heap.size) o (by first | omega | (simp; done) | (simp; omega)); (try have d4b := fun o => c4 (w2.heap.size) o (by first | omega | (simp; done) | (simp; omega))); clear c4 f4) | (go_at_call 45; (with_reducible refine (HS.out _).mono ?_); rintro e w5 ⟨rfl, b5⟩; obtain ⟨c5, f5⟩ := bcell b5; have z5 := b5.size; (try simp at z5); have l5a : w.heap.size < w5.heap.size := (by omega); have n5a := Nat.ne_of_lt l5a; have d5a := fun o => c5 (w.heap.size) o (by first | omega | (simp; done) | (simp; omega)); have q5a := fun o => f5 (w.heap.size) o (by first | omega | (simp; done) | (simp; omega)); (try have d5b := fun o => c5 (w2.heap.size) o (by first | omega | (simp; done) | (simp; omega))); clear c5 f5) | (go_at_call 48; (with_reducible refine (HX.out _).mono ?_); rintro e w6 ⟨rfl, rfl⟩) | (go_at_call 49; (with_reducible refine (HM.out _).mono ?_); rintro e w7 ⟨rfl, b7⟩; obtain ⟨c7, f7⟩ := bcell b7; have z7 := b7.size; (try simp at z7); have l7a : w.heap.size < w7.heap.size := (by omega); have n7a := Nat.ne_of_lt l7a; have d7a := fun o => c7 (w.heap.size) o (by first | omega | (simp; done) | (simp; omega)); have q7a := fun o => f7 (w.heap.size) o (by first | omega | (simp; done) | (simp; omega)); clear c7 f7))
        refine bodyPost_ret (v := .tuple #[.agg #[.bool r.1.ad.v6, .int .u64 r.1.ad.hi, .int .u64 r.1.ad.lo, .int .i64 r.1.bits], .bool r.2]) (by simp [results, Tryz.results22, go_sem, *]) rfl ⟨rfl, ?_⟩
        (repeat (first | assumption | exact Below.refl _ _ | refine Below.setCell ?_ (by first | omega | (simp; done) | (simp; omega)) _ | refine Below.alloc ?_ (by first | omega | (simp; done) | (simp; omega)) _ | refine Below.drew ?_ | (refine Below.trans ?_ (Below.mono (by assumption) (by first | omega | (simp; done) | (simp; omega))))))
      | true =>
      cases hv : a.v6 with
      | true =>
        rw [if_neg (by rw [hv]; simp)] at hrr
        have HM := Lib.hid (hM n); clear hM
        generalize adMake a n = r at *
        rw [hv] at HP HM HF
        subst hrr
        go_wp2_with (first | (go_at_call 23; (with_reducible refine (HP.out _).mono ?_); rintro e w2 ⟨rfl, b2⟩; obtain ⟨c2, f2⟩ := bcell b2; have z2 := b2.size; (try simp at z2); have l2a : w.heap.size < w2.heap.size := (by omega); have n2a := Nat.ne_of_lt l2a; have d2a := fun o => c2 (w.heap.size) o (by first | omega | (simp; done) | (simp; omega)); have q2a := fun o => f2 (w.heap.size) o (by first | omega | (simp; done) | (simp; omega)); clear c2 f2) | (go_at_call 47; (with_reducible refine (HF.out _).mono ?_); rintro e w3 ⟨rfl, b3⟩; obtain ⟨c3, f3⟩ := bcell b3; have z3 := b3.size; (try simp at z3); have l3a : w.heap.size < w3.heap.size := (by omega); have n3a := Nat.ne_of_lt l3a; have d3a := fun o => c3 (w.heap.size) o (by first | omega | (simp; done) | (simp; omega)); have q3a := fun o => f3 (w.heap.size) o (by first | omega | (simp; done) | (simp; omega)); clear c3 f3) | (go_at_call 20; (with_reducible refine (HD.out _).mono ?_); rintro e w4 ⟨rfl, b4⟩; obtain ⟨c4, f4⟩ := bcell b4; have z4 := b4.size; (try simp at z4); have l4a : w.heap.size < w4.heap.size := (by omega); have n4a := Nat.ne_of_lt l4a; have d4a := fun o => c4 (w.heap.size) o (by first | omega | (simp; done) | (simp; omega)); have q4a := fun o => f4 (w.heap.size) o (by first | omega | (simp; done) | (simp; omega)); (try have d4b := fun o => c4 (w2.heap.size) o (by first | omega | (simp; done) | (simp; omega))); clear c4 f4) | (go_at_call 45; (with_reducible refine (HS.out _).mono ?_); rintro e w5 ⟨rfl, b5⟩; obtain ⟨c5, f5⟩ := bcell b5; have z5 := b5.size; (try simp at z5); have l5a : w.heap.size < w5.heap.size := (by omega); have n5a := Nat.ne_of_lt l5a; have d5a := fun o => c5 (w.heap.size) o (by first | omega | (simp; done) | (simp; omega)); have q5a := fun o => f5 (w.heap.size) o (by first | omega | (simp; done) | (simp; omega)); (try have d5b := fun o => c5 (w2.heap.size) o (by first | omega | (simp; done) | (simp; omega))); clear c5 f5) | (go_at_call 48; (with_reducible refine (HX.out _).mono ?_); rintro e w6 ⟨rfl, rfl⟩) | (go_at_call 49; (with_reducible refine (HM.out _).mono ?_); rintro e w7 ⟨rfl, b7⟩; obtain ⟨c7, f7⟩ := bcell b7; have z7 := b7.size; (try simp at z7); have l7a : w.heap.size < w7.heap.size := (by omega); have n7a := Nat.ne_of_lt l7a; have d7a := fun o => c7 (w.heap.size) o (by first | omega | (simp; done) | (simp; omega)); have q7a := fun o => f7 (w.heap.size) o (by first | omega | (simp; done) | (simp; omega)); clear c7 f7))
        refine bodyPost_ret (v := .tuple #[.agg #[.bool r.1.ad.v6, .int .u64 r.1.ad.hi, .int .u64 r.1.ad.lo, .int .i64 r.1.bits], .bool r.2]) (by simp [results, Tryz.results22, go_sem, *]) rfl ⟨rfl, ?_⟩
        (repeat (first | assumption | exact Below.refl _ _ | refine Below.setCell ?_ (by first | omega | (simp; done) | (simp; omega)) _ | refine Below.alloc ?_ (by first | omega | (simp; done) | (simp; omega)) _ | refine Below.drew ?_ | (refine Below.trans ?_ (Below.mono (by assumption) (by first | omega | (simp; done) | (simp; omega))))))
      | false =>
      rw [if_pos ⟨rfl, hv⟩] at hrr
      rw [hv] at HP HF
      by_cases hn : n < 96
      · rw [if_pos hn] at hrr
        have hX := fun w => refCut_any hi lo n.toNat hslt.1 hslt.2 (by omega) w
        rw [show ((n.toNat : Nat) : Int) = n from by omega] at hX
        have HX := Lib.hid hX; clear hX hM
        generalize cutW 64 hi n.toNat = x at *
        generalize cutW 64 lo (n.toNat - 64) = y at *
        subst hrr
        go_wp2_with (first | (go_at_call 23; (with_reducible refine (HP.out _).mono ?_); rintro e w2 ⟨rfl, b2⟩; obtain ⟨c2, f2⟩ := bcell b2; have z2 := b2.size; (try simp at z2); have l2a : w.heap.size < w2.heap.size := (by omega); have n2a := Nat.ne_of_lt l2a; have d2a := fun o => c2 (w.heap.size) o (by first | omega | (simp; done) | (simp; omega)); have q2a := fun o => f2 (w.heap.size) o (by first | omega | (simp; done) | (simp; omega)); clear c2 f2) | (go_at_call 47; (with_reducible refine (HF.out _).mono ?_); rintro e w3 ⟨rfl, b3⟩; obtain ⟨c3, f3⟩ := bcell b3; have z3 := b3.size; (try simp at z3); have l3a : w.heap.size < w3.heap.size := (by omega); have n3a := Nat.ne_of_lt l3a; have d3a := fun o => c3 (w.heap.size) o (by first | omega | (simp; done) | (simp; omega)); have q3a := fun o => f3 (w.heap.size) o (by first | omega | (simp; done) | (simp; omega)); clear c3 f3) | (go_at_call 20; (with_reducible refine (HD.out _).mono ?_); rintro e w4 ⟨rfl, b4⟩; obtain ⟨c4, f4⟩ := bcell b4; have z4 := b4.size; (try simp at z4); have l4a : w.heap.size < w4.heap.size := (by omega); have n4a := Nat.ne_of_lt l4a; have d4a := fun o => c4 (w.heap.size) o (by first | omega | (simp; done) | (simp; omega)); have q4a := fun o => f4 (w.heap.size) o (by first | omega | (simp; done) | (simp; omega)); (try have d4b := fun o => c4 (w2.heap.size) o (by first | omega | (simp; done) | (simp; omega))); clear c4 f4) | (go_at_call 45; (with_reducible refine (HS.out _).mono ?_); rintro e w5 ⟨rfl, b5⟩; obtain ⟨c5, f5⟩ := bcell b5; have z5 := b5.size; (try simp at z5); have l5a : w.heap.size < w5.heap.size := (by omega); have n5a := Nat.ne_of_lt l5a; have d5a := fun o => c5 (w.heap.size) o (by first | omega | (simp; done) | (simp; omega)); have q5a := fun o => f5 (w.heap.size) o (by first | omega | (simp; done) | (simp; omega)); (try have d5b := fun o => c5 (w2.heap.size) o (by first | omega | (simp; done) | (simp; omega))); clear c5 f5) | (go_at_call 48; (with_reducible refine (HX.out _).mono ?_); rintro e w6 ⟨rfl, rfl⟩) | (go_at_call 49; (with_reducible refine (HM.out _).mono ?_); rintro e w7 ⟨rfl, b7⟩; obtain ⟨c7, f7⟩ := bcell b7; have z7 := b7.size; (try simp at z7); have l7a : w.heap.size < w7.heap.size := (by omega); have n7a := Nat.ne_of_lt l7a; have d7a := fun o => c7 (w.heap.size) o (by first | omega | (simp; done) | (simp; omega)); have q7a := fun o => f7 (w.heap.size) o (by first | omega | (simp; done) | (simp; omega)); clear c7 f7))
        refine bodyPost_ret (v := .tuple #[.agg #[.bool true, .int .u64 x, .int .u64 y, .int .i64 n], .bool true]) (by simp [results, Tryz.results22, go_sem, *]) rfl ⟨rfl, ?_⟩
        (repeat (first | assumption | exact Below.refl _ _ | refine Below.setCell ?_ (by first | omega | (simp; done) | (simp; omega)) _ | refine Below.alloc ?_ (by first | omega | (simp; done) | (simp; omega)) _ | refine Below.drew ?_ | (refine Below.trans ?_ (Below.mono (by assumption) (by first | omega | (simp; done) | (simp; omega))))))
      · rw [if_neg hn] at hrr
        have hM2 := hM (n - 96)
        rw [hv] at hM2
        have HM := Lib.hid hM2; clear hM hM2
        generalize adMake a (n - 96) = r at *
        subst hrr
        go_wp2_with (first | (go_at_call 23; (with_reducible refine (HP.out _).mono ?_); rintro e w2 ⟨rfl, b2⟩; obtain ⟨c2, f2⟩ := bcell b2; have z2 := b2.size; (try simp at z2); have l2a : w.heap.size < w2.heap.size := (by omega); have n2a := Nat.ne_of_lt l2a; have d2a := fun o => c2 (w.heap.size) o (by first | omega | (simp; done) | (simp; omega)); have q2a := fun o => f2 (w.heap.size) o (by first | omega | (simp; done) | (simp; omega)); clear c2 f2) | (go_at_call 47; (with_reducible refine (HF.out _).mono ?_); rintro e w3 ⟨rfl, b3⟩; obtain ⟨c3, f3⟩ := bcell b3; have z3 := b3.size; (try simp at z3); have l3a : w.heap.size < w3.heap.size := (by omega); have n3a := Nat.ne_of_lt l3a; have d3a := fun o => c3 (w.heap.size) o (by first | omega | (simp; done) | (simp; omega)); have q3a := fun o => f3 (w.heap.size) o (by first | omega | (simp; done) | (simp; omega)); clear c3 f3) | (go_at_call 20; (with_reducible refine (HD.out _).mono ?_); rintro e w4 ⟨rfl, b4⟩; obtain ⟨c4, f4⟩ := bcell b4; have z4 := b4.size; (try simp at z4); have l4a : w.heap.size < w4.heap.size := (by omega); have n4a := Nat.ne_of_lt l4a; have d4a := fun o => c4 (w.heap.size) o (by first | omega | (simp; done) | (simp; omega)); have q4a := fun o => f4 (w.heap.size) o (by first | omega | (simp; done) | (simp; omega)); (try have d4b := fun o => c4 (w2.heap.size) o (by first | omega | (simp; done) | (simp; omega))); clear c4 f4) | (go_at_call 45; (with_reducible refine (HS.out _).mono ?_); rintro e w5 ⟨rfl, b5⟩; obtain ⟨c5, f5⟩ := bcell b5; have z5 := b5.size; (try simp at z5); have l5a : w.heap.size < w5.heap.size := (by omega); have n5a := Nat.ne_of_lt l5a; have d5a := fun o => c5 (w.heap.size) o (by first | omega | (simp; done) | (simp; omega)); have q5a := fun o => f5 (w.heap.size) o (by first | omega | (simp; done) | (simp; omega)); (try have d5b := fun o => c5 (w2.heap.size) o (by first | omega | (simp; done) | (simp; omega))); clear c5 f5) | (go_at_call 48; (with_reducible refine (HX.out _).mono ?_); rintro e w6 ⟨rfl, rfl⟩) | (go_at_call 49; (with_reducible refine (HM.out _).mono ?_); rintro e w7 ⟨rfl, b7⟩; obtain ⟨c7, f7⟩ := bcell b7; have z7 := b7.size; (try simp at z7); have l7a : w.heap.size < w7.heap.size := (by omega); have n7a := Nat.ne_of_lt l7a; have d7a := fun o => c7 (w.heap.size) o (by first | omega | (simp; done) | (simp; omega)); have q7a := fun o => f7 (w.heap.size) o (by first | omega | (simp; done) | (simp; omega)); clear c7 f7))
        refine bodyPost_ret (v := .tuple #[.agg #[.bool r.1.ad.v6, .int .u64 r.1.ad.hi, .int .u64 r.1.ad.lo, .int .i64 r.1.bits], .bool r.2]) (by simp [results, Tryz.results22, go_sem, *]) rfl ⟨rfl, ?_⟩
        (repeat (first | assumption | exact Below.refl _ _ | refine Below.setCell ?_ (by first | omega | (simp; done) | (simp; omega)) _ | refine Below.alloc ?_ (by first | omega | (simp; done) | (simp; omega)) _ | refine Below.drew ?_ | (refine Below.trans ?_ (Below.mono (by assumption) (by first | omega | (simp; done) | (simp; omega))))))
end Go.Proofs.YtnohkfbapibmdaaGreat
