/- Texts put together: NetP. No condition. -/
import Derived.Test.YtnohkfbapibmdaaGreatRddevppyjxn
import Derived.Test.YtnohkfbapibmdaaGreatRhhkwmvezer
namespace Go.Proofs.YtnohkfbapibmdaaGreat
open Go.RowKit
set_option linter.unusedSimpArgs false
set_option linter.unusedVariables false

theorem cutSlash (s : ByteArray) (w : World) (hs : s.size ≤ 4000000000) (hc : Cpu w) :
    Calls Tryz.prog 71 #[.string s, .string ⟨#[47]⟩] w fun e w' => e = .returned (.tuple #[.string (bs (s.data.toList.take (atB 47 s.data.toList))), .string (bs (s.data.toList.drop (atB 47 s.data.toList + 1))), .bool (decide (atB 47 s.data.toList ≠ s.data.toList.length))]) ∧ Below w.heap.size w w' := by
  obtain ⟨m, hm⟩ := hc
  refine (Tryz.strings_Cut s ⟨#[47]⟩ m w (by omega) hm).mono fun e w' ⟨h1, n, h2⟩ => ⟨?_, ?_⟩
  · rw [h1]
    have := cut_atB 47 s.data.toList
    rw [show (⟨#[47]⟩ : ByteArray).data.toList = [47] from rfl, this]; rfl
  · subst h2; exact ⟨rfl, rfl, rfl, Nat.le_refl _, fun _ _ => rfl⟩
def ntSix (hi lo : Nat) (n : Int) : Nt × Bool :=
  if (adOf hi lo).v6 = true then adMake (adOf hi lo) n else if n < 96 then (⟨⟨true, cutW 64 hi n.toNat, cutW 64 lo (n.toNat - 64)⟩, n⟩, true) else adMake (adOf hi lo) (n - 96)
set_option maxRecDepth 100000 in
set_option maxHeartbeats 4000000 in
theorem ntSix_any (hi lo : Nat) (n : Int) (h1 : hi < 18446744073709551616) (h2 : lo < 18446744073709551616) (h3 : 0 ≤ n) (h4 : n ≤ 128) (w : World) : Calls Tryz.prog 74 #[.int .u64 hi, .int .u64 lo, .int .i64 n] w (GivesNt w (ntSix hi lo n)) := by
  have hV := fun w => adV6_any hi lo h1 h2 w
  have hf := adOf_fits hi lo h1 h2
  have hcut := adOf_cut (hi := hi) (lo := lo)
  unfold GivesNt ntSix
  obtain ⟨o, ho⟩ : ∃ o, adOf hi lo = o := ⟨_, rfl⟩
  rw [ho] at hV hf hcut ⊢
  cases hv : o.v6 with
  | true =>
    rw [if_pos rfl]
    have hM := fun w => adMake_any o hf n w
    unfold GivesNt at hM
    rw [hv] at hM hV
    generalize adMake o n = r at *
    have HV := Lib.hid hV; have HM := Lib.hid hM; clear hV hM hcut
    go_enter Tryz.func74, Tryz.ntmps74
    go_wp2_with (first | (go_at_call 78; (with_reducible refine (HV.out _).mono ?_); rintro e w1 ⟨rfl, b1⟩; obtain ⟨c1, f1⟩ := bcell b1; have z1 := b1.size; (try simp at z1); have l1a : w.heap.size < w1.heap.size := (by omega); have n1a := Nat.ne_of_lt l1a; have d1a := fun o => c1 (w.heap.size) o (by first | omega | (simp; done) | (simp; omega)); have q1a := fun o => f1 (w.heap.size) o (by first | omega | (simp; done) | (simp; omega)); clear c1 f1) | (go_at_call 75; (with_reducible refine (HM.out _).mono ?_); rintro e w2 ⟨rfl, b2⟩; obtain ⟨c2, f2⟩ := bcell b2; have z2 := b2.size; (try simp at z2); have l2a : w.heap.size < w2.heap.size := (by omega); have n2a := Nat.ne_of_lt l2a; have d2a := fun o => c2 (w.heap.size) o (by first | omega | (simp; done) | (simp; omega)); have q2a := fun o => f2 (w.heap.size) o (by first | omega | (simp; done) | (simp; omega)); clear c2 f2))
    refine bodyPost_ret (v := .tuple #[.agg #[.bool r.1.ad.v6, .int .u64 r.1.ad.hi, .int .u64 r.1.ad.lo, .int .i64 r.1.bits], .bool r.2]) (by simp [results, Tryz.results74, go_sem, *]) rfl ⟨rfl, ?_⟩
    (repeat (first | assumption | exact Below.refl _ _ | refine Below.setCell ?_ (by first | omega | (simp; done) | (simp; omega)) _ | refine Below.alloc ?_ (by first | omega | (simp; done) | (simp; omega)) _ | refine Below.drew ?_ | (refine Below.trans ?_ (Below.mono (by assumption) (by first | omega | (simp; done) | (simp; omega))))))
  | false =>
    rw [if_neg (by simp)]
    by_cases hn : n < 96
    · rw [if_pos hn]
      have hcut := hcut hv n.toNat (by omega)
      have hM := fun w => masked_any hi lo n h1 h2 h3 h4 w
      have hV2 := fun w => adV6_any (cutW 64 hi n.toNat) (cutW 64 lo (n.toNat - 64)) (by have := cutW_le 64 hi n.toNat; omega) (by have := cutW_le 64 lo (n.toNat - 64); omega) w
      rw [hcut] at hV2
      rw [hv] at hV
      have hnd : decide (n < 96) = true := decide_eq_true hn
      have hnd2 : decide (96 ≤ n) = false := decide_eq_false (by omega)
      have HV := Lib.hid hV; have HM := Lib.hid hM; have HV2 := Lib.hid hV2; clear hV hM hV2 hcut
      generalize cutW 64 hi n.toNat = x at *
      generalize cutW 64 lo (n.toNat - 64) = y at *
      go_enter Tryz.func74, Tryz.ntmps74
      go_wp2_with (first | (go_at_call 78; (with_reducible refine (HV.out _).mono ?_); rintro e w1 ⟨rfl, b1⟩; obtain ⟨c1, f1⟩ := bcell b1; have z1 := b1.size; (try simp at z1); have l1a : w.heap.size < w1.heap.size := (by omega); have n1a := Nat.ne_of_lt l1a; have d1a := fun o => c1 (w.heap.size) o (by first | omega | (simp; done) | (simp; omega)); have q1a := fun o => f1 (w.heap.size) o (by first | omega | (simp; done) | (simp; omega)); clear c1 f1) | (go_at_call 78; (with_reducible refine (HV2.out _).mono ?_); rintro e w2 ⟨rfl, b2⟩; obtain ⟨c2, f2⟩ := bcell b2; have z2 := b2.size; (try simp at z2); have l2a : w.heap.size < w2.heap.size := (by omega); have n2a := Nat.ne_of_lt l2a; have d2a := fun o => c2 (w.heap.size) o (by first | omega | (simp; done) | (simp; omega)); have q2a := fun o => f2 (w.heap.size) o (by first | omega | (simp; done) | (simp; omega)); clear c2 f2) | (go_at_call 100; (with_reducible refine (HM.out _).mono ?_); rintro e w3 ⟨rfl, rfl⟩))
      refine bodyPost_ret (v := .tuple #[.agg #[.bool true, .int .u64 x, .int .u64 y, .int .i64 n], .bool true]) (by simp [results, Tryz.results74, go_sem, *]) rfl ⟨rfl, ?_⟩
      (repeat (first | assumption | exact Below.refl _ _ | refine Below.setCell ?_ (by first | omega | (simp; done) | (simp; omega)) _ | refine Below.alloc ?_ (by first | omega | (simp; done) | (simp; omega)) _ | refine Below.drew ?_ | (refine Below.trans ?_ (Below.mono (by assumption) (by first | omega | (simp; done) | (simp; omega))))))
    · rw [if_neg hn]
      have hM := fun w => adMake_any o hf (n - 96) w
      unfold GivesNt at hM
      rw [hv] at hM hV
      generalize adMake o (n - 96) = r at *
      have hnd2 : decide (96 ≤ n) = true := decide_eq_true (by omega)
      have HV := Lib.hid hV; have HM := Lib.hid hM; clear hV hM hcut
      go_enter Tryz.func74, Tryz.ntmps74
      go_wp2_with (first | (go_at_call 78; (with_reducible refine (HV.out _).mono ?_); rintro e w1 ⟨rfl, b1⟩; obtain ⟨c1, f1⟩ := bcell b1; have z1 := b1.size; (try simp at z1); have l1a : w.heap.size < w1.heap.size := (by omega); have n1a := Nat.ne_of_lt l1a; have d1a := fun o => c1 (w.heap.size) o (by first | omega | (simp; done) | (simp; omega)); have q1a := fun o => f1 (w.heap.size) o (by first | omega | (simp; done) | (simp; omega)); clear c1 f1) | (go_at_call 75; (with_reducible refine (HM.out _).mono ?_); rintro e w2 ⟨rfl, b2⟩; obtain ⟨c2, f2⟩ := bcell b2; have z2 := b2.size; (try simp at z2); have l2a : w.heap.size < w2.heap.size := (by omega); have n2a := Nat.ne_of_lt l2a; have d2a := fun o => c2 (w.heap.size) o (by first | omega | (simp; done) | (simp; omega)); have q2a := fun o => f2 (w.heap.size) o (by first | omega | (simp; done) | (simp; omega)); clear c2 f2))
      refine bodyPost_ret (v := .tuple #[.agg #[.bool r.1.ad.v6, .int .u64 r.1.ad.hi, .int .u64 r.1.ad.lo, .int .i64 r.1.bits], .bool r.2]) (by simp [results, Tryz.results74, go_sem, *]) rfl ⟨rfl, ?_⟩
      (repeat (first | assumption | exact Below.refl _ _ | refine Below.setCell ?_ (by first | omega | (simp; done) | (simp; omega)) _ | refine Below.alloc ?_ (by first | omega | (simp; done) | (simp; omega)) _ | refine Below.drew ?_ | (refine Below.trans ?_ (Below.mono (by assumption) (by first | omega | (simp; done) | (simp; omega))))))
set_option maxRecDepth 100000 in
set_option maxHeartbeats 8000000 in
theorem ntParse_any (s : ByteArray) (w : World) (hs : s.size ≤ 4000000000) (hc : Cpu w) : Calls Tryz.prog 40 #[.string s] w (GivesNt w (ntParse s.data.toList)) := by
  have HC := Lib.hid hc; clear hc
  have HCUT := Lib.hid (fun w hc => cutSlash s w hs hc)
  have hlen : s.data.toList.length = s.size := len_data s
  have hle := atB_le 47 s.data.toList
  unfold GivesNt ntParse
  have hcut : HCUT.out = HCUT.out := rfl
  clear hcut
  obtain ⟨l, hl⟩ : ∃ l, s.data.toList = l := ⟨_, rfl⟩
  rw [hl] at HCUT hlen hle ⊢
  clear hl
  obtain ⟨k, hk⟩ : ∃ k, atB 47 l = k := ⟨_, rfl⟩
  rw [hk] at HCUT hle ⊢
  clear hk
  have ht : (l.take k).length ≤ 4000000000 := by rw [List.length_take]; omega
  have hd : (l.drop (k + 1)).length ≤ 4000000000 := by rw [List.length_drop]; omega
  have hP := fun w hc => adParse_any (bs (l.take k)) w (by rw [bs_size]; exact ht) hc
  have hD := fun w => decParse_any (bs (l.drop (k + 1))) 128 w (by rw [bs_size]; omega)
  have hS := fun w hc => v6Parse_any (bs (l.take k)) w (by rw [bs_size]; exact ht) hc
  rw [bs_data] at hP hD hS
  unfold GivesAd at hP
  have hsix := adParse_six (l := l.take k)
  have hpf := adParse_fits (l.take k)
  have hslt := v6parse_lt (l.take k)
  have hqb := dec_bd (l := l.drop (k + 1))
  generalize adParse (l.take k) = p at *
  generalize decParse (l.drop (k + 1)) 128 = q at *
  generalize v6parse (l.take k) = v at *
  generalize l.take k = la at *
  generalize l.drop (k + 1) = lb at *
  have hnot : decide (k ≠ l.length) = !decide (k = l.length) := by simp
  rw [hnot] at HCUT
  generalize decide (k = l.length) = full at *
  clear hnot ht hd hle hlen hs l k
  obtain ⟨a, ok⟩ := p
  obtain ⟨n, ok2⟩ := q
  obtain ⟨hi, lo, ok3⟩ := v
  simp only at hpf hslt hqb hsix hP hD hS
  have hM := fun w => adMake_any a hpf n w
  have hF := fun w => ntFull_any a hpf w
  unfold GivesNt at hM
  have HP := Lib.hid hP; have HD := Lib.hid hD; have HS := Lib.hid hS; have HM := Lib.hid hM; have HF := Lib.hid hF
  clear hP hD hS hM hF
  unfold ntPart
  simp only
  cases ok with
  | false =>
    rw [if_pos rfl]
    unfold zeroN
    go_enter Tryz.func40, Tryz.ntmps40
    go_wp2_with (first | (go_at_call 71; (with_reducible refine (HCUT.out _ (HC.out.below (by (repeat (first | assumption | exact Below.refl _ _ | refine Below.setCell ?_ (by first | omega | (simp; done) | (simp; omega)) _ | refine Below.alloc ?_ (by first | omega | (simp; done) | (simp; omega)) _ | refine Below.drew ?_ | (refine Below.trans ?_ (Below.mono (by assumption) (by first | omega | (simp; done) | (simp; omega))))))))).mono ?_); rintro e w1 ⟨rfl, b1⟩; obtain ⟨c1, f1⟩ := bcell b1; have z1 := b1.size; (try simp at z1); have l1a : w.heap.size < w1.heap.size := (by omega); have n1a := Nat.ne_of_lt l1a; have d1a := fun o => c1 (w.heap.size) o (by first | omega | (simp; done) | (simp; omega)); have q1a := fun o => f1 (w.heap.size) o (by first | omega | (simp; done) | (simp; omega)); clear c1 f1) | (go_at_call 41; (with_reducible refine (HP.out _ (HC.out.below (by (repeat (first | assumption | exact Below.refl _ _ | refine Below.setCell ?_ (by first | omega | (simp; done) | (simp; omega)) _ | refine Below.alloc ?_ (by first | omega | (simp; done) | (simp; omega)) _ | refine Below.drew ?_ | (refine Below.trans ?_ (Below.mono (by assumption) (by first | omega | (simp; done) | (simp; omega))))))))).mono ?_); rintro e w2 ⟨rfl, b2⟩; obtain ⟨c2, f2⟩ := bcell b2; have z2 := b2.size; (try simp at z2); have l2a : w.heap.size < w2.heap.size := (by omega); have n2a := Nat.ne_of_lt l2a; have d2a := fun o => c2 (w.heap.size) o (by first | omega | (simp; done) | (simp; omega)); have q2a := fun o => f2 (w.heap.size) o (by first | omega | (simp; done) | (simp; omega)); clear c2 f2) | (go_at_call 72; (with_reducible refine (HF.out _).mono ?_); rintro e w3 ⟨rfl, b3⟩; obtain ⟨c3, f3⟩ := bcell b3; have z3 := b3.size; (try simp at z3); have l3a : w.heap.size < w3.heap.size := (by omega); have n3a := Nat.ne_of_lt l3a; have d3a := fun o => c3 (w.heap.size) o (by first | omega | (simp; done) | (simp; omega)); have q3a := fun o => f3 (w.heap.size) o (by first | omega | (simp; done) | (simp; omega)); clear c3 f3) | (go_at_call 70; (with_reducible refine (HD.out _).mono ?_); rintro e w4 ⟨rfl, rfl⟩) | (go_at_call 73; (with_reducible refine (HS.out _ (HC.out.below (by (repeat (first | assumption | exact Below.refl _ _ | refine Below.setCell ?_ (by first | omega | (simp; done) | (simp; omega)) _ | refine Below.alloc ?_ (by first | omega | (simp; done) | (simp; omega)) _ | refine Below.drew ?_ | (refine Below.trans ?_ (Below.mono (by assumption) (by first | omega | (simp; done) | (simp; omega))))))))).mono ?_); rintro e w5 ⟨rfl, b5⟩; obtain ⟨c5, f5⟩ := bcell b5; have z5 := b5.size; (try simp at z5); have l5a : w.heap.size < w5.heap.size := (by omega); have n5a := Nat.ne_of_lt l5a; have d5a := fun o => c5 (w.heap.size) o (by first | omega | (simp; done) | (simp; omega)); have q5a := fun o => f5 (w.heap.size) o (by first | omega | (simp; done) | (simp; omega)); have d5b := fun o => c5 (w2.heap.size) o (by first | omega | (simp; done) | (simp; omega)); clear c5 f5) | (go_at_call 74; (with_reducible refine (HX.out _).mono ?_); rintro e w6 ⟨rfl, b6⟩; obtain ⟨c6, f6⟩ := bcell b6; have z6 := b6.size; (try simp at z6); have l6a : w.heap.size < w6.heap.size := (by omega); have n6a := Nat.ne_of_lt l6a; have d6a := fun o => c6 (w.heap.size) o (by first | omega | (simp; done) | (simp; omega)); have q6a := fun o => f6 (w.heap.size) o (by first | omega | (simp; done) | (simp; omega)); clear c6 f6) | (go_at_call 75; (with_reducible refine (HM.out _).mono ?_); rintro e w7 ⟨rfl, b7⟩; obtain ⟨c7, f7⟩ := bcell b7; have z7 := b7.size; (try simp at z7); have l7a : w.heap.size < w7.heap.size := (by omega); have n7a := Nat.ne_of_lt l7a; have d7a := fun o => c7 (w.heap.size) o (by first | omega | (simp; done) | (simp; omega)); have q7a := fun o => f7 (w.heap.size) o (by first | omega | (simp; done) | (simp; omega)); clear c7 f7))
    refine bodyPost_ret (v := .tuple #[.agg #[.bool false, .int .u64 0, .int .u64 0, .int .i64 0], .bool false]) (by simp [results, Tryz.results40, go_sem, *]) rfl ⟨rfl, ?_⟩
    (repeat (first | assumption | exact Below.refl _ _ | refine Below.setCell ?_ (by first | omega | (simp; done) | (simp; omega)) _ | refine Below.alloc ?_ (by first | omega | (simp; done) | (simp; omega)) _ | refine Below.drew ?_ | (refine Below.trans ?_ (Below.mono (by assumption) (by first | omega | (simp; done) | (simp; omega))))))
  | true =>
  rw [if_neg (by simp)]
  cases full with
  | true =>
    rw [if_pos rfl]
    generalize ntFull a = g at *
    go_enter Tryz.func40, Tryz.ntmps40
    go_wp2_with (first | (go_at_call 71; (with_reducible refine (HCUT.out _ (HC.out.below (by (repeat (first | assumption | exact Below.refl _ _ | refine Below.setCell ?_ (by first | omega | (simp; done) | (simp; omega)) _ | refine Below.alloc ?_ (by first | omega | (simp; done) | (simp; omega)) _ | refine Below.drew ?_ | (refine Below.trans ?_ (Below.mono (by assumption) (by first | omega | (simp; done) | (simp; omega))))))))).mono ?_); rintro e w1 ⟨rfl, b1⟩; obtain ⟨c1, f1⟩ := bcell b1; have z1 := b1.size; (try simp at z1); have l1a : w.heap.size < w1.heap.size := (by omega); have n1a := Nat.ne_of_lt l1a; have d1a := fun o => c1 (w.heap.size) o (by first | omega | (simp; done) | (simp; omega)); have q1a := fun o => f1 (w.heap.size) o (by first | omega | (simp; done) | (simp; omega)); clear c1 f1) | (go_at_call 41; (with_reducible refine (HP.out _ (HC.out.below (by (repeat (first | assumption | exact Below.refl _ _ | refine Below.setCell ?_ (by first | omega | (simp; done) | (simp; omega)) _ | refine Below.alloc ?_ (by first | omega | (simp; done) | (simp; omega)) _ | refine Below.drew ?_ | (refine Below.trans ?_ (Below.mono (by assumption) (by first | omega | (simp; done) | (simp; omega))))))))).mono ?_); rintro e w2 ⟨rfl, b2⟩; obtain ⟨c2, f2⟩ := bcell b2; have z2 := b2.size; (try simp at z2); have l2a : w.heap.size < w2.heap.size := (by omega); have n2a := Nat.ne_of_lt l2a; have d2a := fun o => c2 (w.heap.size) o (by first | omega | (simp; done) | (simp; omega)); have q2a := fun o => f2 (w.heap.size) o (by first | omega | (simp; done) | (simp; omega)); clear c2 f2) | (go_at_call 72; (with_reducible refine (HF.out _).mono ?_); rintro e w3 ⟨rfl, b3⟩; obtain ⟨c3, f3⟩ := bcell b3; have z3 := b3.size; (try simp at z3); have l3a : w.heap.size < w3.heap.size := (by omega); have n3a := Nat.ne_of_lt l3a; have d3a := fun o => c3 (w.heap.size) o (by first | omega | (simp; done) | (simp; omega)); have q3a := fun o => f3 (w.heap.size) o (by first | omega | (simp; done) | (simp; omega)); clear c3 f3) | (go_at_call 70; (with_reducible refine (HD.out _).mono ?_); rintro e w4 ⟨rfl, rfl⟩) | (go_at_call 73; (with_reducible refine (HS.out _ (HC.out.below (by (repeat (first | assumption | exact Below.refl _ _ | refine Below.setCell ?_ (by first | omega | (simp; done) | (simp; omega)) _ | refine Below.alloc ?_ (by first | omega | (simp; done) | (simp; omega)) _ | refine Below.drew ?_ | (refine Below.trans ?_ (Below.mono (by assumption) (by first | omega | (simp; done) | (simp; omega))))))))).mono ?_); rintro e w5 ⟨rfl, b5⟩; obtain ⟨c5, f5⟩ := bcell b5; have z5 := b5.size; (try simp at z5); have l5a : w.heap.size < w5.heap.size := (by omega); have n5a := Nat.ne_of_lt l5a; have d5a := fun o => c5 (w.heap.size) o (by first | omega | (simp; done) | (simp; omega)); have q5a := fun o => f5 (w.heap.size) o (by first | omega | (simp; done) | (simp; omega)); have d5b := fun o => c5 (w2.heap.size) o (by first | omega | (simp; done) | (simp; omega)); clear c5 f5) | (go_at_call 74; (with_reducible refine (HX.out _).mono ?_); rintro e w6 ⟨rfl, b6⟩; obtain ⟨c6, f6⟩ := bcell b6; have z6 := b6.size; (try simp at z6); have l6a : w.heap.size < w6.heap.size := (by omega); have n6a := Nat.ne_of_lt l6a; have d6a := fun o => c6 (w.heap.size) o (by first | omega | (simp; done) | (simp; omega)); have q6a := fun o => f6 (w.heap.size) o (by first | omega | (simp; done) | (simp; omega)); clear c6 f6) | (go_at_call 75; (with_reducible refine (HM.out _).mono ?_); rintro e w7 ⟨rfl, b7⟩; obtain ⟨c7, f7⟩ := bcell b7; have z7 := b7.size; (try simp at z7); have l7a : w.heap.size < w7.heap.size := (by omega); have n7a := Nat.ne_of_lt l7a; have d7a := fun o => c7 (w.heap.size) o (by first | omega | (simp; done) | (simp; omega)); have q7a := fun o => f7 (w.heap.size) o (by first | omega | (simp; done) | (simp; omega)); clear c7 f7))
    refine bodyPost_ret (v := .tuple #[.agg #[.bool g.ad.v6, .int .u64 g.ad.hi, .int .u64 g.ad.lo, .int .i64 g.bits], .bool true]) (by simp [results, Tryz.results40, go_sem, *]) rfl ⟨rfl, ?_⟩
    (repeat (first | assumption | exact Below.refl _ _ | refine Below.setCell ?_ (by first | omega | (simp; done) | (simp; omega)) _ | refine Below.alloc ?_ (by first | omega | (simp; done) | (simp; omega)) _ | refine Below.drew ?_ | (refine Below.trans ?_ (Below.mono (by assumption) (by first | omega | (simp; done) | (simp; omega))))))
  | false =>
  rw [if_neg (by simp)]
  cases ok2 with
  | false =>
    rw [if_pos rfl]
    unfold zeroN
    go_enter Tryz.func40, Tryz.ntmps40
    go_wp2_with (first | (go_at_call 71; (with_reducible refine (HCUT.out _ (HC.out.below (by (repeat (first | assumption | exact Below.refl _ _ | refine Below.setCell ?_ (by first | omega | (simp; done) | (simp; omega)) _ | refine Below.alloc ?_ (by first | omega | (simp; done) | (simp; omega)) _ | refine Below.drew ?_ | (refine Below.trans ?_ (Below.mono (by assumption) (by first | omega | (simp; done) | (simp; omega))))))))).mono ?_); rintro e w1 ⟨rfl, b1⟩; obtain ⟨c1, f1⟩ := bcell b1; have z1 := b1.size; (try simp at z1); have l1a : w.heap.size < w1.heap.size := (by omega); have n1a := Nat.ne_of_lt l1a; have d1a := fun o => c1 (w.heap.size) o (by first | omega | (simp; done) | (simp; omega)); have q1a := fun o => f1 (w.heap.size) o (by first | omega | (simp; done) | (simp; omega)); clear c1 f1) | (go_at_call 41; (with_reducible refine (HP.out _ (HC.out.below (by (repeat (first | assumption | exact Below.refl _ _ | refine Below.setCell ?_ (by first | omega | (simp; done) | (simp; omega)) _ | refine Below.alloc ?_ (by first | omega | (simp; done) | (simp; omega)) _ | refine Below.drew ?_ | (refine Below.trans ?_ (Below.mono (by assumption) (by first | omega | (simp; done) | (simp; omega))))))))).mono ?_); rintro e w2 ⟨rfl, b2⟩; obtain ⟨c2, f2⟩ := bcell b2; have z2 := b2.size; (try simp at z2); have l2a : w.heap.size < w2.heap.size := (by omega); have n2a := Nat.ne_of_lt l2a; have d2a := fun o => c2 (w.heap.size) o (by first | omega | (simp; done) | (simp; omega)); have q2a := fun o => f2 (w.heap.size) o (by first | omega | (simp; done) | (simp; omega)); clear c2 f2) | (go_at_call 72; (with_reducible refine (HF.out _).mono ?_); rintro e w3 ⟨rfl, b3⟩; obtain ⟨c3, f3⟩ := bcell b3; have z3 := b3.size; (try simp at z3); have l3a : w.heap.size < w3.heap.size := (by omega); have n3a := Nat.ne_of_lt l3a; have d3a := fun o => c3 (w.heap.size) o (by first | omega | (simp; done) | (simp; omega)); have q3a := fun o => f3 (w.heap.size) o (by first | omega | (simp; done) | (simp; omega)); clear c3 f3) | (go_at_call 70; (with_reducible refine (HD.out _).mono ?_); rintro e w4 ⟨rfl, rfl⟩) | (go_at_call 73; (with_reducible refine (HS.out _ (HC.out.below (by (repeat (first | assumption | exact Below.refl _ _ | refine Below.setCell ?_ (by first | omega | (simp; done) | (simp; omega)) _ | refine Below.alloc ?_ (by first | omega | (simp; done) | (simp; omega)) _ | refine Below.drew ?_ | (refine Below.trans ?_ (Below.mono (by assumption) (by first | omega | (simp; done) | (simp; omega))))))))).mono ?_); rintro e w5 ⟨rfl, b5⟩; obtain ⟨c5, f5⟩ := bcell b5; have z5 := b5.size; (try simp at z5); have l5a : w.heap.size < w5.heap.size := (by omega); have n5a := Nat.ne_of_lt l5a; have d5a := fun o => c5 (w.heap.size) o (by first | omega | (simp; done) | (simp; omega)); have q5a := fun o => f5 (w.heap.size) o (by first | omega | (simp; done) | (simp; omega)); have d5b := fun o => c5 (w2.heap.size) o (by first | omega | (simp; done) | (simp; omega)); clear c5 f5) | (go_at_call 74; (with_reducible refine (HX.out _).mono ?_); rintro e w6 ⟨rfl, b6⟩; obtain ⟨c6, f6⟩ := bcell b6; have z6 := b6.size; (try simp at z6); have l6a : w.heap.size < w6.heap.size := (by omega); have n6a := Nat.ne_of_lt l6a; have d6a := fun o => c6 (w.heap.size) o (by first | omega | (simp; done) | (simp; omega)); have q6a := fun o => f6 (w.heap.size) o (by first | omega | (simp; done) | (simp; omega)); clear c6 f6) | (go_at_call 75; (with_reducible refine (HM.out _).mono ?_); rintro e w7 ⟨rfl, b7⟩; obtain ⟨c7, f7⟩ := bcell b7; have z7 := b7.size; (try simp at z7); have l7a : w.heap.size < w7.heap.size := (by omega); have n7a := Nat.ne_of_lt l7a; have d7a := fun o => c7 (w.heap.size) o (by first | omega | (simp; done) | (simp; omega)); have q7a := fun o => f7 (w.heap.size) o (by first | omega | (simp; done) | (simp; omega)); clear c7 f7))
    refine bodyPost_ret (v := .tuple #[.agg #[.bool false, .int .u64 0, .int .u64 0, .int .i64 0], .bool false]) (by simp [results, Tryz.results40, go_sem, *]) rfl ⟨rfl, ?_⟩
    (repeat (first | assumption | exact Below.refl _ _ | refine Below.setCell ?_ (by first | omega | (simp; done) | (simp; omega)) _ | refine Below.alloc ?_ (by first | omega | (simp; done) | (simp; omega)) _ | refine Below.drew ?_ | (refine Below.trans ?_ (Below.mono (by assumption) (by first | omega | (simp; done) | (simp; omega))))))
  | true =>
  rw [if_neg (by simp)]
  obtain ⟨q0, q1⟩ := hqb rfl
  cases ok3 with
  | false =>
    rw [if_neg (by simp)]
    clear hsix
    generalize adMake a n = r at *
    go_enter Tryz.func40, Tryz.ntmps40
    go_wp2_with (first | (go_at_call 71; (with_reducible refine (HCUT.out _ (HC.out.below (by (repeat (first | assumption | exact Below.refl _ _ | refine Below.setCell ?_ (by first | omega | (simp; done) | (simp; omega)) _ | refine Below.alloc ?_ (by first | omega | (simp; done) | (simp; omega)) _ | refine Below.drew ?_ | (refine Below.trans ?_ (Below.mono (by assumption) (by first | omega | (simp; done) | (simp; omega))))))))).mono ?_); rintro e w1 ⟨rfl, b1⟩; obtain ⟨c1, f1⟩ := bcell b1; have z1 := b1.size; (try simp at z1); have l1a : w.heap.size < w1.heap.size := (by omega); have n1a := Nat.ne_of_lt l1a; have d1a := fun o => c1 (w.heap.size) o (by first | omega | (simp; done) | (simp; omega)); have q1a := fun o => f1 (w.heap.size) o (by first | omega | (simp; done) | (simp; omega)); clear c1 f1) | (go_at_call 41; (with_reducible refine (HP.out _ (HC.out.below (by (repeat (first | assumption | exact Below.refl _ _ | refine Below.setCell ?_ (by first | omega | (simp; done) | (simp; omega)) _ | refine Below.alloc ?_ (by first | omega | (simp; done) | (simp; omega)) _ | refine Below.drew ?_ | (refine Below.trans ?_ (Below.mono (by assumption) (by first | omega | (simp; done) | (simp; omega))))))))).mono ?_); rintro e w2 ⟨rfl, b2⟩; obtain ⟨c2, f2⟩ := bcell b2; have z2 := b2.size; (try simp at z2); have l2a : w.heap.size < w2.heap.size := (by omega); have n2a := Nat.ne_of_lt l2a; have d2a := fun o => c2 (w.heap.size) o (by first | omega | (simp; done) | (simp; omega)); have q2a := fun o => f2 (w.heap.size) o (by first | omega | (simp; done) | (simp; omega)); clear c2 f2) | (go_at_call 72; (with_reducible refine (HF.out _).mono ?_); rintro e w3 ⟨rfl, b3⟩; obtain ⟨c3, f3⟩ := bcell b3; have z3 := b3.size; (try simp at z3); have l3a : w.heap.size < w3.heap.size := (by omega); have n3a := Nat.ne_of_lt l3a; have d3a := fun o => c3 (w.heap.size) o (by first | omega | (simp; done) | (simp; omega)); have q3a := fun o => f3 (w.heap.size) o (by first | omega | (simp; done) | (simp; omega)); clear c3 f3) | (go_at_call 70; (with_reducible refine (HD.out _).mono ?_); rintro e w4 ⟨rfl, rfl⟩) | (go_at_call 73; (with_reducible refine (HS.out _ (HC.out.below (by (repeat (first | assumption | exact Below.refl _ _ | refine Below.setCell ?_ (by first | omega | (simp; done) | (simp; omega)) _ | refine Below.alloc ?_ (by first | omega | (simp; done) | (simp; omega)) _ | refine Below.drew ?_ | (refine Below.trans ?_ (Below.mono (by assumption) (by first | omega | (simp; done) | (simp; omega))))))))).mono ?_); rintro e w5 ⟨rfl, b5⟩; obtain ⟨c5, f5⟩ := bcell b5; have z5 := b5.size; (try simp at z5); have l5a : w.heap.size < w5.heap.size := (by omega); have n5a := Nat.ne_of_lt l5a; have d5a := fun o => c5 (w.heap.size) o (by first | omega | (simp; done) | (simp; omega)); have q5a := fun o => f5 (w.heap.size) o (by first | omega | (simp; done) | (simp; omega)); have d5b := fun o => c5 (w2.heap.size) o (by first | omega | (simp; done) | (simp; omega)); clear c5 f5) | (go_at_call 74; (with_reducible refine (HX.out _).mono ?_); rintro e w6 ⟨rfl, b6⟩; obtain ⟨c6, f6⟩ := bcell b6; have z6 := b6.size; (try simp at z6); have l6a : w.heap.size < w6.heap.size := (by omega); have n6a := Nat.ne_of_lt l6a; have d6a := fun o => c6 (w.heap.size) o (by first | omega | (simp; done) | (simp; omega)); have q6a := fun o => f6 (w.heap.size) o (by first | omega | (simp; done) | (simp; omega)); clear c6 f6) | (go_at_call 75; (with_reducible refine (HM.out _).mono ?_); rintro e w7 ⟨rfl, b7⟩; obtain ⟨c7, f7⟩ := bcell b7; have z7 := b7.size; (try simp at z7); have l7a : w.heap.size < w7.heap.size := (by omega); have n7a := Nat.ne_of_lt l7a; have d7a := fun o => c7 (w.heap.size) o (by first | omega | (simp; done) | (simp; omega)); have q7a := fun o => f7 (w.heap.size) o (by first | omega | (simp; done) | (simp; omega)); clear c7 f7))
    refine bodyPost_ret (v := .tuple #[.agg #[.bool r.1.ad.v6, .int .u64 r.1.ad.hi, .int .u64 r.1.ad.lo, .int .i64 r.1.bits], .bool r.2]) (by simp [results, Tryz.results40, go_sem, *]) rfl ⟨rfl, ?_⟩
    (repeat (first | assumption | exact Below.refl _ _ | refine Below.setCell ?_ (by first | omega | (simp; done) | (simp; omega)) _ | refine Below.alloc ?_ (by first | omega | (simp; done) | (simp; omega)) _ | refine Below.drew ?_ | (refine Below.trans ?_ (Below.mono (by assumption) (by first | omega | (simp; done) | (simp; omega))))))
  | true =>
    have hao := hsix rfl
    simp only [Prod.mk.injEq, and_true] at hao
    have hX := fun w => ntSix_any hi lo n hslt.1 hslt.2 q0 q1 w
    unfold GivesNt ntSix at hX
    rw [← hao] at hX
    have hsame : (if true = true ∧ a.v6 = false then (if n < 96 then ((⟨⟨true, cutW 64 hi n.toNat, cutW 64 lo (n.toNat - 64)⟩, n⟩, true) : Nt × Bool) else adMake a (n - 96)) else adMake a n) = (if a.v6 = true then adMake a n else if n < 96 then (⟨⟨true, cutW 64 hi n.toNat, cutW 64 lo (n.toNat - 64)⟩, n⟩, true) else adMake a (n - 96)) := by
      cases a.v6 <;> simp
    rw [hsame]
    clear hsix hsame
    generalize (if a.v6 = true then adMake a n else if n < 96 then ((⟨⟨true, cutW 64 hi n.toNat, cutW 64 lo (n.toNat - 64)⟩, n⟩, true) : Nt × Bool) else adMake a (n - 96)) = r at *
    have HX := Lib.hid hX; clear hX
    clear hao
    go_enter Tryz.func40, Tryz.ntmps40
    go_wp2_with (first | (go_at_call 71; (with_reducible refine (HCUT.out _ (HC.out.below (by (repeat (first | assumption | exact Below.refl _ _ | refine Below.setCell ?_ (by first | omega | (simp; done) | (simp; omega)) _ | refine Below.alloc ?_ (by first | omega | (simp; done) | (simp; omega)) _ | refine Below.drew ?_ | (refine Below.trans ?_ (Below.mono (by assumption) (by first | omega | (simp; done) | (simp; omega))))))))).mono ?_); rintro e w1 ⟨rfl, b1⟩; obtain ⟨c1, f1⟩ := bcell b1; have z1 := b1.size; (try simp at z1); have l1a : w.heap.size < w1.heap.size := (by omega); have n1a := Nat.ne_of_lt l1a; have d1a := fun o => c1 (w.heap.size) o (by first | omega | (simp; done) | (simp; omega)); have q1a := fun o => f1 (w.heap.size) o (by first | omega | (simp; done) | (simp; omega)); clear c1 f1) | (go_at_call 41; (with_reducible refine (HP.out _ (HC.out.below (by (repeat (first | assumption | exact Below.refl _ _ | refine Below.setCell ?_ (by first | omega | (simp; done) | (simp; omega)) _ | refine Below.alloc ?_ (by first | omega | (simp; done) | (simp; omega)) _ | refine Below.drew ?_ | (refine Below.trans ?_ (Below.mono (by assumption) (by first | omega | (simp; done) | (simp; omega))))))))).mono ?_); rintro e w2 ⟨rfl, b2⟩; obtain ⟨c2, f2⟩ := bcell b2; have z2 := b2.size; (try simp at z2); have l2a : w.heap.size < w2.heap.size := (by omega); have n2a := Nat.ne_of_lt l2a; have d2a := fun o => c2 (w.heap.size) o (by first | omega | (simp; done) | (simp; omega)); have q2a := fun o => f2 (w.heap.size) o (by first | omega | (simp; done) | (simp; omega)); clear c2 f2) | (go_at_call 72; (with_reducible refine (HF.out _).mono ?_); rintro e w3 ⟨rfl, b3⟩; obtain ⟨c3, f3⟩ := bcell b3; have z3 := b3.size; (try simp at z3); have l3a : w.heap.size < w3.heap.size := (by omega); have n3a := Nat.ne_of_lt l3a; have d3a := fun o => c3 (w.heap.size) o (by first | omega | (simp; done) | (simp; omega)); have q3a := fun o => f3 (w.heap.size) o (by first | omega | (simp; done) | (simp; omega)); clear c3 f3) | (go_at_call 70; (with_reducible refine (HD.out _).mono ?_); rintro e w4 ⟨rfl, rfl⟩) | (go_at_call 73; (with_reducible refine (HS.out _ (HC.out.below (by (repeat (first | assumption | exact Below.refl _ _ | refine Below.setCell ?_ (by first | omega | (simp; done) | (simp; omega)) _ | refine Below.alloc ?_ (by first | omega | (simp; done) | (simp; omega)) _ | refine Below.drew ?_ | (refine Below.trans ?_ (Below.mono (by assumption) (by first | omega | (simp; done) | (simp; omega))))))))).mono ?_); rintro e w5 ⟨rfl, b5⟩; obtain ⟨c5, f5⟩ := bcell b5; have z5 := b5.size; (try simp at z5); have l5a : w.heap.size < w5.heap.size := (by omega); have n5a := Nat.ne_of_lt l5a; have d5a := fun o => c5 (w.heap.size) o (by first | omega | (simp; done) | (simp; omega)); have q5a := fun o => f5 (w.heap.size) o (by first | omega | (simp; done) | (simp; omega)); have d5b := fun o => c5 (w2.heap.size) o (by first | omega | (simp; done) | (simp; omega)); clear c5 f5) | (go_at_call 74; (with_reducible refine (HX.out _).mono ?_); rintro e w6 ⟨rfl, b6⟩; obtain ⟨c6, f6⟩ := bcell b6; have z6 := b6.size; (try simp at z6); have l6a : w.heap.size < w6.heap.size := (by omega); have n6a := Nat.ne_of_lt l6a; have d6a := fun o => c6 (w.heap.size) o (by first | omega | (simp; done) | (simp; omega)); have q6a := fun o => f6 (w.heap.size) o (by first | omega | (simp; done) | (simp; omega)); clear c6 f6) | (go_at_call 75; (with_reducible refine (HM.out _).mono ?_); rintro e w7 ⟨rfl, b7⟩; obtain ⟨c7, f7⟩ := bcell b7; have z7 := b7.size; (try simp at z7); have l7a : w.heap.size < w7.heap.size := (by omega); have n7a := Nat.ne_of_lt l7a; have d7a := fun o => c7 (w.heap.size) o (by first | omega | (simp; done) | (simp; omega)); have q7a := fun o => f7 (w.heap.size) o (by first | omega | (simp; done) | (simp; omega)); clear c7 f7))
    refine bodyPost_ret (v := .tuple #[.agg #[.bool r.1.ad.v6, .int .u64 r.1.ad.hi, .int .u64 r.1.ad.lo, .int .i64 r.1.bits], .bool r.2]) (by simp [results, Tryz.results40, go_sem, *]) rfl ⟨rfl, ?_⟩
    (repeat (first | assumption | exact Below.refl _ _ | refine Below.setCell ?_ (by first | omega | (simp; done) | (simp; omega)) _ | refine Below.alloc ?_ (by first | omega | (simp; done) | (simp; omega)) _ | refine Below.drew ?_ | (refine Below.trans ?_ (Below.mono (by assumption) (by first | omega | (simp; done) | (simp; omega))))))
end Go.Proofs.YtnohkfbapibmdaaGreat
