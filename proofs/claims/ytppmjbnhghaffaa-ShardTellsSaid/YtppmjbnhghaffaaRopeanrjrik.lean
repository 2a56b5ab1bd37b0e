/- Texts put together: SortPC. No condition. -/
import Derived.Test.YtppmjbnhghaffaaRunkbqsheoc
import Derived.WalkSpells
import Derived.WalkLawsBesides
import Derived.Deep.DeepCutAuto
namespace Go.Proofs.Ytppmjbnhghaffaa
open Go.RowKit Go.Lib Go.Sort
set_option linter.unusedSimpArgs false
set_option linter.unusedVariables false

set_option maxHeartbeats 16000000 in
set_option maxRecDepth 100000 in
theorem symMergeC_p (cf : Pe → Pe → Int) (g : Nat) (cb : Array Value) (base blk cap : Nat) (n0 : Nat) (w0 : World) (eg : ∀ args w, (callFunc g args).run Try.prog w = .ok (.enter g args) w) (hcmp : CmpP Try.prog g cb cf) (hsz : n0 < 1000000000) (f a m b : Nat) (d : Array Pe) (w : World) (IH : ∀ (a m b : Nat) (d : Array Pe) (w : World), n0 = d.size → SP base w0 blk cap d w → a < m → m < b → b ≤ d.size → b - a ≤ f →
    Calls Try.prog 166 #[.slice (some ⟨blk, 0, none⟩) d.size cap, .int .i64 a, .int .i64 m, .int .i64 b, .func (.func g) #[] cb] w fun e w' => e = .returned (.tuple #[]) ∧ SP base w0 blk cap (symM (ltOf cf) f a m b d) w')
    (hs : n0 = d.size) (S : SP base w0 blk cap d w) (h1 : a < m) (h2 : m < b) (h3 : b ≤ d.size) (h4 : b - a ≤ f + 1) (c1 : ¬ m - a = 1) (c2 : ¬ b - m = 1) :
    Calls Try.prog 166 #[.slice (some ⟨blk, 0, none⟩) d.size cap, .int .i64 a, .int .i64 m, .int .i64 b, .func (.func g) #[] cb] w fun e w' => e = .returned (.tuple #[]) ∧ SP base w0 blk cap (symM (ltOf cf) (f + 1) a m b d) w' := by
  have mixed : Try.prog.follows .mixedOrders = true := by kernel_rfl
  have HC : Aside _ := hcmp
  have S0 : Aside _ := S
  have IH' : Aside _ := IH
  clear S hcmp IH
  have c1z : ¬ ((m : Int) - (a : Int) = 1) := by omega
  have c1b : ((m : Int) - (a : Int) == 1) = false := beq_eq_false_iff_ne.2 c1z
  have c2z : ¬ ((b : Int) - (m : Int) = 1) := by omega
  have c2b : ((b : Int) - (m : Int) == 1) = false := beq_eq_false_iff_ne.2 c2z
  obtain ⟨mid, hmid⟩ : ∃ q, q = (a + b) / 2 := ⟨_, rfl⟩
  have zmid : ((a : Int) + (b : Int)) / 2 = (mid : Int) := by omega
  obtain ⟨s0, hs0⟩ : ∃ s, s = symS0 a m b := ⟨_, rfl⟩
  obtain ⟨r0, hr0⟩ : ∃ s, s = symR0 a m b := ⟨_, rfl⟩
  have q0 : s0 = (if mid < m then mid + m - b else a) := by rw [hs0]; unfold symS0; rw [hmid]
  have q1 : r0 = (if mid < m then mid else m) := by rw [hr0]; unfold symR0; rw [hmid]
  have q2 : a ≤ s0 ∧ s0 ≤ r0 ∧ r0 ≤ m ∧ r0 ≤ mid ∧ mid + m - b ≤ s0 := by rw [q0, q1]; split <;> omega
  have q3 : (mid : Int) < (m : Int) ∧ (s0 : Int) = (mid : Int) + (m : Int) - (b : Int) ∧ r0 = mid ∨ ¬ (mid : Int) < (m : Int) ∧ s0 = a ∧ r0 = m := by
    by_cases hc : mid < m
    · rw [if_pos hc] at q0 q1; left; refine ⟨by omega, by omega, q1⟩
    · rw [if_neg hc] at q0 q1; right; exact ⟨by omega, q0, q1⟩
  obtain ⟨q4, q5, q6, q7, q8⟩ := q2
  clear q0 q1
  have HSt : Hid (symSt (ltOf cf) d a m b = bsr (fun c => !(ltOf cf) d[mid + m - 1 - c]! d[c]!) (b - a) s0 r0) := by show _ = _; unfold symSt; rw [← hs0, ← hr0, ← hmid]
  clear hs0 hr0
  have HM : Hid (mid = (a + b) / 2) := hmid
  clear hmid
  go_enter Try.func166, Try.ntmps166
  go_upto_if 140 with fail
  go_cut [20, 21] (fun s r wx => s = .int .i64 s0 ∧ r = .int .i64 r0 ∧ wx = w)
  case first =>
    as_aux_lemma =>
      rcases q3 with ⟨d1, d2, d3⟩ | ⟨d1, d2, d3⟩
      · go_wp2_with fail
        all_goals (go_meet; exact ⟨by first | rfl | (congr 1; omega), by first | rfl | (congr 1; omega), rfl⟩)
      · go_wp2_with fail
        all_goals (go_meet; exact ⟨by first | rfl | (congr 1; omega), by first | rfl | (congr 1; omega), rfl⟩)
  case rest =>
  clear q3
  obtain ⟨rfl, rfl, rfl⟩ := hcut
  go_at_K
  go_wp2
  go_loopg [20, 21] (r0 - s0) (fun g1 vi vj wr => ∃ (i j : Nat), vi = .int .i64 i ∧ vj = .int .i64 j ∧ s0 ≤ i ∧ i ≤ j ∧ j ≤ r0 ∧ j - i ≤ g1 ∧ Aside (SP base w0 blk cap d wr) ∧ Hid (∃ q, j - i ≤ q ∧ bsr (fun c => !(ltOf cf) d[mid + m - 1 - c]! d[c]!) q i j = bsr (fun c => !(ltOf cf) d[mid + m - 1 - c]! d[c]!) (b - a) (s0) (r0)))
  case atStart => exact ⟨s0, r0, rfl, rfl, Nat.le_refl _, by omega, Nat.le_refl _, Nat.le_refl _, S0, ⟨_, by omega, rfl⟩⟩
  case round =>
    clear S0
    obtain ⟨i, j, rfl, rfl, hlo, hij, hhi, hg1, S1, HB⟩ := hrel
    by_cases hlt : i < j
    · have hltz : (i : Int) < (j : Int) := by omega
      obtain ⟨h, hh⟩ : ∃ h, h = (i + j) / 2 := ⟨_, rfl⟩
      have zh : ((i : Int) + (j : Int)) / 2 = (h : Int) := by omega
      have h5 : i ≤ h := by omega
      have h6 : h < j := by omega
      have HH : Hid (h = (i + j) / 2) := hh
      clear hh
      cases hlv : (ltOf cf) d[mid + m - 1 - h]! d[h]! with
      | true =>
        as_aux_lemma =>
          have HB' : Hid (∃ q, h - i ≤ q ∧ bsr (fun c => !(ltOf cf) d[mid + m - 1 - c]! d[c]!) q i h = bsr (fun c => !(ltOf cf) d[mid + m - 1 - c]! d[c]!) (b - a) (s0) (r0)) := by
            obtain ⟨q, hq, hb⟩ := HB.out
            cases q with
            | zero => omega
            | succ q => exact ⟨q, by omega, by rw [← hb]; (conv => rhs; unfold bsr; rw [if_pos hlt, ← HH.out]); exact (if_neg (by simp [hlv])).symm⟩
          clear HB
          obtain ⟨iN11, hiN11⟩ : ∃ q, q = mid + m - 1 - h := ⟨_, rfl⟩
          obtain ⟨jN11, hjN11⟩ : ∃ q, q = h := ⟨_, rfl⟩
          have ea11 : ((mid : Int) + (m : Int) - 1 - (h : Int)).toNat = iN11 := by omega
          have pa11 : (0 : Int) ≤ (mid : Int) + (m : Int) - 1 - (h : Int) := by omega
          have ba11 : (mid : Int) + (m : Int) - 1 - (h : Int) < (d.size : Int) := by omega
          have ra11 : IntKind.i64.wrap ((mid : Int) + (m : Int) - 1 - (h : Int)) = (mid : Int) + (m : Int) - 1 - (h : Int) := by rw [IntKind.wrap_i64]; omega
          have ec11 : ((h : Int)).toNat = jN11 := by omega
          have pc11 : (0 : Int) ≤ (h : Int) := by omega
          have bc11 : (h : Int) < (d.size : Int) := by omega
          have rc11 : IntKind.i64.wrap ((h : Int)) = (h : Int) := by rw [IntKind.wrap_i64]; omega
          obtain ⟨x11, hx11⟩ : ∃ x, x = d[mid + m - 1 - h]! := ⟨_, rfl⟩
          obtain ⟨y11, hy11⟩ : ∃ x, x = d[h]! := ⟨_, rfl⟩
          have KA11 : ∀ Y, PeIn (Go.Proofs.Ytppmjbnhghaffaa.ext wr Y) blk (iN11 * 10) x11 := fun Y => by rw [hiN11, hx11]; exact S1.out.cl (by omega) Y
          have KB11 : ∀ Y, PeIn (Go.Proofs.Ytppmjbnhghaffaa.ext wr Y) blk (jN11 * 10) y11 := fun Y => by rw [hjN11, hy11]; exact S1.out.cl (by omega) Y
          have la0 := fun y => (KA11 y).1; have la1 := fun y => (KA11 y).2.1; have la2 := fun y => (KA11 y).2.2.1; have la3 := fun y => (KA11 y).2.2.2.1; have la4 := fun y => (KA11 y).2.2.2.2.1; have la5 := fun y => (KA11 y).2.2.2.2.2.1; have la6 := fun y => (KA11 y).2.2.2.2.2.2.1; have la7 := fun y => (KA11 y).2.2.2.2.2.2.2.1; have la8 := fun y => (KA11 y).2.2.2.2.2.2.2.2.1; have la9 := fun y => (KA11 y).2.2.2.2.2.2.2.2.2
          have lb0 := fun y => (KB11 y).1; have lb1 := fun y => (KB11 y).2.1; have lb2 := fun y => (KB11 y).2.2.1; have lb3 := fun y => (KB11 y).2.2.2.1; have lb4 := fun y => (KB11 y).2.2.2.2.1; have lb5 := fun y => (KB11 y).2.2.2.2.2.1; have lb6 := fun y => (KB11 y).2.2.2.2.2.2.1; have lb7 := fun y => (KB11 y).2.2.2.2.2.2.2.1; have lb8 := fun y => (KB11 y).2.2.2.2.2.2.2.2.1; have lb9 := fun y => (KB11 y).2.2.2.2.2.2.2.2.2
          have hc11 := fun Y => HC.out (Go.Proofs.Ytppmjbnhghaffaa.ext wr Y) x11 y11
          have hv11 : cf x11 y11 < 0 := by rw [hx11, hy11]; exact of_decide_eq_true hlv
          have hd11 : decide (cf x11 y11 < 0) = true := decide_eq_true hv11
          clear hx11 hy11 hiN11 hjN11 KA11 KB11
          go_wp2_with fail
          refine wp_region_ext (by kernel_rfl) (by kernel_rfl) ?_
          repeat (go_big_quiet_step ((first | (go_at_fn g; with_reducible exact qe (hc11 _)))))
          refine wpQuiet_nil ?_
          intro _ hw'
          obtain ⟨gx, hw''⟩ := hw'
          subst hw''
          have S2 : Aside (SP base w0 blk cap d (Go.Proofs.Ytppmjbnhghaffaa.ext wr gx)) := S1.out.ext gx
          clear la0 la1 la2 la3 la4 la5 la6 la7 la8 la9 lb0 lb1 lb2 lb3 lb4 lb5 lb6 lb7 lb8 lb9 hc11 S1
          generalize Go.Proofs.Ytppmjbnhghaffaa.ext wr gx = w2 at S2 ⊢
          clear gx
          clear ea11 ec11
          go_wp2
          go_roundg (h - i)
          case measure => omega
          case rel => exact ⟨i, h, rfl, by first | rfl | go_num | (congr 1; omega), by omega, by omega, by omega, Nat.le_refl _, S2, HB'⟩
      | false =>
        as_aux_lemma =>
          have HB' : Hid (∃ q, j - (h + 1) ≤ q ∧ bsr (fun c => !(ltOf cf) d[mid + m - 1 - c]! d[c]!) q (h + 1) j = bsr (fun c => !(ltOf cf) d[mid + m - 1 - c]! d[c]!) (b - a) (s0) (r0)) := by
            obtain ⟨q, hq, hb⟩ := HB.out
            cases q with
            | zero => omega
            | succ q => exact ⟨q, by omega, by rw [← hb]; (conv => rhs; unfold bsr; rw [if_pos hlt, ← HH.out]); exact (if_pos (by simp [hlv])).symm⟩
          clear HB
          obtain ⟨iN12, hiN12⟩ : ∃ q, q = mid + m - 1 - h := ⟨_, rfl⟩
          obtain ⟨jN12, hjN12⟩ : ∃ q, q = h := ⟨_, rfl⟩
          have ea12 : ((mid : Int) + (m : Int) - 1 - (h : Int)).toNat = iN12 := by omega
          have pa12 : (0 : Int) ≤ (mid : Int) + (m : Int) - 1 - (h : Int) := by omega
          have ba12 : (mid : Int) + (m : Int) - 1 - (h : Int) < (d.size : Int) := by omega
          have ra12 : IntKind.i64.wrap ((mid : Int) + (m : Int) - 1 - (h : Int)) = (mid : Int) + (m : Int) - 1 - (h : Int) := by rw [IntKind.wrap_i64]; omega
          have ec12 : ((h : Int)).toNat = jN12 := by omega
          have pc12 : (0 : Int) ≤ (h : Int) := by omega
          have bc12 : (h : Int) < (d.size : Int) := by omega
          have rc12 : IntKind.i64.wrap ((h : Int)) = (h : Int) := by rw [IntKind.wrap_i64]; omega
          obtain ⟨x12, hx12⟩ : ∃ x, x = d[mid + m - 1 - h]! := ⟨_, rfl⟩
          obtain ⟨y12, hy12⟩ : ∃ x, x = d[h]! := ⟨_, rfl⟩
          have KA12 : ∀ Y, PeIn (Go.Proofs.Ytppmjbnhghaffaa.ext wr Y) blk (iN12 * 10) x12 := fun Y => by rw [hiN12, hx12]; exact S1.out.cl (by omega) Y
          have KB12 : ∀ Y, PeIn (Go.Proofs.Ytppmjbnhghaffaa.ext wr Y) blk (jN12 * 10) y12 := fun Y => by rw [hjN12, hy12]; exact S1.out.cl (by omega) Y
          have la0 := fun y => (KA12 y).1; have la1 := fun y => (KA12 y).2.1; have la2 := fun y => (KA12 y).2.2.1; have la3 := fun y => (KA12 y).2.2.2.1; have la4 := fun y => (KA12 y).2.2.2.2.1; have la5 := fun y => (KA12 y).2.2.2.2.2.1; have la6 := fun y => (KA12 y).2.2.2.2.2.2.1; have la7 := fun y => (KA12 y).2.2.2.2.2.2.2.1; have la8 := fun y => (KA12 y).2.2.2.2.2.2.2.2.1; have la9 := fun y => (KA12 y).2.2.2.2.2.2.2.2.2
          have lb0 := fun y => (KB12 y).1; have lb1 := fun y => (KB12 y).2.1; have lb2 := fun y => (KB12 y).2.2.1; have lb3 := fun y => (KB12 y).2.2.2.1; have lb4 := fun y => (KB12 y).2.2.2.2.1; have lb5 := fun y => (KB12 y).2.2.2.2.2.1; have lb6 := fun y => (KB12 y).2.2.2.2.2.2.1; have lb7 := fun y => (KB12 y).2.2.2.2.2.2.2.1; have lb8 := fun y => (KB12 y).2.2.2.2.2.2.2.2.1; have lb9 := fun y => (KB12 y).2.2.2.2.2.2.2.2.2
          have hc12 := fun Y => HC.out (Go.Proofs.Ytppmjbnhghaffaa.ext wr Y) x12 y12
          have hv12 : ¬ cf x12 y12 < 0 := by rw [hx12, hy12]; exact of_decide_eq_false hlv
          have hd12 : decide (cf x12 y12 < 0) = false := decide_eq_false hv12
          clear hx12 hy12 hiN12 hjN12 KA12 KB12
          go_wp2_with fail
          refine wp_region_ext (by kernel_rfl) (by kernel_rfl) ?_
          repeat (go_big_quiet_step ((first | (go_at_fn g; with_reducible exact qe (hc12 _)))))
          refine wpQuiet_nil ?_
          intro _ hw'
          obtain ⟨gx, hw''⟩ := hw'
          subst hw''
          have S2 : Aside (SP base w0 blk cap d (Go.Proofs.Ytppmjbnhghaffaa.ext wr gx)) := S1.out.ext gx
          clear la0 la1 la2 la3 la4 la5 la6 la7 la8 la9 lb0 lb1 lb2 lb3 lb4 lb5 lb6 lb7 lb8 lb9 hc12 S1
          generalize Go.Proofs.Ytppmjbnhghaffaa.ext wr gx = w2 at S2 ⊢
          clear gx
          clear ea12 ec12
          go_wp2
          go_roundg (j - (h + 1))
          case measure => omega
          case rel => exact ⟨h + 1, j, by first | rfl | go_num | (congr 1; omega), rfl, by omega, by omega, by omega, Nat.le_refl _, S2, HB'⟩
    · obtain rfl : i = j := by omega
      have HR : Hid (bsr (fun c => !(ltOf cf) d[mid + m - 1 - c]! d[c]!) (b - a) (s0) (r0) = i) := by
        obtain ⟨q, hq, hb⟩ := HB.out
        show _ = _
        rw [← hb]; cases q with
        | zero => rfl
        | succ q => unfold bsr; rw [if_neg (by omega)]
      clear HB
      obtain ⟨e, he⟩ : ∃ e, e = mid + m - i := ⟨_, rfl⟩
      have ze : (mid : Int) + (m : Int) - (i : Int) = (e : Int) := by omega
      have HG := symM_gen (ltOf cf) f a m b d mid i e c1 c2 HM.out (HSt.out.trans HR.out) he
      have HE : Hid (e = mid + m - i) := he
      have q9 : m ≤ e ∧ e ≤ b := by omega
      obtain ⟨q10, q11⟩ := q9
      clear HSt HR hg1 he
      obtain ⟨D1, hD1⟩ : ∃ D, D = (if i < m ∧ m < e then rotA m (e - i) (m - i) (e - m) d else d) := ⟨_, rfl⟩
      obtain ⟨D2, hD2⟩ : ∃ D, D = (if a < i ∧ i < mid then symM (ltOf cf) f a i mid D1 else D1) := ⟨_, rfl⟩
      have sD1 : D1.size = d.size := by rw [hD1]; split <;> simp only [size_rotA]
      have sD2 : D2.size = d.size := by rw [hD2]; split <;> simp only [size_symM, sD1]
      rw [← hD1, ← hD2] at HG
      have HG' : Hid _ := HG
      have HD1 : Hid _ := hD1
      have HD2 : Hid _ := hD2
      clear HG hD1 hD2
      go_upto_region 39 with fail
      obtain ⟨y1, hy1⟩ : ∃ y, y = decide (i < m ∧ m < e) := ⟨_, rfl⟩
      have HY1 := Lib.hid hy1
      clear hy1
      go_cut [185] (fun s wx => s = .bool y1 ∧ wx = wr)
      case first =>
        as_aux_lemma =>
          by_cases u1 : (i : Int) < (m : Int)
          · go_wp2_with fail
            all_goals (go_meet; exact ⟨by rw [HY1.out]; first | (rw [decide_eq_true (by omega)]; done) | (rw [decide_eq_false (by omega)]; done) | (congr 1; rw [decide_eq_decide]; omega), rfl⟩)
          · go_wp2_with fail
            all_goals (go_meet; exact ⟨by rw [HY1.out, decide_eq_false (by omega)], rfl⟩)
      case rest =>
      obtain ⟨rfl, rfl⟩ := hcut
      go_at_K
      go_upto_if 185 with fail
      go_cut [] (fun wx => Aside (SP base w0 blk cap D1 wx))
      case first =>
        as_aux_lemma =>
          cases hyy : y1 with
          | true =>
            have b1 : i < m ∧ m < e := of_decide_eq_true (by rw [← HY1.out, hyy])
            have hr := rotate_p i m e g cb base blk cap d w0 wc S1.out b1.1 b1.2 (by omega) (by omega)
            have HD : Hid (D1 = rotA m (e - i) (m - i) (e - m) d) := by show _ = _; rw [HD1.out, if_pos b1]
            go_wp2_with (go_at_call 185; refine hr.mono ?_; rintro e1 w2 ⟨rfl, S2⟩)
            all_goals (go_meet; rw [HD.out]; exact S2)
          | false =>
            have b1 : ¬ (i < m ∧ m < e) := of_decide_eq_false (by rw [← HY1.out, hyy])
            have HD : Hid (D1 = d) := by show _ = _; rw [HD1.out, if_neg b1]
            go_wp2_with fail
            all_goals (go_meet; rw [HD.out]; exact S1)
      case rest =>
      clear S1
      have S1' := hcut
      clear hcut
      go_at_K
      go_upto_region 41 with fail
      obtain ⟨y2, hy2⟩ : ∃ y, y = decide (a < i ∧ i < mid) := ⟨_, rfl⟩
      have HY2 := Lib.hid hy2
      clear hy2
      go_cut [199] (fun s wx => s = .bool y2 ∧ wx = wc)
      case first =>
        as_aux_lemma =>
          by_cases u1 : (a : Int) < (i : Int)
          · go_wp2_with fail
            all_goals (go_meet; exact ⟨by rw [HY2.out]; first | (rw [decide_eq_true (by omega)]; done) | (rw [decide_eq_false (by omega)]; done) | (congr 1; rw [decide_eq_decide]; omega), rfl⟩)
          · go_wp2_with fail
            all_goals (go_meet; exact ⟨by rw [HY2.out, decide_eq_false (by omega)], rfl⟩)
      case rest =>
      obtain ⟨rfl, rfl⟩ := hcut
      go_at_K
      go_upto_if 199 with fail
      go_cut [] (fun wx => Aside (SP base w0 blk cap D2 wx))
      case first =>
        as_aux_lemma =>
          cases hyy : y2 with
          | true =>
            have b1 : a < i ∧ i < mid := of_decide_eq_true (by rw [← HY2.out, hyy])
            have hr := IH'.out a i mid D1 wc (by omega) S1'.out b1.1 b1.2 (by omega) (by omega)
            rw [sD1] at hr
            have HD : Hid (D2 = symM (ltOf cf) f a i mid D1) := by show _ = _; rw [HD2.out, if_pos b1]
            go_wp2_with (go_at_call 166; refine hr.mono ?_; rintro e1 w2 ⟨rfl, S2⟩)
            all_goals (go_meet; rw [HD.out]; exact S2)
          | false =>
            have b1 : ¬ (a < i ∧ i < mid) := of_decide_eq_false (by rw [← HY2.out, hyy])
            have HD : Hid (D2 = D1) := by show _ = _; rw [HD2.out, if_neg b1]
            go_wp2_with fail
            all_goals (go_meet; rw [HD.out]; exact S1')
      case rest =>
      clear S1'
      have S2' := hcut
      clear hcut
      go_at_K
      go_upto_region 43 with fail
      obtain ⟨y3, hy3⟩ : ∃ y, y = decide (mid < e ∧ e < b) := ⟨_, rfl⟩
      have HY3 := Lib.hid hy3
      clear hy3
      go_cut [213] (fun s wx => s = .bool y3 ∧ wx = wc)
      case first =>
        as_aux_lemma =>
          by_cases u1 : (mid : Int) < (e : Int)
          · go_wp2_with fail
            all_goals (go_meet; exact ⟨by rw [HY3.out]; first | (rw [decide_eq_true (by omega)]; done) | (rw [decide_eq_false (by omega)]; done) | (congr 1; rw [decide_eq_decide]; omega), rfl⟩)
          · go_wp2_with fail
            all_goals (go_meet; exact ⟨by rw [HY3.out, decide_eq_false (by omega)], rfl⟩)
      case rest =>
      obtain ⟨rfl, rfl⟩ := hcut
      go_at_K
      go_upto_if 213 with fail
      cases hyy : y3 with
      | true =>
        have b1 : mid < e ∧ e < b := of_decide_eq_true (by rw [← HY3.out, hyy])
        have hr := IH'.out mid e b D2 wc (by omega) S2'.out b1.1 b1.2 (by omega) (by omega)
        rw [sD2] at hr
        go_wp2_with (go_at_call 166; refine hr.mono ?_; rintro e1 w2 ⟨rfl, S3⟩)
        ((try simp only [Exit.inBlock, Exit.then]); first | refine bodyPost_end (results_none rfl _ _ _) rfl ?_ | refine bodyPost_ret (results_none rfl _ _ _) rfl ?_)
        exact ⟨rfl, by rw [HG'.out, if_pos b1]; exact S3⟩
      | false =>
        have b1 : ¬ (mid < e ∧ e < b) := of_decide_eq_false (by rw [← HY3.out, hyy])
        go_wp2_with fail
        ((try simp only [Exit.inBlock, Exit.then]); first | refine bodyPost_end (results_none rfl _ _ _) rfl ?_ | refine bodyPost_ret (results_none rfl _ _ _) rfl ?_)
        exact ⟨rfl, by rw [HG'.out, if_neg b1]; exact S2'.out⟩
end Go.Proofs.Ytppmjbnhghaffaa
