/- The law that addresses are told by their bits: two that are right, of as many bits. -/
import Derived.Test.YtecegljipjofmaaLawAddr
import Derived.Test.YtecegljipjofmaaPlAddrB
import Derived.BigGuardPart
import Derived.BigQuiet
namespace Go.Proofs.Ytecegljipjofmaa
open Go.RowKit

set_option maxRecDepth 100000 in
set_option maxHeartbeats 8000000 in
theorem addrBack_loop (a b : Ad) (fa : a.fits) (fb : b.fits) (s : ByteArray) (hsz : (s.size : Int) ≤ 1000) (hra : adRight a = true) (hrb : adRight b = true) (hbb : adBits a = adBits b) (w : World) (hc : Cpu w) : Calls Try.prog 9 #[.agg #[.bool a.v6, .int .u64 a.hi, .int .u64 a.lo], .agg #[.bool b.v6, .int .u64 b.hi, .int .u64 b.lo], .string s] w fun e w' => e = .returned (.bool true) ∧ Below w.heap.size w w' := by
  have HC := Lib.hid hc; clear hc
  have hp := fun w hc => adParse_any s w (by omega) hc
  have hgood := adParse_right s.data.toList
  have hbad := adParse_bad s.data.toList
  have hrf := adParse_fits s.data.toList
  generalize adParse s.data.toList = p at *
  obtain ⟨r, ok⟩ := p
  simp only at hgood hbad hrf
  have hRd := fun w => adRight_any r hrf w
  have HRa := fun w => adRight_any a fa w
  have HRb := fun w => adRight_any b fb w
  have HT := fun w => adText_any a fa w
  have htl : (adText a).length ≤ 1000 := by
    unfold adText
    split
    · split
      · have := v6text_len a.hi a.lo fa.1 fa.2; omega
      · rename_i hr hv
        unfold adRight at hr; rw [if_neg hv] at hr
        have := v4text_len a.lo (of_decide_eq_true hr).2; omega
    · first | (simp; done) | (exfalso; simp_all; done)
  have hp1 := fun w hc => adParse_any (bs (adText a)) w (by rw [bs_size]; omega) hc
  rw [bs_data] at hp1
  have HBa := Lib.hid (fun w => adBits_any a w)
  have HBb := Lib.hid (fun w => adBits_any b w)
  have hnb : adBits a = 128 ∨ adBits a = 32 := by unfold adBits; split <;> simp
  have hend := same_end a b fa fb
  have HBi := Lib.hid (fun i w => adBit_any a fa i w)
  have HBj := Lib.hid (fun i w => adBit_any b fb i w)
  have q0 := fun W => neqAd a a W
  have q1 := fun W => neqAd ⟨false, 0, 0⟩ ⟨false, 0, 0⟩ W
  have q2 := fun W => eqlAd a b W
  simp only [decide_true, Bool.not_true] at q0 q1
  have hend := hend hra hrb hbb
  rw [hra] at HRa
  rw [hrb] at HRb
  rw [adParse_text a fa hra] at hp1
  rw [← hbb] at HBb
  generalize adText a = t at *
  have HTx := Lib.hid HT; have HP1 := Lib.hid hp1; have HRa := Lib.hid HRa; have HRb := Lib.hid HRb
  clear HT hp1 htl hra hrb hbb
  generalize adBits a = nb at *
  have hqb : (nb != nb) = false := by simp
  have HEND := Lib.hid hend; clear hend
  have HQ2 := Lib.hid q2; clear q2
  cases ok with
  | true =>
    rw [hgood rfl] at hRd
    have HRd := Lib.hid hRd; have HP2 := Lib.hid hp; clear hRd hp hgood hbad
    go_enter Try.func9, Try.ntmps9
    go_wp2_with (first | (go_at_call 47; (with_reducible refine (HTx.out _).mono ?_); rintro e w1 ⟨rfl, b1⟩; obtain ⟨c1, f1⟩ := bcell b1; have z1 := b1.size; (try simp at z1); have d1 := fun o => c1 w.heap.size o (by first | omega | (simp; done) | (simp; omega)); have g1 := fun o => c1 (w.heap.size + 1) o (by first | omega | (simp; done) | (simp; omega)); (try have i1 := fun o => c1 w2.heap.size o (by first | omega | (simp; done) | (simp; omega))); (try have j1 := fun o => c1 w6.heap.size o (by first | omega | (simp; done) | (simp; omega))); clear c1 f1) | (go_at_call 46; (with_reducible refine (HP1.out _ (HC.out.below (by repeat (first | assumption | exact Below.refl _ _ | refine Below.alloc ?_ (by first | omega | (simp; done) | (simp; omega)) _ | refine Below.drew ?_ | (refine Below.trans ?_ (Below.mono (by assumption) (by first | omega | (simp; done) | (simp; omega)))))))).mono ?_); rintro e w2 ⟨rfl, b2⟩; obtain ⟨c2, f2⟩ := bcell b2; have z2 := b2.size; (try simp at z2); have d2 := fun o => c2 w.heap.size o (by first | omega | (simp; done) | (simp; omega)); have g2 := fun o => c2 (w.heap.size + 1) o (by first | omega | (simp; done) | (simp; omega));  have y2 : w.heap.size < w2.heap.size := (by omega); have x2 : Nat.succ w.heap.size < w2.heap.size := (by omega); have n2 := Nat.ne_of_lt y2; have m2 := Nat.ne_of_lt x2; clear c2 f2) | (go_at_call 48; (with_reducible refine (HRa.out _).mono ?_); rintro e w3 ⟨rfl, b3⟩; obtain ⟨c3, f3⟩ := bcell b3; have z3 := b3.size; (try simp at z3); have d3 := fun o => c3 w.heap.size o (by first | omega | (simp; done) | (simp; omega)); have g3 := fun o => c3 (w.heap.size + 1) o (by first | omega | (simp; done) | (simp; omega)); (try have i3 := fun o => c3 w2.heap.size o (by first | omega | (simp; done) | (simp; omega))); (try have j3 := fun o => c3 w6.heap.size o (by first | omega | (simp; done) | (simp; omega))); clear c3 f3) | (go_at_call 46; (with_reducible refine (HP2.out _ (HC.out.below (by repeat (first | assumption | exact Below.refl _ _ | refine Below.alloc ?_ (by first | omega | (simp; done) | (simp; omega)) _ | refine Below.drew ?_ | (refine Below.trans ?_ (Below.mono (by assumption) (by first | omega | (simp; done) | (simp; omega)))))))).mono ?_); rintro e w6 ⟨rfl, b6⟩; obtain ⟨c6, f6⟩ := bcell b6; have z6 := b6.size; (try simp at z6); have d6 := fun o => c6 w.heap.size o (by first | omega | (simp; done) | (simp; omega)); have g6 := fun o => c6 (w.heap.size + 1) o (by first | omega | (simp; done) | (simp; omega)); (try have i6 := fun o => c6 w2.heap.size o (by first | omega | (simp; done) | (simp; omega))); have y6 : w.heap.size < w6.heap.size := (by omega); have x6 : Nat.succ w.heap.size < w6.heap.size := (by omega); have n6 := Nat.ne_of_lt y6; have m6 := Nat.ne_of_lt x6; clear c6 f6) | (go_at_call 48; (with_reducible refine (HRd.out _).mono ?_); rintro e w7 ⟨rfl, b7⟩; obtain ⟨c7, f7⟩ := bcell b7; have z7 := b7.size; (try simp at z7); have d7 := fun o => c7 w.heap.size o (by first | omega | (simp; done) | (simp; omega)); have g7 := fun o => c7 (w.heap.size + 1) o (by first | omega | (simp; done) | (simp; omega)); (try have i7 := fun o => c7 w2.heap.size o (by first | omega | (simp; done) | (simp; omega))); (try have j7 := fun o => c7 w6.heap.size o (by first | omega | (simp; done) | (simp; omega))); clear c7 f7) | (go_at_call 48; (with_reducible refine (HRb.out _).mono ?_); rintro e w8 ⟨rfl, b8⟩; obtain ⟨c8, f8⟩ := bcell b8; have z8 := b8.size; (try simp at z8); have d8 := fun o => c8 w.heap.size o (by first | omega | (simp; done) | (simp; omega)); have g8 := fun o => c8 (w.heap.size + 1) o (by first | omega | (simp; done) | (simp; omega));  clear c8 f8) | (go_at_call 49; (with_reducible refine (HBa.out _).mono ?_); rintro e w9 ⟨rfl, b9⟩; obtain ⟨c9, f9⟩ := bcell b9; have z9 := b9.size; (try simp at z9); have d9 := fun o => c9 w.heap.size o (by first | omega | (simp; done) | (simp; omega)); have g9 := fun o => c9 (w.heap.size + 1) o (by first | omega | (simp; done) | (simp; omega));  clear c9 f9) | (go_at_call 49; (with_reducible refine (HBb.out _).mono ?_); rintro e w10 ⟨rfl, b10⟩; obtain ⟨c10, f10⟩ := bcell b10; have z10 := b10.size; (try simp at z10); have d10 := fun o => c10 w.heap.size o (by first | omega | (simp; done) | (simp; omega)); have g10 := fun o => c10 (w.heap.size + 1) o (by first | omega | (simp; done) | (simp; omega));  clear c10 f10) | (go_at_call 45; refine (awake06_any _ (HC.out.below (by repeat (first | assumption | exact Below.refl _ _ | refine Below.alloc ?_ (by first | omega | (simp; done) | (simp; omega)) _ | refine Below.drew ?_ | (refine Below.trans ?_ (Below.mono (by assumption) (by first | omega | (simp; done) | (simp; omega)))))))).mono ?_; rintro e w13 ⟨rfl, b13⟩))
    first | go_region_held3 (fun w' => w'.cell? ⟨w.heap.size, 0, none⟩ = some (.bool a.v6) ∧ w'.cell? ⟨w.heap.size, 1, none⟩ = some (.int .u64 a.hi) ∧ w'.cell? ⟨w.heap.size, 2, none⟩ = some (.int .u64 a.lo) ∧ w'.cell? ⟨w.heap.size + 1, 0, none⟩ = some (.bool b.v6) ∧ w'.cell? ⟨w.heap.size + 1, 1, none⟩ = some (.int .u64 b.hi) ∧ w'.cell? ⟨w.heap.size + 1, 2, none⟩ = some (.int .u64 b.lo)) (first | go_keep | (simp (disch := omega) [*])) (first | (go_at_call 48; (with_reducible refine (HRa.out _).mono ?_); rintro e w3 ⟨rfl, b3⟩; obtain ⟨c3, f3⟩ := bcell b3; have z3 := b3.size; (try simp at z3); have d3 := fun o => c3 w.heap.size o (by first | omega | (simp; done) | (simp; omega)); have g3 := fun o => c3 (w.heap.size + 1) o (by first | omega | (simp; done) | (simp; omega)); (try have i3 := fun o => c3 w2.heap.size o (by first | omega | (simp; done) | (simp; omega))); (try have j3 := fun o => c3 w6.heap.size o (by first | omega | (simp; done) | (simp; omega))); clear c3 f3) | (go_at_call 48; (with_reducible refine (HRb.out _).mono ?_); rintro e w8 ⟨rfl, b8⟩; obtain ⟨c8, f8⟩ := bcell b8; have z8 := b8.size; (try simp at z8); have d8 := fun o => c8 w.heap.size o (by first | omega | (simp; done) | (simp; omega)); have g8 := fun o => c8 (w.heap.size + 1) o (by first | omega | (simp; done) | (simp; omega));  clear c8 f8) | (go_at_call 49; (with_reducible refine (HBa.out _).mono ?_); rintro e w9 ⟨rfl, b9⟩; obtain ⟨c9, f9⟩ := bcell b9; have z9 := b9.size; (try simp at z9); have d9 := fun o => c9 w.heap.size o (by first | omega | (simp; done) | (simp; omega)); have g9 := fun o => c9 (w.heap.size + 1) o (by first | omega | (simp; done) | (simp; omega));  clear c9 f9) | (go_at_call 49; (with_reducible refine (HBb.out _).mono ?_); rintro e w10 ⟨rfl, b10⟩; obtain ⟨c10, f10⟩ := bcell b10; have z10 := b10.size; (try simp at z10); have d10 := fun o => c10 w.heap.size o (by first | omega | (simp; done) | (simp; omega)); have g10 := fun o => c10 (w.heap.size + 1) o (by first | omega | (simp; done) | (simp; omega));  clear c10 f10)) | fail
    rename_i hh
    obtain ⟨p0, p1, p2, p3, p4, p5⟩ := hh
    have BW : Below w.heap.size w w10 := by
      repeat (first | assumption | exact Below.refl _ _ | refine Below.alloc ?_ (by first | omega | (simp; done) | (simp; omega)) _ | refine Below.drew ?_ | (refine Below.trans ?_ (Below.mono (by assumption) (by first | omega | (simp; done) | (simp; omega)))))
    have zw : w.heap.size + 1 < w10.heap.size := by omega
    have nb0 : (0 : Int) ≤ nb ∧ nb ≤ 128 := by omega
    obtain ⟨nb0, nb1⟩ := nb0
    (try clear b1); (try clear b2); (try clear b6); (try clear b7); (try clear b3); (try clear b8); (try clear b9); (try clear b10); (try clear z1); (try clear z2); (try clear z6); (try clear z7); (try clear z3); (try clear z8); (try clear z9); (try clear z10); (try clear d2); (try clear d6); (try clear d7); (try clear d3); (try clear d8); (try clear d9); (try clear d10); (try clear g2); (try clear g6); (try clear g7); (try clear g3); (try clear g8); (try clear g9); (try clear g10); (try clear i6); (try clear i7); (try clear i3); (try clear j7); (try clear j3)
    clear HTx HP1 HRa HRb HRd HP2 q0 q1
    repeat (first | clear d1 | clear g1 | clear i1)
    go_wp2_with fail
    go_loopw [11, 12] (fun x y wr => ∃ k : Nat, y = .int .i64 k ∧ (k : Int) ≤ nb ∧ x = .bool (sameK a b k) ∧ Below w10.heap.size w10 wr) (fun _ y _ => 128 - (intOf y).toNat)
    case atStart => exact ⟨0, rfl, nb0, rfl, Below.refl _ _⟩
    case round =>
      obtain ⟨k, rfl, hk, rfl, hbw⟩ := hrel
      have p0 := keep hbw (by omega) p0
      have p1 := keep hbw (by omega) p1
      have p2 := keep hbw (by omega) p2
      have p3 := keep hbw (by omega) p3
      have p4 := keep hbw (by omega) p4
      have p5 := keep hbw (by omega) p5
      have zwr : w.heap.size + 1 < wr.heap.size := by have := hbw.size; omega
      have nwr : w.heap.size < wr.heap.size := by omega
      have k2 : k < 128 ∨ ¬ k < 128 := by omega
      by_cases hlt : (k : Int) < nb
      · have hk8 : (k : Int) < 128 := by omega
        have hdk : decide ((k : Int) < nb) = true := decide_eq_true hlt
        have hdk2 : decide (k < 128) = true := decide_eq_true (by omega)
        have hsucc := sameK_succ a b k
        have HBik := Lib.hid (fun w => HBi.out k w)
        have HBjk := Lib.hid (fun w => HBj.out k w)
        generalize adBit a (k : Int) = x at *
        generalize adBit b (k : Int) = y at *
        cases hs : sameK a b k with
        | false =>
          rw [hs, Bool.false_and] at hsucc
          have HSU := Lib.hid hsucc; clear hsucc
          go_wp2_with (go_at_call 49; (with_reducible refine (HBa.out _).mono ?_); rintro e w11 ⟨rfl, b11⟩; obtain ⟨c11, f11⟩ := bcell b11; have z11 := b11.size; (try simp at z11); have d11 := fun o => c11 w.heap.size o (by first | omega | (simp; done) | (simp; omega)); have g11 := fun o => c11 (w.heap.size + 1) o (by first | omega | (simp; done) | (simp; omega)); clear c11 f11)
          have e0 := fun y => (ext_cell w11 y (p := ⟨w.heap.size, 0, none⟩) (by simp only; omega)).trans ((d11 0).trans p0)
          have e1 := fun y => (ext_cell w11 y (p := ⟨w.heap.size, 1, none⟩) (by simp only; omega)).trans ((d11 1).trans p1)
          have e2 := fun y => (ext_cell w11 y (p := ⟨w.heap.size, 2, none⟩) (by simp only; omega)).trans ((d11 2).trans p2)
          have e3 := fun y => (ext_cell w11 y (p := ⟨w.heap.size + 1, 0, none⟩) (by simp only; omega)).trans ((g11 0).trans p3)
          have e4 := fun y => (ext_cell w11 y (p := ⟨w.heap.size + 1, 1, none⟩) (by simp only; omega)).trans ((g11 1).trans p4)
          have e5 := fun y => (ext_cell w11 y (p := ⟨w.heap.size + 1, 2, none⟩) (by simp only; omega)).trans ((g11 2).trans p5)
          refine wp_region_ext (by kernel_rfl) (by kernel_rfl) ?_
          repeat (go_big_quiet_step ((first | (go_at_call 50; with_reducible exact qe (HBik.out _)) | (go_at_call 50; with_reducible exact qe (HBjk.out _)))))
          refine wpQuiet_nil ?_
          intro _ hw'
          obtain ⟨y, hw''⟩ := hw'
          subst hw''
          clear e0 e1 e2 e3 e4 e5
          have hb2 := below2 (below2 hbw b11) (ext_below w11 y)
          go_wp2_with fail
          go_roundw
          case rel => exact ⟨k + 1, by go_num, by omega, by rw [HSU.out], hb2⟩
          case measure => simp [intOf]; omega
        | true =>
          rw [hs, Bool.true_and] at hsucc
          have HSU := Lib.hid hsucc; clear hsucc
          have hxy : ((x : Int) == (y : Int)) = decide (x = y) := by
            rw [Bool.eq_iff_iff, beq_iff_eq, decide_eq_true_iff]; omega
          go_wp2_with (go_at_call 49; (with_reducible refine (HBa.out _).mono ?_); rintro e w11 ⟨rfl, b11⟩; obtain ⟨c11, f11⟩ := bcell b11; have z11 := b11.size; (try simp at z11); have d11 := fun o => c11 w.heap.size o (by first | omega | (simp; done) | (simp; omega)); have g11 := fun o => c11 (w.heap.size + 1) o (by first | omega | (simp; done) | (simp; omega)); clear c11 f11)
          have e0 := fun y => (ext_cell w11 y (p := ⟨w.heap.size, 0, none⟩) (by simp only; omega)).trans ((d11 0).trans p0)
          have e1 := fun y => (ext_cell w11 y (p := ⟨w.heap.size, 1, none⟩) (by simp only; omega)).trans ((d11 1).trans p1)
          have e2 := fun y => (ext_cell w11 y (p := ⟨w.heap.size, 2, none⟩) (by simp only; omega)).trans ((d11 2).trans p2)
          have e3 := fun y => (ext_cell w11 y (p := ⟨w.heap.size + 1, 0, none⟩) (by simp only; omega)).trans ((g11 0).trans p3)
          have e4 := fun y => (ext_cell w11 y (p := ⟨w.heap.size + 1, 1, none⟩) (by simp only; omega)).trans ((g11 1).trans p4)
          have e5 := fun y => (ext_cell w11 y (p := ⟨w.heap.size + 1, 2, none⟩) (by simp only; omega)).trans ((g11 2).trans p5)
          refine wp_region_ext (by kernel_rfl) (by kernel_rfl) ?_
          repeat (go_big_quiet_step ((first | (go_at_call 50; with_reducible exact qe (HBik.out _)) | (go_at_call 50; with_reducible exact qe (HBjk.out _)))))
          refine wpQuiet_nil ?_
          intro _ hw'
          obtain ⟨y, hw''⟩ := hw'
          subst hw''
          clear e0 e1 e2 e3 e4 e5
          have hb2 := below2 (below2 hbw b11) (ext_below w11 y)
          go_wp2_with fail
          go_roundw
          case rel => exact ⟨k + 1, by go_num, by omega, by rw [HSU.out], hb2⟩
          case measure => simp [intOf]; omega
      · have hdk : decide ((k : Int) < nb) = false := decide_eq_false hlt
        have HE := HEND.out k (by omega)
        have q2 := HQ2.out
        rw [← HE] at q2
        generalize sameK a b k = v at *
        have hvv : (v == v) = true := by simp
        go_wp2_with (first | (go_at_call 49; (with_reducible refine (HBa.out _).mono ?_); rintro e w11 ⟨rfl, b11⟩; obtain ⟨c11, f11⟩ := bcell b11; have z11 := b11.size; (try simp at z11); have d11 := fun o => c11 w.heap.size o (by first | omega | (simp; done) | (simp; omega)); have g11 := fun o => c11 (w.heap.size + 1) o (by first | omega | (simp; done) | (simp; omega)); clear c11 f11) | (go_at_call 45; refine (awake06_any _ (HC.out.below (by repeat (first | assumption | exact Below.refl _ _ | refine Below.alloc ?_ (by first | omega | (simp; done) | (simp; omega)) _ | refine Below.drew ?_ | (refine Below.trans ?_ (Below.mono (by assumption) (by first | omega | (simp; done) | (simp; omega)))))))).mono ?_; rintro e w13 ⟨rfl, b13⟩))
        go_ret
        refine ⟨rfl, ?_⟩
        have hbw2 := BW.trans (hbw.mono (show w.heap.size ≤ w10.heap.size from by omega))
        repeat (first | assumption | exact Below.refl _ _ | refine Below.alloc ?_ (by first | omega | (simp; done) | (simp; omega)) _ | refine Below.drew ?_ | (refine Below.trans ?_ (Below.mono (by assumption) (by first | omega | (simp; done) | (simp; omega)))))
  | false =>
    obtain rfl := hbad rfl
    have HRd := Lib.hid hRd; have HP2 := Lib.hid hp; clear hRd hp hgood hbad
    go_enter Try.func9, Try.ntmps9
    go_wp2_with (first | (go_at_call 47; (with_reducible refine (HTx.out _).mono ?_); rintro e w1 ⟨rfl, b1⟩; obtain ⟨c1, f1⟩ := bcell b1; have z1 := b1.size; (try simp at z1); have d1 := fun o => c1 w.heap.size o (by first | omega | (simp; done) | (simp; omega)); have g1 := fun o => c1 (w.heap.size + 1) o (by first | omega | (simp; done) | (simp; omega)); (try have i1 := fun o => c1 w2.heap.size o (by first | omega | (simp; done) | (simp; omega))); (try have j1 := fun o => c1 w6.heap.size o (by first | omega | (simp; done) | (simp; omega))); clear c1 f1) | (go_at_call 46; (with_reducible refine (HP1.out _ (HC.out.below (by repeat (first | assumption | exact Below.refl _ _ | refine Below.alloc ?_ (by first | omega | (simp; done) | (simp; omega)) _ | refine Below.drew ?_ | (refine Below.trans ?_ (Below.mono (by assumption) (by first | omega | (simp; done) | (simp; omega)))))))).mono ?_); rintro e w2 ⟨rfl, b2⟩; obtain ⟨c2, f2⟩ := bcell b2; have z2 := b2.size; (try simp at z2); have d2 := fun o => c2 w.heap.size o (by first | omega | (simp; done) | (simp; omega)); have g2 := fun o => c2 (w.heap.size + 1) o (by first | omega | (simp; done) | (simp; omega));  have y2 : w.heap.size < w2.heap.size := (by omega); have x2 : Nat.succ w.heap.size < w2.heap.size := (by omega); have n2 := Nat.ne_of_lt y2; have m2 := Nat.ne_of_lt x2; clear c2 f2) | (go_at_call 48; (with_reducible refine (HRa.out _).mono ?_); rintro e w3 ⟨rfl, b3⟩; obtain ⟨c3, f3⟩ := bcell b3; have z3 := b3.size; (try simp at z3); have d3 := fun o => c3 w.heap.size o (by first | omega | (simp; done) | (simp; omega)); have g3 := fun o => c3 (w.heap.size + 1) o (by first | omega | (simp; done) | (simp; omega)); (try have i3 := fun o => c3 w2.heap.size o (by first | omega | (simp; done) | (simp; omega))); (try have j3 := fun o => c3 w6.heap.size o (by first | omega | (simp; done) | (simp; omega))); clear c3 f3) | (go_at_call 46; (with_reducible refine (HP2.out _ (HC.out.below (by repeat (first | assumption | exact Below.refl _ _ | refine Below.alloc ?_ (by first | omega | (simp; done) | (simp; omega)) _ | refine Below.drew ?_ | (refine Below.trans ?_ (Below.mono (by assumption) (by first | omega | (simp; done) | (simp; omega)))))))).mono ?_); rintro e w6 ⟨rfl, b6⟩; obtain ⟨c6, f6⟩ := bcell b6; have z6 := b6.size; (try simp at z6); have d6 := fun o => c6 w.heap.size o (by first | omega | (simp; done) | (simp; omega)); have g6 := fun o => c6 (w.heap.size + 1) o (by first | omega | (simp; done) | (simp; omega)); (try have i6 := fun o => c6 w2.heap.size o (by first | omega | (simp; done) | (simp; omega))); have y6 : w.heap.size < w6.heap.size := (by omega); have x6 : Nat.succ w.heap.size < w6.heap.size := (by omega); have n6 := Nat.ne_of_lt y6; have m6 := Nat.ne_of_lt x6; clear c6 f6) | (go_at_call 48; (with_reducible refine (HRd.out _).mono ?_); rintro e w7 ⟨rfl, b7⟩; obtain ⟨c7, f7⟩ := bcell b7; have z7 := b7.size; (try simp at z7); have d7 := fun o => c7 w.heap.size o (by first | omega | (simp; done) | (simp; omega)); have g7 := fun o => c7 (w.heap.size + 1) o (by first | omega | (simp; done) | (simp; omega)); (try have i7 := fun o => c7 w2.heap.size o (by first | omega | (simp; done) | (simp; omega))); (try have j7 := fun o => c7 w6.heap.size o (by first | omega | (simp; done) | (simp; omega))); clear c7 f7) | (go_at_call 48; (with_reducible refine (HRb.out _).mono ?_); rintro e w8 ⟨rfl, b8⟩; obtain ⟨c8, f8⟩ := bcell b8; have z8 := b8.size; (try simp at z8); have d8 := fun o => c8 w.heap.size o (by first | omega | (simp; done) | (simp; omega)); have g8 := fun o => c8 (w.heap.size + 1) o (by first | omega | (simp; done) | (simp; omega));  clear c8 f8) | (go_at_call 49; (with_reducible refine (HBa.out _).mono ?_); rintro e w9 ⟨rfl, b9⟩; obtain ⟨c9, f9⟩ := bcell b9; have z9 := b9.size; (try simp at z9); have d9 := fun o => c9 w.heap.size o (by first | omega | (simp; done) | (simp; omega)); have g9 := fun o => c9 (w.heap.size + 1) o (by first | omega | (simp; done) | (simp; omega));  clear c9 f9) | (go_at_call 49; (with_reducible refine (HBb.out _).mono ?_); rintro e w10 ⟨rfl, b10⟩; obtain ⟨c10, f10⟩ := bcell b10; have z10 := b10.size; (try simp at z10); have d10 := fun o => c10 w.heap.size o (by first | omega | (simp; done) | (simp; omega)); have g10 := fun o => c10 (w.heap.size + 1) o (by first | omega | (simp; done) | (simp; omega));  clear c10 f10) | (go_at_call 45; refine (awake06_any _ (HC.out.below (by repeat (first | assumption | exact Below.refl _ _ | refine Below.alloc ?_ (by first | omega | (simp; done) | (simp; omega)) _ | refine Below.drew ?_ | (refine Below.trans ?_ (Below.mono (by assumption) (by first | omega | (simp; done) | (simp; omega)))))))).mono ?_; rintro e w13 ⟨rfl, b13⟩))
    first | go_region_held3 (fun w' => w'.cell? ⟨w.heap.size, 0, none⟩ = some (.bool a.v6) ∧ w'.cell? ⟨w.heap.size, 1, none⟩ = some (.int .u64 a.hi) ∧ w'.cell? ⟨w.heap.size, 2, none⟩ = some (.int .u64 a.lo) ∧ w'.cell? ⟨w.heap.size + 1, 0, none⟩ = some (.bool b.v6) ∧ w'.cell? ⟨w.heap.size + 1, 1, none⟩ = some (.int .u64 b.hi) ∧ w'.cell? ⟨w.heap.size + 1, 2, none⟩ = some (.int .u64 b.lo)) (first | go_keep | (simp (disch := omega) [*])) (first | (go_at_call 48; (with_reducible refine (HRa.out _).mono ?_); rintro e w3 ⟨rfl, b3⟩; obtain ⟨c3, f3⟩ := bcell b3; have z3 := b3.size; (try simp at z3); have d3 := fun o => c3 w.heap.size o (by first | omega | (simp; done) | (simp; omega)); have g3 := fun o => c3 (w.heap.size + 1) o (by first | omega | (simp; done) | (simp; omega)); (try have i3 := fun o => c3 w2.heap.size o (by first | omega | (simp; done) | (simp; omega))); (try have j3 := fun o => c3 w6.heap.size o (by first | omega | (simp; done) | (simp; omega))); clear c3 f3) | (go_at_call 48; (with_reducible refine (HRb.out _).mono ?_); rintro e w8 ⟨rfl, b8⟩; obtain ⟨c8, f8⟩ := bcell b8; have z8 := b8.size; (try simp at z8); have d8 := fun o => c8 w.heap.size o (by first | omega | (simp; done) | (simp; omega)); have g8 := fun o => c8 (w.heap.size + 1) o (by first | omega | (simp; done) | (simp; omega));  clear c8 f8) | (go_at_call 49; (with_reducible refine (HBa.out _).mono ?_); rintro e w9 ⟨rfl, b9⟩; obtain ⟨c9, f9⟩ := bcell b9; have z9 := b9.size; (try simp at z9); have d9 := fun o => c9 w.heap.size o (by first | omega | (simp; done) | (simp; omega)); have g9 := fun o => c9 (w.heap.size + 1) o (by first | omega | (simp; done) | (simp; omega));  clear c9 f9) | (go_at_call 49; (with_reducible refine (HBb.out _).mono ?_); rintro e w10 ⟨rfl, b10⟩; obtain ⟨c10, f10⟩ := bcell b10; have z10 := b10.size; (try simp at z10); have d10 := fun o => c10 w.heap.size o (by first | omega | (simp; done) | (simp; omega)); have g10 := fun o => c10 (w.heap.size + 1) o (by first | omega | (simp; done) | (simp; omega));  clear c10 f10)) | fail
    rename_i hh
    obtain ⟨p0, p1, p2, p3, p4, p5⟩ := hh
    have BW : Below w.heap.size w w10 := by
      repeat (first | assumption | exact Below.refl _ _ | refine Below.alloc ?_ (by first | omega | (simp; done) | (simp; omega)) _ | refine Below.drew ?_ | (refine Below.trans ?_ (Below.mono (by assumption) (by first | omega | (simp; done) | (simp; omega)))))
    have zw : w.heap.size + 1 < w10.heap.size := by omega
    have nb0 : (0 : Int) ≤ nb ∧ nb ≤ 128 := by omega
    obtain ⟨nb0, nb1⟩ := nb0
    (try clear b1); (try clear b2); (try clear b6); (try clear b7); (try clear b3); (try clear b8); (try clear b9); (try clear b10); (try clear z1); (try clear z2); (try clear z6); (try clear z7); (try clear z3); (try clear z8); (try clear z9); (try clear z10); (try clear d2); (try clear d6); (try clear d7); (try clear d3); (try clear d8); (try clear d9); (try clear d10); (try clear g2); (try clear g6); (try clear g7); (try clear g3); (try clear g8); (try clear g9); (try clear g10); (try clear i6); (try clear i7); (try clear i3); (try clear j7); (try clear j3)
    clear HTx HP1 HRa HRb HRd HP2 q0 q1
    repeat (first | clear d1 | clear g1 | clear i1)
    go_wp2_with fail
    go_loopw [11, 12] (fun x y wr => ∃ k : Nat, y = .int .i64 k ∧ (k : Int) ≤ nb ∧ x = .bool (sameK a b k) ∧ Below w10.heap.size w10 wr) (fun _ y _ => 128 - (intOf y).toNat)
    case atStart => exact ⟨0, rfl, nb0, rfl, Below.refl _ _⟩
    case round =>
      obtain ⟨k, rfl, hk, rfl, hbw⟩ := hrel
      have p0 := keep hbw (by omega) p0
      have p1 := keep hbw (by omega) p1
      have p2 := keep hbw (by omega) p2
      have p3 := keep hbw (by omega) p3
      have p4 := keep hbw (by omega) p4
      have p5 := keep hbw (by omega) p5
      have zwr : w.heap.size + 1 < wr.heap.size := by have := hbw.size; omega
      have nwr : w.heap.size < wr.heap.size := by omega
      have k2 : k < 128 ∨ ¬ k < 128 := by omega
      by_cases hlt : (k : Int) < nb
      · have hk8 : (k : Int) < 128 := by omega
        have hdk : decide ((k : Int) < nb) = true := decide_eq_true hlt
        have hdk2 : decide (k < 128) = true := decide_eq_true (by omega)
        have hsucc := sameK_succ a b k
        have HBik := Lib.hid (fun w => HBi.out k w)
        have HBjk := Lib.hid (fun w => HBj.out k w)
        generalize adBit a (k : Int) = x at *
        generalize adBit b (k : Int) = y at *
        cases hs : sameK a b k with
        | false =>
          rw [hs, Bool.false_and] at hsucc
          have HSU := Lib.hid hsucc; clear hsucc
          go_wp2_with (go_at_call 49; (with_reducible refine (HBa.out _).mono ?_); rintro e w11 ⟨rfl, b11⟩; obtain ⟨c11, f11⟩ := bcell b11; have z11 := b11.size; (try simp at z11); have d11 := fun o => c11 w.heap.size o (by first | omega | (simp; done) | (simp; omega)); have g11 := fun o => c11 (w.heap.size + 1) o (by first | omega | (simp; done) | (simp; omega)); clear c11 f11)
          have e0 := fun y => (ext_cell w11 y (p := ⟨w.heap.size, 0, none⟩) (by simp only; omega)).trans ((d11 0).trans p0)
          have e1 := fun y => (ext_cell w11 y (p := ⟨w.heap.size, 1, none⟩) (by simp only; omega)).trans ((d11 1).trans p1)
          have e2 := fun y => (ext_cell w11 y (p := ⟨w.heap.size, 2, none⟩) (by simp only; omega)).trans ((d11 2).trans p2)
          have e3 := fun y => (ext_cell w11 y (p := ⟨w.heap.size + 1, 0, none⟩) (by simp only; omega)).trans ((g11 0).trans p3)
          have e4 := fun y => (ext_cell w11 y (p := ⟨w.heap.size + 1, 1, none⟩) (by simp only; omega)).trans ((g11 1).trans p4)
          have e5 := fun y => (ext_cell w11 y (p := ⟨w.heap.size + 1, 2, none⟩) (by simp only; omega)).trans ((g11 2).trans p5)
          refine wp_region_ext (by kernel_rfl) (by kernel_rfl) ?_
          repeat (go_big_quiet_step ((first | (go_at_call 50; with_reducible exact qe (HBik.out _)) | (go_at_call 50; with_reducible exact qe (HBjk.out _)))))
          refine wpQuiet_nil ?_
          intro _ hw'
          obtain ⟨y, hw''⟩ := hw'
          subst hw''
          clear e0 e1 e2 e3 e4 e5
          have hb2 := below2 (below2 hbw b11) (ext_below w11 y)
          go_wp2_with fail
          go_roundw
          case rel => exact ⟨k + 1, by go_num, by omega, by rw [HSU.out], hb2⟩
          case measure => simp [intOf]; omega
        | true =>
          rw [hs, Bool.true_and] at hsucc
          have HSU := Lib.hid hsucc; clear hsucc
          have hxy : ((x : Int) == (y : Int)) = decide (x = y) := by
            rw [Bool.eq_iff_iff, beq_iff_eq, decide_eq_true_iff]; omega
          go_wp2_with (go_at_call 49; (with_reducible refine (HBa.out _).mono ?_); rintro e w11 ⟨rfl, b11⟩; obtain ⟨c11, f11⟩ := bcell b11; have z11 := b11.size; (try simp at z11); have d11 := fun o => c11 w.heap.size o (by first | omega | (simp; done) | (simp; omega)); have g11 := fun o => c11 (w.heap.size + 1) o (by first | omega | (simp; done) | (simp; omega)); clear c11 f11)
          have e0 := fun y => (ext_cell w11 y (p := ⟨w.heap.size, 0, none⟩) (by simp only; omega)).trans ((d11 0).trans p0)
          have e1 := fun y => (ext_cell w11 y (p := ⟨w.heap.size, 1, none⟩) (by simp only; omega)).trans ((d11 1).trans p1)
          have e2 := fun y => (ext_cell w11 y (p := ⟨w.heap.size, 2, none⟩) (by simp only; omega)).trans ((d11 2).trans p2)
          have e3 := fun y => (ext_cell w11 y (p := ⟨w.heap.size + 1, 0, none⟩) (by simp only; omega)).trans ((g11 0).trans p3)
          have e4 := fun y => (ext_cell w11 y (p := ⟨w.heap.size + 1, 1, none⟩) (by simp only; omega)).trans ((g11 1).trans p4)
          have e5 := fun y => (ext_cell w11 y (p := ⟨w.heap.size + 1, 2, none⟩) (by simp only; omega)).trans ((g11 2).trans p5)
          refine wp_region_ext (by kernel_rfl) (by kernel_rfl) ?_
          repeat (go_big_quiet_step ((first | (go_at_call 50; with_reducible exact qe (HBik.out _)) | (go_at_call 50; with_reducible exact qe (HBjk.out _)))))
          refine wpQuiet_nil ?_
          intro _ hw'
          obtain ⟨y, hw''⟩ := hw'
          subst hw''
          clear e0 e1 e2 e3 e4 e5
          have hb2 := below2 (below2 hbw b11) (ext_below w11 y)
          go_wp2_with fail
          go_roundw
          case rel => exact ⟨k + 1, by go_num, by omega, by rw [HSU.out], hb2⟩
          case measure => simp [intOf]; omega
      · have hdk : decide ((k : Int) < nb) = false := decide_eq_false hlt
        have HE := HEND.out k (by omega)
        have q2 := HQ2.out
        rw [← HE] at q2
        generalize sameK a b k = v at *
        have hvv : (v == v) = true := by simp
        go_wp2_with (first | (go_at_call 49; (with_reducible refine (HBa.out _).mono ?_); rintro e w11 ⟨rfl, b11⟩; obtain ⟨c11, f11⟩ := bcell b11; have z11 := b11.size; (try simp at z11); have d11 := fun o => c11 w.heap.size o (by first | omega | (simp; done) | (simp; omega)); have g11 := fun o => c11 (w.heap.size + 1) o (by first | omega | (simp; done) | (simp; omega)); clear c11 f11) | (go_at_call 45; refine (awake06_any _ (HC.out.below (by repeat (first | assumption | exact Below.refl _ _ | refine Below.alloc ?_ (by first | omega | (simp; done) | (simp; omega)) _ | refine Below.drew ?_ | (refine Below.trans ?_ (Below.mono (by assumption) (by first | omega | (simp; done) | (simp; omega)))))))).mono ?_; rintro e w13 ⟨rfl, b13⟩))
        go_ret
        refine ⟨rfl, ?_⟩
        have hbw2 := BW.trans (hbw.mono (show w.heap.size ≤ w10.heap.size from by omega))
        repeat (first | assumption | exact Below.refl _ _ | refine Below.alloc ?_ (by first | omega | (simp; done) | (simp; omega)) _ | refine Below.drew ?_ | (refine Below.trans ?_ (Below.mono (by assumption) (by first | omega | (simp; done) | (simp; omega)))))
end Go.Proofs.Ytecegljipjofmaa
