/- The law that tells of addresses. -/
import Derived.Test.YtbpjhikbgnbkaaaLawAddr
import Derived.Test.YtbpjhikbgnbkaaaLawIp6T
namespace Go.Proofs.Ytbpjhikbgnbkaaa
open Go.RowKit

set_option maxRecDepth 100000 in
set_option maxHeartbeats 8000000 in
theorem addrTells_any (a : Ad) (hf : a.fits) (s : ByteArray) (i : Int) (w : World) (hc : Cpu w) : Calls Try.prog 11 #[.agg #[.bool a.v6, .int .u64 a.hi, .int .u64 a.lo], .string s, .int .i64 i] w fun e w' => e = .returned (.bool true) ∧ Below w.heap.size w w' := by
  have HC := Lib.hid hc; clear hc
  by_cases hl : 1000 < (s.size : Int)
  · have C1 := HC.out.below ((Below.refl _ _).alloc (Nat.le_refl _) (.cells #[.bool a.v6, .int .u64 a.hi, .int .u64 a.lo] 48))
    go_enter Try.func11, Try.ntmps11
    go_wp2_with (first | (go_at_call 35; refine (awake06_any _ C1).mono ?_; rintro e w5 ⟨rfl, b5⟩))
    go_ret
    exact ⟨rfl, Below.trans ((Below.refl _ _).alloc (Nat.le_refl _) _) (b5.mono (by simp))⟩
  have hp := fun w hc => adParse_any s w (by omega) hc
  have hp2 := fun w => refAdParse_any s w (by omega)
  have HRi := Lib.hid (fun w => adRight_any a hf w)
  have HRr := Lib.hid (fun w => refAdRight_any a hf w)
  have hT := fun w => adText_any a hf w
  have hT2 := fun w => refAdText_any a hf w
  have HBs := Lib.hid (fun w => adBits_any a w)
  have HBr := Lib.hid (fun w => refAdBits_any a w)
  have HBi := Lib.hid (fun w => adBit_any a hf i w)
  have HBj := Lib.hid (fun w => refAdBit_any a hf i w)
  have HV := Lib.hid (fun w => adV6_any a.hi a.lo hf.1 hf.2 w)
  have HVr := Lib.hid (fun w => refAdV6_any a.hi a.lo hf.1 hf.2 w)
  have e1 := str_beq (bs (adText a))
  generalize adText a = t at *
  have HTx := Lib.hid hT; have HTr := Lib.hid hT2; clear hT hT2
  generalize adRight a = rt at *
  generalize adBits a = nb at *
  generalize adBit a i = nn at *
  generalize adOf a.hi a.lo = o at *
  generalize adParse s.data.toList = p at *
  obtain ⟨r, ok⟩ := p
  have HP := Lib.hid hp; have HP2 := Lib.hid hp2; clear hp hp2
  have q1 := fun W => eqlAd r r W
  have q2 := fun W => eqlAd o o W
  simp only [decide_true] at q1 q2
  have e2 : (nb == nb) = true := by simp
  have e3 : ((nn : Int) == (nn : Int)) = true := by simp
  have e5 : (rt == rt) = true := by simp
  have e6 : (ok == ok) = true := by simp
  have hsz : (s.size : Int) ≤ 1000 := by omega
  clear hf
  have C1 := HC.out.below ((Below.refl _ _).alloc (Nat.le_refl _) (.cells #[.bool a.v6, .int .u64 a.hi, .int .u64 a.lo] 48))
  go_enter Try.func11, Try.ntmps11
  go_wp2_with (first | (go_at_call 36; refine (HP.out _ C1).mono ?_; rintro e w1 ⟨rfl, b1⟩; obtain ⟨c1, f1⟩ := bcell b1; have z1 := b1.size; simp at z1; have d1 := fun o => c1 w.heap.size o (by simp); clear c1 f1) | (go_at_call 37; refine (HP2.out _).mono ?_; rintro e w2 ⟨rfl, b2⟩; obtain ⟨c2, f2⟩ := bcell b2; have z2 := b2.size; simp at z2; have d2 := fun o => c2 w.heap.size o (by simp; omega); have g2 := fun o => c2 w1.heap.size o (by simp); clear c2 f2))
  go_region_held3 (fun w' => w'.cell? ⟨w.heap.size, 0, none⟩ = some (.bool a.v6) ∧ w'.cell? ⟨w.heap.size, 1, none⟩ = some (.int .u64 a.hi) ∧ w'.cell? ⟨w.heap.size, 2, none⟩ = some (.int .u64 a.lo) ∧ w'.cell? ⟨w1.heap.size, 0, none⟩ = some (.bool r.v6) ∧ w'.cell? ⟨w1.heap.size, 1, none⟩ = some (.int .u64 r.hi) ∧ w'.cell? ⟨w1.heap.size, 2, none⟩ = some (.int .u64 r.lo) ∧ w'.cell? ⟨w2.heap.size, 0, none⟩ = some (.bool r.v6) ∧ w'.cell? ⟨w2.heap.size, 1, none⟩ = some (.int .u64 r.hi) ∧ w'.cell? ⟨w2.heap.size, 2, none⟩ = some (.int .u64 r.lo)) (first | go_keep | (simp (disch := omega) [*])) (first | (go_at_call 38; (with_reducible refine (HRi.out _).mono ?_); rintro e w3 ⟨rfl, b3⟩; obtain ⟨c3, f3⟩ := bcell b3; have z3 := b3.size; (try simp at z3); have d3 := fun o => c3 w.heap.size o (by first | omega | (simp; done) | (simp; omega)); have g3 := fun o => c3 w1.heap.size o (by first | omega | (simp; done) | (simp; omega)); have i3 := fun o => c3 w2.heap.size o (by first | omega | (simp; done) | (simp; omega)); clear c3 f3) | (go_at_call 39; (with_reducible refine (HRr.out _).mono ?_); rintro e w4 ⟨rfl, b4⟩; obtain ⟨c4, f4⟩ := bcell b4; have z4 := b4.size; (try simp at z4); have d4 := fun o => c4 w.heap.size o (by first | omega | (simp; done) | (simp; omega)); have g4 := fun o => c4 w1.heap.size o (by first | omega | (simp; done) | (simp; omega)); have i4 := fun o => c4 w2.heap.size o (by first | omega | (simp; done) | (simp; omega)); clear c4 f4) | (go_at_call 40; (with_reducible refine (HTx.out _).mono ?_); rintro e w5 ⟨rfl, b5⟩; obtain ⟨c5, f5⟩ := bcell b5; have z5 := b5.size; (try simp at z5); have d5 := fun o => c5 w.heap.size o (by first | omega | (simp; done) | (simp; omega)); have g5 := fun o => c5 w1.heap.size o (by first | omega | (simp; done) | (simp; omega)); have i5 := fun o => c5 w2.heap.size o (by first | omega | (simp; done) | (simp; omega)); clear c5 f5) | (go_at_call 41; (with_reducible refine (HTr.out _).mono ?_); rintro e w6 ⟨rfl, b6⟩; obtain ⟨c6, f6⟩ := bcell b6; have z6 := b6.size; (try simp at z6); have d6 := fun o => c6 w.heap.size o (by first | omega | (simp; done) | (simp; omega)); have g6 := fun o => c6 w1.heap.size o (by first | omega | (simp; done) | (simp; omega)); have i6 := fun o => c6 w2.heap.size o (by first | omega | (simp; done) | (simp; omega)); clear c6 f6) | (go_at_call 42; (with_reducible refine (HBs.out _).mono ?_); rintro e w7 ⟨rfl, b7⟩; obtain ⟨c7, f7⟩ := bcell b7; have z7 := b7.size; (try simp at z7); have d7 := fun o => c7 w.heap.size o (by first | omega | (simp; done) | (simp; omega)); have g7 := fun o => c7 w1.heap.size o (by first | omega | (simp; done) | (simp; omega)); have i7 := fun o => c7 w2.heap.size o (by first | omega | (simp; done) | (simp; omega)); clear c7 f7) | (go_at_call 43; (with_reducible refine (HBr.out _).mono ?_); rintro e w8 ⟨rfl, b8⟩; obtain ⟨c8, f8⟩ := bcell b8; have z8 := b8.size; (try simp at z8); have d8 := fun o => c8 w.heap.size o (by first | omega | (simp; done) | (simp; omega)); have g8 := fun o => c8 w1.heap.size o (by first | omega | (simp; done) | (simp; omega)); have i8 := fun o => c8 w2.heap.size o (by first | omega | (simp; done) | (simp; omega)); clear c8 f8) | (go_at_call 44; (with_reducible refine (HBi.out _).mono ?_); rintro e w9 ⟨rfl, b9⟩; obtain ⟨c9, f9⟩ := bcell b9; have z9 := b9.size; (try simp at z9); have d9 := fun o => c9 w.heap.size o (by first | omega | (simp; done) | (simp; omega)); have g9 := fun o => c9 w1.heap.size o (by first | omega | (simp; done) | (simp; omega)); have i9 := fun o => c9 w2.heap.size o (by first | omega | (simp; done) | (simp; omega)); clear c9 f9) | (go_at_call 45; (with_reducible refine (HBj.out _).mono ?_); rintro e w10 ⟨rfl, b10⟩; obtain ⟨c10, f10⟩ := bcell b10; have z10 := b10.size; (try simp at z10); have d10 := fun o => c10 w.heap.size o (by first | omega | (simp; done) | (simp; omega)); have g10 := fun o => c10 w1.heap.size o (by first | omega | (simp; done) | (simp; omega)); have i10 := fun o => c10 w2.heap.size o (by first | omega | (simp; done) | (simp; omega)); clear c10 f10) | (go_at_call 46; (with_reducible refine (HV.out _).mono ?_); rintro e w11 ⟨rfl, b11⟩; obtain ⟨c11, f11⟩ := bcell b11; have z11 := b11.size; (try simp at z11); have d11 := fun o => c11 w.heap.size o (by first | omega | (simp; done) | (simp; omega)); have g11 := fun o => c11 w1.heap.size o (by first | omega | (simp; done) | (simp; omega)); have i11 := fun o => c11 w2.heap.size o (by first | omega | (simp; done) | (simp; omega)); clear c11 f11) | (go_at_call 47; (with_reducible refine (HVr.out _).mono ?_); rintro e w12 ⟨rfl, b12⟩; obtain ⟨c12, f12⟩ := bcell b12; have z12 := b12.size; (try simp at z12); have d12 := fun o => c12 w.heap.size o (by first | omega | (simp; done) | (simp; omega)); have g12 := fun o => c12 w1.heap.size o (by first | omega | (simp; done) | (simp; omega)); have i12 := fun o => c12 w2.heap.size o (by first | omega | (simp; done) | (simp; omega)); clear c12 f12) | (go_at_call 35; refine (awake06_any _ (HC.out.below (by repeat (first | assumption | exact Below.refl _ _ | refine Below.alloc ?_ (by first | omega | (simp; done) | (simp; omega)) _ | refine Below.drew ?_ | (refine Below.trans ?_ (Below.mono (by assumption) (by first | omega | (simp; done) | (simp; omega)))))))).mono ?_; rintro e w13 ⟨rfl, b13⟩; obtain ⟨c13, f13⟩ := bcell b13; have z13 := b13.size; have d13 := fun o => c13 w.heap.size o (by omega); have g13 := fun o => c13 w1.heap.size o (by omega); have i13 := fun o => c13 w2.heap.size o (by omega); clear c13 f13))
  go_wp2_with fail
  go_ret
  refine ⟨rfl, ?_⟩
  repeat (first | assumption | exact Below.refl _ _ | refine Below.alloc ?_ (by first | omega | (simp; done) | (simp; omega)) _ | refine Below.drew ?_ | (refine Below.trans ?_ (Below.mono (by assumption) (by first | omega | (simp; done) | (simp; omega)))))
end Go.Proofs.Ytbpjhikbgnbkaaa
