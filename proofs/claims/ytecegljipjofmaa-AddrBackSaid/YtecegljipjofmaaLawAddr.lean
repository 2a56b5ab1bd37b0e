/- The laws of addresses hold. -/
import Derived.Test.YtecegljipjofmaaAddrD
import Derived.Test.YtecegljipjofmaaLawIp6
namespace Go.Proofs.Ytecegljipjofmaa
open Go.RowKit

theorem a6a : adParse [58, 58, 102, 102, 102, 102, 58, 49, 46, 50, 46, 51, 46, 52] = (⟨false, 0, 16909060⟩, true) := by decide +kernel
theorem a6b : adText ⟨false, 0, 16909060⟩ = [49, 46, 50, 46, 51, 46, 52] := by decide +kernel
theorem a6c : adBit ⟨false, 0, 2147483648⟩ 0 = 1 := by decide +kernel
theorem a6d : adBits ⟨false, 0, 16909060⟩ = 32 := by decide +kernel
set_option maxRecDepth 100000 in
set_option maxHeartbeats 1000000 in
theorem awake06_any (w : World) (hc : Cpu w) : Calls Try.prog 45 #[] w fun e w' => e = .returned (.bool true) ∧ Below w.heap.size w w' := by
  have h1 := adParse_any (bs [58, 58, 102, 102, 102, 102, 58, 49, 46, 50, 46, 51, 46, 52]) w (by rw [bs_size]; decide) hc
  rw [bs_data, a6a] at h1
  have h2 := fun w => adText_any ⟨false, 0, 16909060⟩ ⟨by decide, by decide⟩ w
  have h3 := fun w => adBit_any ⟨false, 0, 2147483648⟩ ⟨by decide, by decide⟩ 0 w
  have h4 := fun w => adBits_any ⟨false, 0, 16909060⟩ w
  rw [a6b] at h2; rw [a6c] at h3; rw [a6d] at h4
  have H1 := Lib.hid h1; have H2 := Lib.hid h2; have H3 := Lib.hid h3; have H4 := Lib.hid h4
  clear h1 h2 h3 h4
  have e4 : ((bs [49, 46, 50, 46, 51, 46, 52]).toList == [49, 46, 50, 46, 51, 46, 52]) = true := by decide +kernel
  have q := fun W => eqlAd ⟨false, 0, 16909060⟩ ⟨false, 0, 16909060⟩ W
  simp only [decide_true] at q
  go_enter Try.func45, Try.ntmps45
  go_wp2_with (go_at_call 46; refine H1.out.mono ?_; rintro e w1 ⟨rfl, b1⟩; have z1 := b1.size)
  go_region_held3 (fun w' => w'.cell? ⟨w1.heap.size, 0, none⟩ = some (.bool false) ∧ w'.cell? ⟨w1.heap.size, 1, none⟩ = some (.int .u64 0) ∧ w'.cell? ⟨w1.heap.size, 2, none⟩ = some (.int .u64 16909060)) (first | go_keep | (simp (disch := omega) [*]) | omega | (simp; omega)) (first | (go_at_call 92; refine (v4_any _ (by omega) (by omega) _).mono ?_; rintro e w2 ⟨rfl, b2⟩; obtain ⟨c2, f2⟩ := bcell b2; have z2 := b2.size; (try simp at z2); have d2 := fun o => c2 w1.heap.size o (by first | omega | (simp; done) | (simp; omega)); clear c2 f2) | (go_at_call 47; refine (H2.out _).mono ?_; rintro e w3 ⟨rfl, b3⟩; obtain ⟨c3, f3⟩ := bcell b3; have z3 := b3.size; (try simp at z3); have d3 := fun o => c3 w1.heap.size o (by first | omega | (simp; done) | (simp; omega)); clear c3 f3) | (go_at_call 50; refine (H3.out _).mono ?_; rintro e w4 ⟨rfl, b4⟩; obtain ⟨c4, f4⟩ := bcell b4; have z4 := b4.size; (try simp at z4); have d4 := fun o => c4 w1.heap.size o (by first | omega | (simp; done) | (simp; omega)); clear c4 f4) | (go_at_call 49; refine (H4.out _).mono ?_; rintro e w5 ⟨rfl, b5⟩; obtain ⟨c5, f5⟩ := bcell b5; have z5 := b5.size; (try simp at z5); have d5 := fun o => c5 w1.heap.size o (by first | omega | (simp; done) | (simp; omega)); clear c5 f5))
  go_wp2_with fail
  go_ret
  refine ⟨rfl, ?_⟩
  repeat (first | assumption | exact Below.refl _ _ | refine Below.alloc ?_ (by first | omega | (simp; done) | (simp; omega)) _ | refine Below.drew ?_ | (refine Below.trans ?_ (Below.mono (by assumption) (by first | omega | (simp; done) | (simp; omega)))))
def Box (w : World) (B : Nat) (a : Ad) : Prop := w.cell? ⟨B, 0, none⟩ = some (.bool a.v6) ∧ w.cell? ⟨B, 1, none⟩ = some (.int .u64 a.hi) ∧ w.cell? ⟨B, 2, none⟩ = some (.int .u64 a.lo)
theorem Box.below {w w' : World} {B : Nat} {a : Ad} (h : Box w B a) (hB : B < w.heap.size) (hb : Below w.heap.size w w') : Box w' B a :=
  ⟨keep hb hB h.1, keep hb hB h.2.1, keep hb hB h.2.2⟩
end Go.Proofs.Ytecegljipjofmaa
