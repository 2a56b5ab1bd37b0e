/- Texts put together: LawCall. No condition. -/
import Derived.Test.YtnohkfbapibmdaaGreatRozplksgbem
import Derived.Test.YtnohkfbapibmdaaGreatRjnnyiclkjh
namespace Go.Proofs.YtnohkfbapibmdaaGreat
open Go.RowKit
set_option linter.unusedSimpArgs false
set_option linter.unusedVariables false

theorem eqlCl_self (c : Cl) (W : World) : (binOp .eql 30 (.agg #[.int .i64 c.kind, .bool c.en.ad.v6, .int .u64 c.en.ad.hi, .int .u64 c.en.ad.lo, .int .i64 c.en.port, .bool c.nt.ad.v6, .int .u64 c.nt.ad.hi, .int .u64 c.nt.ad.lo, .int .i64 c.nt.bits, .int .i64 c.now, .int .i64 c.num, .bool c.good]) (.agg #[.int .i64 c.kind, .bool c.en.ad.v6, .int .u64 c.en.ad.hi, .int .u64 c.en.ad.lo, .int .i64 c.en.port, .bool c.nt.ad.v6, .int .u64 c.nt.ad.hi, .int .u64 c.nt.ad.lo, .int .i64 c.nt.bits, .int .i64 c.now, .int .i64 c.num, .bool c.good])).run Tryz.prog W = .ok (.bool true) W := by
  go_simp
instance : DecidableEq Cl := fun a b => decidable_of_iff (a.kind = b.kind ∧ a.en = b.en ∧ a.nt = b.nt ∧ a.now = b.now ∧ a.num = b.num ∧ a.good = b.good) ⟨fun ⟨h1, h2, h3, h4, h5, h6⟩ => by cases a; cases b; simp_all, fun h => by subst h; exact ⟨rfl, rfl, rfl, rfl, rfl, rfl⟩⟩
theorem a33a : clParse [97, 99, 99, 101, 112, 116, 32, 49, 46, 50, 46, 51, 46, 52, 58, 56, 48, 32, 53] = ((⟨1, ⟨⟨false, 0, 16909060⟩, 80⟩, ⟨⟨false, 0, 0⟩, 0⟩, 5, 0, false⟩ : Cl), true) := by decide +kernel
theorem a33b : clParse [97, 99, 99, 101, 112, 116, 32, 49, 46, 50, 46, 51, 46, 57, 57, 57, 58, 56, 48, 32, 53] = ((⟨1, ⟨⟨false, 0, 0⟩, 0⟩, ⟨⟨false, 0, 0⟩, 0⟩, 5, 0, false⟩ : Cl), true) := by decide +kernel
theorem a33c : clRight (⟨1, ⟨⟨false, 0, 16909060⟩, 80⟩, ⟨⟨false, 0, 0⟩, 0⟩, 5, 0, false⟩ : Cl) = true := by decide +kernel
theorem a33d : clRight (⟨1, ⟨⟨false, 0, 0⟩, 0⟩, ⟨⟨false, 0, 0⟩, 0⟩, 5, 0, false⟩ : Cl) = false := by decide +kernel
theorem a33e : clText (⟨1, ⟨⟨false, 0, 0⟩, 0⟩, ⟨⟨false, 0, 0⟩, 0⟩, 5, 0, false⟩ : Cl) = [97, 99, 99, 101, 112, 116, 32, 45, 32, 53] := by decide +kernel
set_option maxRecDepth 100000 in
set_option maxHeartbeats 16000000 in
theorem awake33_any (w : World) (hc : Cpu w) : Calls Tryz.prog 4 #[] w fun e w' => e = .returned (.bool true) ∧ Below w.heap.size w w' := by
  have HC := Lib.hid hc; clear hc
  have h1 : ∀ (w : World) (hc : Cpu w), Calls Tryz.prog 5 #[.string ⟨#[97, 99, 99, 101, 112, 116, 32, 49, 46, 50, 46, 51, 46, 52, 58, 56, 48, 32, 53]⟩] w (GivesCl w (clParse [97, 99, 99, 101, 112, 116, 32, 49, 46, 50, 46, 51, 46, 52, 58, 56, 48, 32, 53])) := fun w hc => by
    have := clParse_any (bs [97, 99, 99, 101, 112, 116, 32, 49, 46, 50, 46, 51, 46, 52, 58, 56, 48, 32, 53]) w (by rw [bs_size]; decide) hc
    rw [bs_data] at this; exact this
  have h2 : ∀ (w : World) (hc : Cpu w), Calls Tryz.prog 5 #[.string ⟨#[97, 99, 99, 101, 112, 116, 32, 49, 46, 50, 46, 51, 46, 57, 57, 57, 58, 56, 48, 32, 53]⟩] w (GivesCl w (clParse [97, 99, 99, 101, 112, 116, 32, 49, 46, 50, 46, 51, 46, 57, 57, 57, 58, 56, 48, 32, 53])) := fun w hc => by
    have := clParse_any (bs [97, 99, 99, 101, 112, 116, 32, 49, 46, 50, 46, 51, 46, 57, 57, 57, 58, 56, 48, 32, 53]) w (by rw [bs_size]; decide) hc
    rw [bs_data] at this; exact this
  have h3 := fun w => clRight_any (⟨1, ⟨⟨false, 0, 16909060⟩, 80⟩, ⟨⟨false, 0, 0⟩, 0⟩, 5, 0, false⟩ : Cl) ⟨⟨⟨by decide, by decide⟩, ⟨by decide, by decide⟩⟩, by decide, by decide, by decide, by decide⟩ w
  have h4 := fun w => clRight_any (⟨1, ⟨⟨false, 0, 0⟩, 0⟩, ⟨⟨false, 0, 0⟩, 0⟩, 5, 0, false⟩ : Cl) ⟨⟨⟨by decide, by decide⟩, ⟨by decide, by decide⟩⟩, by decide, by decide, by decide, by decide⟩ w
  have h5 := fun w => clText_any (⟨1, ⟨⟨false, 0, 0⟩, 0⟩, ⟨⟨false, 0, 0⟩, 0⟩, 5, 0, false⟩ : Cl) ⟨⟨⟨by decide, by decide⟩, ⟨by decide, by decide⟩⟩, by decide, by decide, by decide, by decide⟩ w
  rw [a33a] at h1
  rw [a33b] at h2
  rw [a33c] at h3
  rw [a33d] at h4
  rw [a33e] at h5
  unfold GivesCl at h1 h2
  simp only [show ((0 : Nat) : Int) = 0 from rfl, show ((16909060 : Nat) : Int) = 16909060 from rfl] at h1 h2 h3 h4 h5
  have H1 := Lib.hid h1; have H2 := Lib.hid h2; have H3 := Lib.hid h3; have H4 := Lib.hid h4; have H5 := Lib.hid h5
  clear h1 h2 h3 h4 h5
  have e4 : ((bs [97, 99, 99, 101, 112, 116, 32, 45, 32, 53]).toList == [97, 99, 99, 101, 112, 116, 32, 45, 32, 53]) = true := by decide +kernel
  go_enter Tryz.func4, Tryz.ntmps4
  go_wp2_with (first | (go_at_call 5; (with_reducible refine (H1.out _ HC.out).mono ?_); rintro e w1 ⟨rfl, b1⟩; obtain ⟨c1, f1⟩ := bcell b1; have z1 := b1.size; (try simp at z1); clear c1 f1) | (go_at_call 5; (with_reducible refine (H2.out _ (HC.out.below (by (repeat (first | with_reducible assumption | with_reducible exact Below.refl _ _ | with_reducible refine Below.setCell ?_ (by first | omega | (simp; done) | (simp; omega)) _ | with_reducible refine Below.alloc ?_ (by first | omega | (simp; done) | (simp; omega)) _ | with_reducible refine Below.drew ?_ | (with_reducible refine Below.trans ?_ (Below.mono (by with_reducible assumption) (by first | omega | (simp; done) | (simp; omega)))) | (refine Below.trans ?_ (Below.mono (by assumption) (by first | omega | (simp; done) | (simp; omega))))))))).mono ?_); rintro e w2 ⟨rfl, b2⟩; obtain ⟨c2, f2⟩ := bcell b2; have z2 := b2.size; (try simp at z2); have l2a : w1.heap.size < w2.heap.size := (by omega); have n2a := Nat.ne_of_lt l2a; have d2a := fun o => c2 (w1.heap.size) o (by first | omega | (simp; done) | (simp; omega)); clear c2 f2) | (go_at_call 7; (with_reducible refine (H3.out _).mono ?_); rintro e w3 ⟨rfl, b3⟩; obtain ⟨c3, f3⟩ := bcell b3; have z3 := b3.size; (try simp at z3); have d3a := fun o => c3 (w1.heap.size) o (by first | omega | (simp; done) | (simp; omega)); have d3b := fun o => c3 (w2.heap.size) o (by first | omega | (simp; done) | (simp; omega)); clear c3 f3) | (go_at_call 7; (with_reducible refine (H4.out _).mono ?_); rintro e w4 ⟨rfl, b4⟩; obtain ⟨c4, f4⟩ := bcell b4; have z4 := b4.size; (try simp at z4); have d4a := fun o => c4 (w1.heap.size) o (by first | omega | (simp; done) | (simp; omega)); have d4b := fun o => c4 (w2.heap.size) o (by first | omega | (simp; done) | (simp; omega)); clear c4 f4) | (go_at_call 11; (with_reducible refine (H5.out _).mono ?_); rintro e w5 ⟨rfl, b5⟩; obtain ⟨c5, f5⟩ := bcell b5; have z5 := b5.size; (try simp at z5); have d5a := fun o => c5 (w1.heap.size) o (by first | omega | (simp; done) | (simp; omega)); have d5b := fun o => c5 (w2.heap.size) o (by first | omega | (simp; done) | (simp; omega)); clear c5 f5))
  go_ret
  refine ⟨rfl, ?_⟩
  (repeat (first | with_reducible assumption | with_reducible exact Below.refl _ _ | with_reducible refine Below.setCell ?_ (by first | omega | (simp; done) | (simp; omega)) _ | with_reducible refine Below.alloc ?_ (by first | omega | (simp; done) | (simp; omega)) _ | with_reducible refine Below.drew ?_ | (with_reducible refine Below.trans ?_ (Below.mono (by with_reducible assumption) (by first | omega | (simp; done) | (simp; omega)))) | (refine Below.trans ?_ (Below.mono (by assumption) (by first | omega | (simp; done) | (simp; omega))))))
end Go.Proofs.YtnohkfbapibmdaaGreat
