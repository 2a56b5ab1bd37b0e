/- The contracts of bans: right, hits, joined, written. -/
import Derived.Test.YtnohkfbapibmdaaQd813b4oclaiu
import Derived.Test.YtnohkfbapibmdaaQc03ddbejphjv
import Derived.Test.YtnohkfbapibmdaaHas
import Derived.Test.YtnohkfbapibmdaaQTail
namespace Go.Proofs.Ytnohkfbapibmdaa
open Go.RowKit
set_option linter.unusedSimpArgs false
set_option linter.unusedVariables false

theorem baIff (a b : Ba) : a = b ↔ a.nt.ad.v6 = b.nt.ad.v6 ∧ (a.nt.ad.hi : Int) = b.nt.ad.hi ∧ (a.nt.ad.lo : Int) = b.nt.ad.lo ∧ a.nt.bits = b.nt.bits ∧ a.till = b.till := ⟨fun h => by subst h; exact ⟨rfl, rfl, rfl, rfl, rfl⟩, fun ⟨h1, h2, h3, h4, h5⟩ => Ba.ext' (Nt.ext' (Ad.ext' h1 (by omega) (by omega)) h4) h5⟩
theorem eqlBa (a b : Ba) (W : World) : (binOp .eql 82 (.agg #[.bool a.nt.ad.v6, .int .u64 a.nt.ad.hi, .int .u64 a.nt.ad.lo, .int .i64 a.nt.bits, .int .i64 a.till]) (.agg #[.bool b.nt.ad.v6, .int .u64 b.nt.ad.hi, .int .u64 b.nt.ad.lo, .int .i64 b.nt.bits, .int .i64 b.till])).run Try.prog W = .ok (.bool (decide (a = b))) W := by
  go_simp
  by_cases h : a = b
  · have e := (baIff a b).1 h
    simp [e, h]
  · have e := fun e => h ((baIff a b).2 e)
    simp only [h]
    repeat' split
    all_goals simp_all
theorem neqBa (a b : Ba) (W : World) : (binOp .neq 82 (.agg #[.bool a.nt.ad.v6, .int .u64 a.nt.ad.hi, .int .u64 a.nt.ad.lo, .int .i64 a.nt.bits, .int .i64 a.till]) (.agg #[.bool b.nt.ad.v6, .int .u64 b.nt.ad.hi, .int .u64 b.nt.ad.lo, .int .i64 b.nt.bits, .int .i64 b.till])).run Try.prog W = .ok (.bool (!decide (a = b))) W := by
  go_simp
  by_cases h : a = b
  · have e := (baIff a b).1 h
    simp [e, h]
  · have e := fun e => h ((baIff a b).2 e)
    simp only [h]
    repeat' split
    all_goals simp_all
set_option maxRecDepth 100000 in
set_option maxHeartbeats 4000000 in
theorem baRight_any (b : Ba) (hf : b.nt.ad.fits) (w : World) : Calls Try.prog 57 #[.agg #[.bool b.nt.ad.v6, .int .u64 b.nt.ad.hi, .int .u64 b.nt.ad.lo, .int .i64 b.nt.bits, .int .i64 b.till]] w fun r w' => r = .returned (.bool (baRight b)) ∧ Below w.heap.size w w' := by
  have hR := fun w => ntRight_any b.nt hf w
  unfold baRight
  cases hr : ntRight b.nt with
  | false =>
    rw [hr] at hR
    have HR := Lib.hid hR; clear hR
    go_enter Try.func57, Try.ntmps57
    go_wp2_with (go_at_call 116; (with_reducible refine (HR.out _).mono ?_); rintro e w1 ⟨rfl, b1⟩; obtain ⟨c1, f1⟩ := bcell b1; have z1 := b1.size; (try simp at z1); have d1a := fun o => c1 (w.heap.size) o (by first | omega | (simp; done) | (simp; omega)); clear c1 f1)
    go_ret
    refine ⟨rfl, ?_⟩
    (repeat (first | with_reducible assumption | with_reducible exact Below.refl _ _ | with_reducible refine Below.setCell ?_ (by first | omega | (simp; done) | (simp; omega)) _ | with_reducible refine Below.alloc ?_ (by first | omega | (simp; done) | (simp; omega)) _ | with_reducible refine Below.drew ?_ | (with_reducible refine Below.trans ?_ (Below.mono (by with_reducible assumption) (by first | omega | (simp; done) | (simp; omega)))) | (refine Below.trans ?_ (Below.mono (by assumption) (by first | omega | (simp; done) | (simp; omega))))))
  | true =>
    rw [hr] at hR
    have HR := Lib.hid hR; clear hR hr
    rcases Int.lt_or_le b.till 1 with h1 | h1
    · have d1 : decide (1 ≤ b.till) = false := decide_eq_false (by omega)
      rw [d1]
      go_enter Try.func57, Try.ntmps57
      go_wp2_with (go_at_call 116; (with_reducible refine (HR.out _).mono ?_); rintro e w1 ⟨rfl, b1⟩; obtain ⟨c1, f1⟩ := bcell b1; have z1 := b1.size; (try simp at z1); have d1a := fun o => c1 (w.heap.size) o (by first | omega | (simp; done) | (simp; omega)); clear c1 f1)
      go_ret
      refine ⟨rfl, ?_⟩
      (repeat (first | with_reducible assumption | with_reducible exact Below.refl _ _ | with_reducible refine Below.setCell ?_ (by first | omega | (simp; done) | (simp; omega)) _ | with_reducible refine Below.alloc ?_ (by first | omega | (simp; done) | (simp; omega)) _ | with_reducible refine Below.drew ?_ | (with_reducible refine Below.trans ?_ (Below.mono (by with_reducible assumption) (by first | omega | (simp; done) | (simp; omega)))) | (refine Below.trans ?_ (Below.mono (by assumption) (by first | omega | (simp; done) | (simp; omega))))))
    have d1 : decide (1 ≤ b.till) = true := decide_eq_true h1
    rw [d1]
    rcases Int.lt_or_le 1099511627776 b.till with h2 | h2
    · have d2 : decide (b.till ≤ 1099511627776) = false := decide_eq_false (by omega)
      rw [d2]
      go_enter Try.func57, Try.ntmps57
      go_wp2_with (go_at_call 116; (with_reducible refine (HR.out _).mono ?_); rintro e w1 ⟨rfl, b1⟩; obtain ⟨c1, f1⟩ := bcell b1; have z1 := b1.size; (try simp at z1); have d1a := fun o => c1 (w.heap.size) o (by first | omega | (simp; done) | (simp; omega)); clear c1 f1)
      go_ret
      refine ⟨rfl, ?_⟩
      (repeat (first | with_reducible assumption | with_reducible exact Below.refl _ _ | with_reducible refine Below.setCell ?_ (by first | omega | (simp; done) | (simp; omega)) _ | with_reducible refine Below.alloc ?_ (by first | omega | (simp; done) | (simp; omega)) _ | with_reducible refine Below.drew ?_ | (with_reducible refine Below.trans ?_ (Below.mono (by with_reducible assumption) (by first | omega | (simp; done) | (simp; omega)))) | (refine Below.trans ?_ (Below.mono (by assumption) (by first | omega | (simp; done) | (simp; omega))))))
    · have d2 : decide (b.till ≤ 1099511627776) = true := decide_eq_true h2
      rw [d2]
      go_enter Try.func57, Try.ntmps57
      go_wp2_with (go_at_call 116; (with_reducible refine (HR.out _).mono ?_); rintro e w1 ⟨rfl, b1⟩; obtain ⟨c1, f1⟩ := bcell b1; have z1 := b1.size; (try simp at z1); have d1a := fun o => c1 (w.heap.size) o (by first | omega | (simp; done) | (simp; omega)); clear c1 f1)
      go_ret
      refine ⟨rfl, ?_⟩
      (repeat (first | with_reducible assumption | with_reducible exact Below.refl _ _ | with_reducible refine Below.setCell ?_ (by first | omega | (simp; done) | (simp; omega)) _ | with_reducible refine Below.alloc ?_ (by first | omega | (simp; done) | (simp; omega)) _ | with_reducible refine Below.drew ?_ | (with_reducible refine Below.trans ?_ (Below.mono (by with_reducible assumption) (by first | omega | (simp; done) | (simp; omega)))) | (refine Below.trans ?_ (Below.mono (by assumption) (by first | omega | (simp; done) | (simp; omega))))))
set_option maxRecDepth 100000 in
set_option maxHeartbeats 4000000 in
theorem refBaRight_any (b : Ba) (hf : b.nt.ad.fits) (w : World) : Calls Try.prog 62 #[.agg #[.bool b.nt.ad.v6, .int .u64 b.nt.ad.hi, .int .u64 b.nt.ad.lo, .int .i64 b.nt.bits, .int .i64 b.till]] w fun r w' => r = .returned (.bool (baRight b)) ∧ Below w.heap.size w w' := by
  have hR := fun w => refNtRight_any b.nt hf w
  unfold baRight
  cases hr : ntRight b.nt with
  | false =>
    rw [hr] at hR
    have HR := Lib.hid hR; clear hR
    go_enter Try.func62, Try.ntmps62
    go_wp2_with (go_at_call 119; (with_reducible refine (HR.out _).mono ?_); rintro e w1 ⟨rfl, b1⟩; obtain ⟨c1, f1⟩ := bcell b1; have z1 := b1.size; (try simp at z1); have d1a := fun o => c1 (w.heap.size) o (by first | omega | (simp; done) | (simp; omega)); clear c1 f1)
    go_ret
    refine ⟨rfl, ?_⟩
    (repeat (first | with_reducible assumption | with_reducible exact Below.refl _ _ | with_reducible refine Below.setCell ?_ (by first | omega | (simp; done) | (simp; omega)) _ | with_reducible refine Below.alloc ?_ (by first | omega | (simp; done) | (simp; omega)) _ | with_reducible refine Below.drew ?_ | (with_reducible refine Below.trans ?_ (Below.mono (by with_reducible assumption) (by first | omega | (simp; done) | (simp; omega)))) | (refine Below.trans ?_ (Below.mono (by assumption) (by first | omega | (simp; done) | (simp; omega))))))
  | true =>
    rw [hr] at hR
    have HR := Lib.hid hR; clear hR hr
    rcases Int.lt_or_le 0 b.till with h1 | h1
    · have d1 : decide (1 ≤ b.till) = true := decide_eq_true (by omega)
      have d3 : decide (0 < b.till) = true := decide_eq_true h1
      rw [d1]
      rcases Int.lt_or_le 1099511627776 b.till with h2 | h2
      · have d2 : decide (b.till ≤ 1099511627776) = false := decide_eq_false (by omega)
        rw [d2]
        go_enter Try.func62, Try.ntmps62
        go_wp2_with (go_at_call 119; (with_reducible refine (HR.out _).mono ?_); rintro e w1 ⟨rfl, b1⟩; obtain ⟨c1, f1⟩ := bcell b1; have z1 := b1.size; (try simp at z1); have d1a := fun o => c1 (w.heap.size) o (by first | omega | (simp; done) | (simp; omega)); clear c1 f1)
        go_ret
        refine ⟨rfl, ?_⟩
        (repeat (first | with_reducible assumption | with_reducible exact Below.refl _ _ | with_reducible refine Below.setCell ?_ (by first | omega | (simp; done) | (simp; omega)) _ | with_reducible refine Below.alloc ?_ (by first | omega | (simp; done) | (simp; omega)) _ | with_reducible refine Below.drew ?_ | (with_reducible refine Below.trans ?_ (Below.mono (by with_reducible assumption) (by first | omega | (simp; done) | (simp; omega)))) | (refine Below.trans ?_ (Below.mono (by assumption) (by first | omega | (simp; done) | (simp; omega))))))
      · have d2 : decide (b.till ≤ 1099511627776) = true := decide_eq_true h2
        rw [d2]
        go_enter Try.func62, Try.ntmps62
        go_wp2_with (go_at_call 119; (with_reducible refine (HR.out _).mono ?_); rintro e w1 ⟨rfl, b1⟩; obtain ⟨c1, f1⟩ := bcell b1; have z1 := b1.size; (try simp at z1); have d1a := fun o => c1 (w.heap.size) o (by first | omega | (simp; done) | (simp; omega)); clear c1 f1)
        go_ret
        refine ⟨rfl, ?_⟩
        (repeat (first | with_reducible assumption | with_reducible exact Below.refl _ _ | with_reducible refine Below.setCell ?_ (by first | omega | (simp; done) | (simp; omega)) _ | with_reducible refine Below.alloc ?_ (by first | omega | (simp; done) | (simp; omega)) _ | with_reducible refine Below.drew ?_ | (with_reducible refine Below.trans ?_ (Below.mono (by with_reducible assumption) (by first | omega | (simp; done) | (simp; omega)))) | (refine Below.trans ?_ (Below.mono (by assumption) (by first | omega | (simp; done) | (simp; omega))))))
    · have d1 : decide (1 ≤ b.till) = false := decide_eq_false (by omega)
      have d3 : decide (0 < b.till) = false := decide_eq_false (by omega)
      rw [d1]
      go_enter Try.func62, Try.ntmps62
      go_wp2_with (go_at_call 119; (with_reducible refine (HR.out _).mono ?_); rintro e w1 ⟨rfl, b1⟩; obtain ⟨c1, f1⟩ := bcell b1; have z1 := b1.size; (try simp at z1); have d1a := fun o => c1 (w.heap.size) o (by first | omega | (simp; done) | (simp; omega)); clear c1 f1)
      go_ret
      refine ⟨rfl, ?_⟩
      (repeat (first | with_reducible assumption | with_reducible exact Below.refl _ _ | with_reducible refine Below.setCell ?_ (by first | omega | (simp; done) | (simp; omega)) _ | with_reducible refine Below.alloc ?_ (by first | omega | (simp; done) | (simp; omega)) _ | with_reducible refine Below.drew ?_ | (with_reducible refine Below.trans ?_ (Below.mono (by with_reducible assumption) (by first | omega | (simp; done) | (simp; omega)))) | (refine Below.trans ?_ (Below.mono (by assumption) (by first | omega | (simp; done) | (simp; omega))))))
set_option maxHeartbeats 4000000 in
theorem baLives_any (b : Ba) (now : Int) (w : World) : Calls Try.prog 59 #[.agg #[.bool b.nt.ad.v6, .int .u64 b.nt.ad.hi, .int .u64 b.nt.ad.lo, .int .i64 b.nt.bits, .int .i64 b.till], .int .i64 now] w fun r w' => r = .returned (.bool (baLives b now)) ∧ Below w.heap.size w w' := by
  unfold baLives
  go_enter Try.func59, Try.ntmps59
  go_wp2_with fail
  go_ret
  refine ⟨rfl, ?_⟩
  (repeat (first | with_reducible assumption | with_reducible exact Below.refl _ _ | with_reducible refine Below.setCell ?_ (by first | omega | (simp; done) | (simp; omega)) _ | with_reducible refine Below.alloc ?_ (by first | omega | (simp; done) | (simp; omega)) _ | with_reducible refine Below.drew ?_ | (with_reducible refine Below.trans ?_ (Below.mono (by with_reducible assumption) (by first | omega | (simp; done) | (simp; omega)))) | (refine Below.trans ?_ (Below.mono (by assumption) (by first | omega | (simp; done) | (simp; omega))))))
set_option maxHeartbeats 4000000 in
theorem baHits_any (b : Ba) (a : Ad) (hf : b.nt.ad.fits) (ha : a.fits) (now : Int) (w : World) : Calls Try.prog 58 #[.agg #[.bool b.nt.ad.v6, .int .u64 b.nt.ad.hi, .int .u64 b.nt.ad.lo, .int .i64 b.nt.bits, .int .i64 b.till], .agg #[.bool a.v6, .int .u64 a.hi, .int .u64 a.lo], .int .i64 now] w fun r w' => r = .returned (.bool (baHits b a now)) ∧ Below w.heap.size w w' := by
  have hL := fun w => baLives_any b now w
  have HH := Lib.hid (fun w => ntHas_any b.nt a hf ha w)
  unfold baHits
  unfold baLives at hL
  generalize ntHas b.nt a = h at *
  cases hx : decide (now < b.till) with
  | false =>
    rw [hx] at hL
    have HL := Lib.hid hL; clear hL
    go_enter Try.func58, Try.ntmps58
    go_wp2_with (first | (go_at_call 59; (with_reducible refine (HL.out _).mono ?_); rintro e w1 ⟨rfl, b1⟩; obtain ⟨c1, f1⟩ := bcell b1; have z1 := b1.size; (try simp at z1); have d1a := fun o => c1 (w.heap.size) o (by first | omega | (simp; done) | (simp; omega)); have d1b := fun o => c1 (w.heap.size + 1) o (by first | omega | (simp; done) | (simp; omega)); clear c1 f1) | (go_at_call 117; (with_reducible refine (HH.out _).mono ?_); rintro e w2 ⟨rfl, b2⟩; obtain ⟨c2, f2⟩ := bcell b2; have z2 := b2.size; (try simp at z2); have d2a := fun o => c2 (w.heap.size) o (by first | omega | (simp; done) | (simp; omega)); have d2b := fun o => c2 (w.heap.size + 1) o (by first | omega | (simp; done) | (simp; omega)); clear c2 f2))
    go_ret
    refine ⟨rfl, ?_⟩
    (repeat (first | with_reducible assumption | with_reducible exact Below.refl _ _ | with_reducible refine Below.setCell ?_ (by first | omega | (simp; done) | (simp; omega)) _ | with_reducible refine Below.alloc ?_ (by first | omega | (simp; done) | (simp; omega)) _ | with_reducible refine Below.drew ?_ | (with_reducible refine Below.trans ?_ (Below.mono (by with_reducible assumption) (by first | omega | (simp; done) | (simp; omega)))) | (refine Below.trans ?_ (Below.mono (by assumption) (by first | omega | (simp; done) | (simp; omega))))))
  | true =>
    rw [hx] at hL
    have HL := Lib.hid hL; clear hL
    go_enter Try.func58, Try.ntmps58
    go_wp2_with (first | (go_at_call 59; (with_reducible refine (HL.out _).mono ?_); rintro e w1 ⟨rfl, b1⟩; obtain ⟨c1, f1⟩ := bcell b1; have z1 := b1.size; (try simp at z1); have d1a := fun o => c1 (w.heap.size) o (by first | omega | (simp; done) | (simp; omega)); have d1b := fun o => c1 (w.heap.size + 1) o (by first | omega | (simp; done) | (simp; omega)); clear c1 f1) | (go_at_call 117; (with_reducible refine (HH.out _).mono ?_); rintro e w2 ⟨rfl, b2⟩; obtain ⟨c2, f2⟩ := bcell b2; have z2 := b2.size; (try simp at z2); have d2a := fun o => c2 (w.heap.size) o (by first | omega | (simp; done) | (simp; omega)); have d2b := fun o => c2 (w.heap.size + 1) o (by first | omega | (simp; done) | (simp; omega)); clear c2 f2))
    go_ret
    refine ⟨rfl, ?_⟩
    (repeat (first | with_reducible assumption | with_reducible exact Below.refl _ _ | with_reducible refine Below.setCell ?_ (by first | omega | (simp; done) | (simp; omega)) _ | with_reducible refine Below.alloc ?_ (by first | omega | (simp; done) | (simp; omega)) _ | with_reducible refine Below.drew ?_ | (with_reducible refine Below.trans ?_ (Below.mono (by with_reducible assumption) (by first | omega | (simp; done) | (simp; omega)))) | (refine Below.trans ?_ (Below.mono (by assumption) (by first | omega | (simp; done) | (simp; omega))))))
set_option maxHeartbeats 4000000 in
theorem refBaHits_any (b : Ba) (a : Ad) (hf : b.nt.ad.fits) (ha : a.fits) (now : Int) (w : World) : Calls Try.prog 63 #[.agg #[.bool b.nt.ad.v6, .int .u64 b.nt.ad.hi, .int .u64 b.nt.ad.lo, .int .i64 b.nt.bits, .int .i64 b.till], .agg #[.bool a.v6, .int .u64 a.hi, .int .u64 a.lo], .int .i64 now] w fun r w' => r = .returned (.bool (baHits b a now)) ∧ Below w.heap.size w w' := by
  have HH := Lib.hid (fun w => refNtHas_any b.nt a hf ha w)
  unfold baHits
  generalize ntHas b.nt a = h at *
  cases hx : decide (now < b.till) with
  | false =>
    go_enter Try.func63, Try.ntmps63
    go_wp2_with (first | (go_at_call 120; (with_reducible refine (HH.out _).mono ?_); rintro e w2 ⟨rfl, b2⟩; obtain ⟨c2, f2⟩ := bcell b2; have z2 := b2.size; (try simp at z2); have d2a := fun o => c2 (w.heap.size) o (by first | omega | (simp; done) | (simp; omega)); have d2b := fun o => c2 (w.heap.size + 1) o (by first | omega | (simp; done) | (simp; omega)); clear c2 f2))
    go_ret
    refine ⟨rfl, ?_⟩
    (repeat (first | with_reducible assumption | with_reducible exact Below.refl _ _ | with_reducible refine Below.setCell ?_ (by first | omega | (simp; done) | (simp; omega)) _ | with_reducible refine Below.alloc ?_ (by first | omega | (simp; done) | (simp; omega)) _ | with_reducible refine Below.drew ?_ | (with_reducible refine Below.trans ?_ (Below.mono (by with_reducible assumption) (by first | omega | (simp; done) | (simp; omega)))) | (refine Below.trans ?_ (Below.mono (by assumption) (by first | omega | (simp; done) | (simp; omega))))))
  | true =>
    go_enter Try.func63, Try.ntmps63
    go_wp2_with (first | (go_at_call 120; (with_reducible refine (HH.out _).mono ?_); rintro e w2 ⟨rfl, b2⟩; obtain ⟨c2, f2⟩ := bcell b2; have z2 := b2.size; (try simp at z2); have d2a := fun o => c2 (w.heap.size) o (by first | omega | (simp; done) | (simp; omega)); have d2b := fun o => c2 (w.heap.size + 1) o (by first | omega | (simp; done) | (simp; omega)); clear c2 f2))
    go_ret
    refine ⟨rfl, ?_⟩
    (repeat (first | with_reducible assumption | with_reducible exact Below.refl _ _ | with_reducible refine Below.setCell ?_ (by first | omega | (simp; done) | (simp; omega)) _ | with_reducible refine Below.alloc ?_ (by first | omega | (simp; done) | (simp; omega)) _ | with_reducible refine Below.drew ?_ | (with_reducible refine Below.trans ?_ (Below.mono (by with_reducible assumption) (by first | omega | (simp; done) | (simp; omega)))) | (refine Below.trans ?_ (Below.mono (by assumption) (by first | omega | (simp; done) | (simp; omega))))))
theorem ban_row (x t : List UInt8) (W : World) (hl : (joinL 32 [x, untilL, t]).length ≤ 140737488355328) :
    Calls Try.prog 74 #[.slice (some ⟨W.heap.size, 0, none⟩) 3 3] (W.alloc (.cells #[.string (bs x), .string ⟨#[117, 110, 116, 105, 108]⟩, .string (bs t)] 9)) fun e w' => e = .returned (.string (bs (joinL 32 [x, untilL, t]))) ∧ Below (W.alloc (.cells #[.string (bs x), .string ⟨#[117, 110, 116, 105, 108]⟩, .string (bs t)] 9)).heap.size (W.alloc (.cells #[.string (bs x), .string ⟨#[117, 110, 116, 105, 108]⟩, .string (bs t)] 9)) w' :=
  row_any _ [x, untilL, t] _ (by simp) ((BlockIs.new W ([x, untilL, t].map sv) 9).reads (by simp) (by simp)) hl
set_option maxRecDepth 100000 in
set_option maxHeartbeats 4000000 in
theorem baText_any (b : Ba) (hf : b.nt.ad.fits) (w : World) : Calls Try.prog 56 #[.agg #[.bool b.nt.ad.v6, .int .u64 b.nt.ad.hi, .int .u64 b.nt.ad.lo, .int .i64 b.nt.bits, .int .i64 b.till]] w fun r w' => r = .returned (.string (bs (baText b))) ∧ Below w.heap.size w w' := by
  have hR := fun w => baRight_any b hf w
  cases hr : baRight b with
  | false =>
    rw [baText_bad b hr]
    rw [hr] at hR
    have HR := Lib.hid hR; clear hR
    go_enter Try.func56, Try.ntmps56
    go_wp2_with (go_at_call 57; (with_reducible refine (HR.out _).mono ?_); rintro e w1 ⟨rfl, b1⟩; obtain ⟨c1, f1⟩ := bcell b1; have z1 := b1.size; (try simp at z1); have d1a := fun o => c1 (w.heap.size) o (by first | omega | (simp; done) | (simp; omega)); clear c1 f1)
    go_ret
    refine ⟨rfl, ?_⟩
    (repeat (first | with_reducible assumption | with_reducible exact Below.refl _ _ | with_reducible refine Below.setCell ?_ (by first | omega | (simp; done) | (simp; omega)) _ | with_reducible refine Below.alloc ?_ (by first | omega | (simp; done) | (simp; omega)) _ | with_reducible refine Below.drew ?_ | (with_reducible refine Below.trans ?_ (Below.mono (by with_reducible assumption) (by first | omega | (simp; done) | (simp; omega)))) | (refine Below.trans ?_ (Below.mono (by assumption) (by first | omega | (simp; done) | (simp; omega))))))
  | true =>
    rw [hr] at hR
    obtain ⟨r1, r2, r3⟩ := (baRight_iff b).1 hr
    have htl := baText_len b hf
    have hj : baText b = joinL 32 [ntText b.nt, untilL, decText b.till] := by unfold baText; rw [if_pos hr]
    rw [hj] at htl ⊢
    have HT := Lib.hid (fun w => ntText_any b.nt hf w)
    have HD := Lib.hid (fun w => decText_any b.till (by omega) (by omega) w)
    generalize ntText b.nt = x at *
    generalize decText b.till = t at *
    have HROW := Lib.hid (fun W => ban_row x t W (by omega))
    have HR := Lib.hid hR
    clear hR hr hj htl
    generalize joinL 32 [x, untilL, t] = res at *
    go_enter Try.func56, Try.ntmps56
    go_wp2_with (go_at_call 57; (with_reducible refine (HR.out _).mono ?_); rintro e w1 ⟨rfl, b1⟩; obtain ⟨c1, f1⟩ := bcell b1; have z1 := b1.size; (try simp at z1); have d1a := fun o => c1 (w.heap.size) o (by first | omega | (simp; done) | (simp; omega)); clear c1 f1)
    go_name_world WWx hWWx
    have ex0 : ∀ Y, (ext WWx Y).cell? ⟨w.heap.size, 0, none⟩ = some (.bool b.nt.ad.v6) := by subst hWWx; intro Y; exact (ext_cell _ Y (by first | omega | (simp; done) | (simp; omega))).trans (by first | (simp (disch := first | omega | (simp; omega)) [World.cell?_alloc_past, *]; done) | (simp (disch := first | omega | (simp; omega)) [World.cell?_setCell_far, World.cell?_alloc_past, *]; done) | (simp (disch := first | omega | (simp; omega)) [World.cell?_alloc_past, *]; rfl) | (simp (disch := first | omega | (simp; omega)) [World.cell?_setCell_far, World.cell?_alloc_past, *]; rfl) | (simp [go_sem, *]; done) | (simp (disch := first | omega | (simp; omega) | (simp [go_sem, *]; done)) [go_sem, World.cell?_setCell_far, World.cell?_alloc_past, *]; done))
    have ex1 : ∀ Y, (ext WWx Y).cell? ⟨w.heap.size, 1, none⟩ = some (.int .u64 b.nt.ad.hi) := by subst hWWx; intro Y; exact (ext_cell _ Y (by first | omega | (simp; done) | (simp; omega))).trans (by first | (simp (disch := first | omega | (simp; omega)) [World.cell?_alloc_past, *]; done) | (simp (disch := first | omega | (simp; omega)) [World.cell?_setCell_far, World.cell?_alloc_past, *]; done) | (simp (disch := first | omega | (simp; omega)) [World.cell?_alloc_past, *]; rfl) | (simp (disch := first | omega | (simp; omega)) [World.cell?_setCell_far, World.cell?_alloc_past, *]; rfl) | (simp [go_sem, *]; done) | (simp (disch := first | omega | (simp; omega) | (simp [go_sem, *]; done)) [go_sem, World.cell?_setCell_far, World.cell?_alloc_past, *]; done))
    have ex2 : ∀ Y, (ext WWx Y).cell? ⟨w.heap.size, 2, none⟩ = some (.int .u64 b.nt.ad.lo) := by subst hWWx; intro Y; exact (ext_cell _ Y (by first | omega | (simp; done) | (simp; omega))).trans (by first | (simp (disch := first | omega | (simp; omega)) [World.cell?_alloc_past, *]; done) | (simp (disch := first | omega | (simp; omega)) [World.cell?_setCell_far, World.cell?_alloc_past, *]; done) | (simp (disch := first | omega | (simp; omega)) [World.cell?_alloc_past, *]; rfl) | (simp (disch := first | omega | (simp; omega)) [World.cell?_setCell_far, World.cell?_alloc_past, *]; rfl) | (simp [go_sem, *]; done) | (simp (disch := first | omega | (simp; omega) | (simp [go_sem, *]; done)) [go_sem, World.cell?_setCell_far, World.cell?_alloc_past, *]; done))
    have ex3 : ∀ Y, (ext WWx Y).cell? ⟨w.heap.size, 3, none⟩ = some (.int .i64 b.nt.bits) := by subst hWWx; intro Y; exact (ext_cell _ Y (by first | omega | (simp; done) | (simp; omega))).trans (by first | (simp (disch := first | omega | (simp; omega)) [World.cell?_alloc_past, *]; done) | (simp (disch := first | omega | (simp; omega)) [World.cell?_setCell_far, World.cell?_alloc_past, *]; done) | (simp (disch := first | omega | (simp; omega)) [World.cell?_alloc_past, *]; rfl) | (simp (disch := first | omega | (simp; omega)) [World.cell?_setCell_far, World.cell?_alloc_past, *]; rfl) | (simp [go_sem, *]; done) | (simp (disch := first | omega | (simp; omega) | (simp [go_sem, *]; done)) [go_sem, World.cell?_setCell_far, World.cell?_alloc_past, *]; done))
    have ex4 : ∀ Y, (ext WWx Y).cell? ⟨w.heap.size, 4, none⟩ = some (.int .i64 b.till) := by subst hWWx; intro Y; exact (ext_cell _ Y (by first | omega | (simp; done) | (simp; omega))).trans (by first | (simp (disch := first | omega | (simp; omega)) [World.cell?_alloc_past, *]; done) | (simp (disch := first | omega | (simp; omega)) [World.cell?_setCell_far, World.cell?_alloc_past, *]; done) | (simp (disch := first | omega | (simp; omega)) [World.cell?_alloc_past, *]; rfl) | (simp (disch := first | omega | (simp; omega)) [World.cell?_setCell_far, World.cell?_alloc_past, *]; rfl) | (simp [go_sem, *]; done) | (simp (disch := first | omega | (simp; omega) | (simp [go_sem, *]; done)) [go_sem, World.cell?_setCell_far, World.cell?_alloc_past, *]; done))
    have bWx : Below w.heap.size w WWx := by subst hWWx; (repeat (first | assumption | exact Below.refl _ _ | refine Below.setCell ?_ (by first | omega | (simp; done) | (simp; omega)) _ | refine Below.alloc ?_ (by first | omega | (simp; done) | (simp; omega)) _ | refine Below.drew ?_ | (refine Below.trans ?_ (Below.mono (by assumption) (by first | omega | (simp; done) | (simp; omega))))))
    have lWx0 : w.heap.size < WWx.heap.size := by subst hWWx; first | omega | (simp; done) | (simp; omega)
    clear hWWx
    refine wp_region_ext_tail 6 (by kernel_rfl) (by kernel_rfl) ?_
    simp only [List.take_succ_cons, List.take_zero, List.drop_succ_cons, List.drop_zero]
    repeat (go_big_quiet_step ((first | (go_at_call 115; with_reducible exact qe (HT.out _)) | (go_at_call 87; with_reducible exact qe (HD.out _)))))
    refine wpQuiet_nil ?_
    intro _ hw'
    obtain ⟨x, hw''⟩ := hw'
    subst hw''
    have px0 := ex0 x
    have px1 := ex1 x
    have px2 := ex2 x
    have px3 := ex3 x
    have px4 := ex4 x
    clear ex0 ex1 ex2 ex3 ex4
    have bwx := bWx.trans ((ext_below WWx x).mono bWx.size)
    have zwx := bwx.size
    have zex := (ext_below WWx x).size
    go_wp2_with (go_at_call 74; (refine (HROW.out _).mono ?_); rintro e w3 ⟨rfl, b3⟩; obtain ⟨c3, f3⟩ := bcell b3; have z3 := b3.size; (try simp at z3); clear c3 f3)
    go_ret
    refine ⟨rfl, ?_⟩
    (repeat (first | with_reducible assumption | with_reducible exact Below.refl _ _ | with_reducible refine Below.setCell ?_ (by first | omega | (simp; done) | (simp; omega)) _ | with_reducible refine Below.alloc ?_ (by first | omega | (simp; done) | (simp; omega)) _ | with_reducible refine Below.drew ?_ | (with_reducible refine Below.trans ?_ (Below.mono (by with_reducible assumption) (by first | omega | (simp; done) | (simp; omega)))) | (refine Below.trans ?_ (Below.mono (by assumption) (by first | omega | (simp; done) | (simp; omega))))))
set_option maxRecDepth 100000 in
set_option maxHeartbeats 4000000 in
theorem refBaText_any (b : Ba) (hf : b.nt.ad.fits) (w : World) : Calls Try.prog 65 #[.agg #[.bool b.nt.ad.v6, .int .u64 b.nt.ad.hi, .int .u64 b.nt.ad.lo, .int .i64 b.nt.bits, .int .i64 b.till]] w fun r w' => r = .returned (.string (bs (baText b))) ∧ Below w.heap.size w w' := by
  have hR := fun w => refBaRight_any b hf w
  cases hr : baRight b with
  | false =>
    rw [baText_bad b hr]
    rw [hr] at hR
    have HR := Lib.hid hR; clear hR
    go_enter Try.func65, Try.ntmps65
    go_wp2_with (go_at_call 62; (with_reducible refine (HR.out _).mono ?_); rintro e w1 ⟨rfl, b1⟩; obtain ⟨c1, f1⟩ := bcell b1; have z1 := b1.size; (try simp at z1); have d1a := fun o => c1 (w.heap.size) o (by first | omega | (simp; done) | (simp; omega)); clear c1 f1)
    go_ret
    refine ⟨rfl, ?_⟩
    (repeat (first | with_reducible assumption | with_reducible exact Below.refl _ _ | with_reducible refine Below.setCell ?_ (by first | omega | (simp; done) | (simp; omega)) _ | with_reducible refine Below.alloc ?_ (by first | omega | (simp; done) | (simp; omega)) _ | with_reducible refine Below.drew ?_ | (with_reducible refine Below.trans ?_ (Below.mono (by with_reducible assumption) (by first | omega | (simp; done) | (simp; omega)))) | (refine Below.trans ?_ (Below.mono (by assumption) (by first | omega | (simp; done) | (simp; omega))))))
  | true =>
    rw [hr] at hR
    obtain ⟨r1, r2, r3⟩ := (baRight_iff b).1 hr
    have hb := baText_good b hr
    have htl := baText_len b hf
    have HT := Lib.hid (fun w => refNtText_any b.nt hf w)
    have HD := Lib.hid (fun w => refText_any b.till (by omega) (by omega) w)
    have hl : (ntText b.nt).length ≤ 3000 := by rw [hb, List.length_append] at htl; omega
    have hl2 : (decText b.till).length ≤ 21 := decText_len _ (by omega) (by omega)
    generalize baText b = res at *
    generalize ntText b.nt = x at *
    generalize decText b.till = t at *
    have hres : bs x ++ bs [32, 117, 110, 116, 105, 108, 32] ++ bs t = bs res := by rw [hb]; simp only [bs_append]; simp [untilL]
    rw [← bs_size] at hl hl2
    have z0 : (bs [32, 117, 110, 116, 105, 108, 32]).size = 7 := by rw [bs_size]; rfl
    have s1 : ¬ 9223372036854775807 < (bs x).size + (bs [32, 117, 110, 116, 105, 108, 32]).size := by omega
    have s2 : ¬ 9223372036854775807 < (bs x ++ bs [32, 117, 110, 116, 105, 108, 32]).size + (bs t).size := by rw [ByteArray.size_append]; omega
    have HRES := Lib.hid hres
    have HR := Lib.hid hR
    clear hR hr hb htl hres z0
    go_enter Try.func65, Try.ntmps65
    go_wp2_with (go_at_call 62; (with_reducible refine (HR.out _).mono ?_); rintro e w1 ⟨rfl, b1⟩; obtain ⟨c1, f1⟩ := bcell b1; have z1 := b1.size; (try simp at z1); have d1a := fun o => c1 (w.heap.size) o (by first | omega | (simp; done) | (simp; omega)); clear c1 f1)
    go_name_world WWx hWWx
    have ex0 : ∀ Y, (ext WWx Y).cell? ⟨w.heap.size, 0, none⟩ = some (.bool b.nt.ad.v6) := by subst hWWx; intro Y; exact (ext_cell _ Y (by first | omega | (simp; done) | (simp; omega))).trans (by first | (simp (disch := first | omega | (simp; omega)) [World.cell?_alloc_past, *]; done) | (simp (disch := first | omega | (simp; omega)) [World.cell?_setCell_far, World.cell?_alloc_past, *]; done) | (simp (disch := first | omega | (simp; omega)) [World.cell?_alloc_past, *]; rfl) | (simp (disch := first | omega | (simp; omega)) [World.cell?_setCell_far, World.cell?_alloc_past, *]; rfl) | (simp [go_sem, *]; done) | (simp (disch := first | omega | (simp; omega) | (simp [go_sem, *]; done)) [go_sem, World.cell?_setCell_far, World.cell?_alloc_past, *]; done))
    have ex1 : ∀ Y, (ext WWx Y).cell? ⟨w.heap.size, 1, none⟩ = some (.int .u64 b.nt.ad.hi) := by subst hWWx; intro Y; exact (ext_cell _ Y (by first | omega | (simp; done) | (simp; omega))).trans (by first | (simp (disch := first | omega | (simp; omega)) [World.cell?_alloc_past, *]; done) | (simp (disch := first | omega | (simp; omega)) [World.cell?_setCell_far, World.cell?_alloc_past, *]; done) | (simp (disch := first | omega | (simp; omega)) [World.cell?_alloc_past, *]; rfl) | (simp (disch := first | omega | (simp; omega)) [World.cell?_setCell_far, World.cell?_alloc_past, *]; rfl) | (simp [go_sem, *]; done) | (simp (disch := first | omega | (simp; omega) | (simp [go_sem, *]; done)) [go_sem, World.cell?_setCell_far, World.cell?_alloc_past, *]; done))
    have ex2 : ∀ Y, (ext WWx Y).cell? ⟨w.heap.size, 2, none⟩ = some (.int .u64 b.nt.ad.lo) := by subst hWWx; intro Y; exact (ext_cell _ Y (by first | omega | (simp; done) | (simp; omega))).trans (by first | (simp (disch := first | omega | (simp; omega)) [World.cell?_alloc_past, *]; done) | (simp (disch := first | omega | (simp; omega)) [World.cell?_setCell_far, World.cell?_alloc_past, *]; done) | (simp (disch := first | omega | (simp; omega)) [World.cell?_alloc_past, *]; rfl) | (simp (disch := first | omega | (simp; omega)) [World.cell?_setCell_far, World.cell?_alloc_past, *]; rfl) | (simp [go_sem, *]; done) | (simp (disch := first | omega | (simp; omega) | (simp [go_sem, *]; done)) [go_sem, World.cell?_setCell_far, World.cell?_alloc_past, *]; done))
    have ex3 : ∀ Y, (ext WWx Y).cell? ⟨w.heap.size, 3, none⟩ = some (.int .i64 b.nt.bits) := by subst hWWx; intro Y; exact (ext_cell _ Y (by first | omega | (simp; done) | (simp; omega))).trans (by first | (simp (disch := first | omega | (simp; omega)) [World.cell?_alloc_past, *]; done) | (simp (disch := first | omega | (simp; omega)) [World.cell?_setCell_far, World.cell?_alloc_past, *]; done) | (simp (disch := first | omega | (simp; omega)) [World.cell?_alloc_past, *]; rfl) | (simp (disch := first | omega | (simp; omega)) [World.cell?_setCell_far, World.cell?_alloc_past, *]; rfl) | (simp [go_sem, *]; done) | (simp (disch := first | omega | (simp; omega) | (simp [go_sem, *]; done)) [go_sem, World.cell?_setCell_far, World.cell?_alloc_past, *]; done))
    have ex4 : ∀ Y, (ext WWx Y).cell? ⟨w.heap.size, 4, none⟩ = some (.int .i64 b.till) := by subst hWWx; intro Y; exact (ext_cell _ Y (by first | omega | (simp; done) | (simp; omega))).trans (by first | (simp (disch := first | omega | (simp; omega)) [World.cell?_alloc_past, *]; done) | (simp (disch := first | omega | (simp; omega)) [World.cell?_setCell_far, World.cell?_alloc_past, *]; done) | (simp (disch := first | omega | (simp; omega)) [World.cell?_alloc_past, *]; rfl) | (simp (disch := first | omega | (simp; omega)) [World.cell?_setCell_far, World.cell?_alloc_past, *]; rfl) | (simp [go_sem, *]; done) | (simp (disch := first | omega | (simp; omega) | (simp [go_sem, *]; done)) [go_sem, World.cell?_setCell_far, World.cell?_alloc_past, *]; done))
    have bWx : Below w.heap.size w WWx := by subst hWWx; (repeat (first | assumption | exact Below.refl _ _ | refine Below.setCell ?_ (by first | omega | (simp; done) | (simp; omega)) _ | refine Below.alloc ?_ (by first | omega | (simp; done) | (simp; omega)) _ | refine Below.drew ?_ | (refine Below.trans ?_ (Below.mono (by assumption) (by first | omega | (simp; done) | (simp; omega))))))
    have lWx0 : w.heap.size < WWx.heap.size := by subst hWWx; first | omega | (simp; done) | (simp; omega)
    clear hWWx
    try simp only [List.append_eq, List.cons_append, List.nil_append]
    refine wp_region_ext (by kernel_rfl) (by kernel_rfl) ?_
    repeat (go_big_quiet_step ((first | (go_at_call 121; with_reducible exact qe (HT.out _)) | (go_at_call 77; with_reducible exact qe (HD.out _)))))
    refine wpQuiet_nil ?_
    intro _ hw'
    obtain ⟨x, hw''⟩ := hw'
    subst hw''
    have px0 := ex0 x
    have px1 := ex1 x
    have px2 := ex2 x
    have px3 := ex3 x
    have px4 := ex4 x
    clear ex0 ex1 ex2 ex3 ex4
    have bwx := bWx.trans ((ext_below WWx x).mono bWx.size)
    have zwx := bwx.size
    have zex := (ext_below WWx x).size
    go_wp2_with fail
    go_ret
    exact ⟨ret_str HRES.out, bwx⟩
set_option maxRecDepth 100000 in
set_option maxHeartbeats 4000000 in
theorem baJoin_any (a b : Ba) (w : World) : Calls Try.prog 64 #[.agg #[.bool a.nt.ad.v6, .int .u64 a.nt.ad.hi, .int .u64 a.nt.ad.lo, .int .i64 a.nt.bits, .int .i64 a.till], .agg #[.bool b.nt.ad.v6, .int .u64 b.nt.ad.hi, .int .u64 b.nt.ad.lo, .int .i64 b.nt.bits, .int .i64 b.till]] w fun r w' => r = .returned (.agg #[.bool (baJoin a b).nt.ad.v6, .int .u64 (baJoin a b).nt.ad.hi, .int .u64 (baJoin a b).nt.ad.lo, .int .i64 (baJoin a b).nt.bits, .int .i64 (baJoin a b).till]) ∧ Below w.heap.size w w' := by
  have q := fun W => eqlNt a.nt b.nt W
  by_cases h : a.nt = b.nt
  · have hm : baJoin a b = ⟨a.nt, max a.till b.till⟩ := by
      unfold baJoin
      split
      · rename_i c; exact Ba.ext' h.symm (by simp only; omega)
      · rename_i c; exact Ba.ext' rfl (by simp only; have : ¬ a.till < b.till := fun d => c ⟨h, d⟩; omega)
    rw [hm]; simp only
    rw [decide_eq_true h] at q
    clear h hm
    go_enter Try.func64, Try.ntmps64
    go_wp2_with fail
    refine bodyPost_named fun W9 h9 => ?_
    have e90 : W9.cell? ⟨w.heap.size + 2, 0, none⟩ = some (.bool a.nt.ad.v6) := by subst h9; (first | (simp [go_sem, *]; done) | (simp (disch := first | omega | (simp; omega) | (simp [go_sem, *]; done)) [go_sem, World.cell?_setCell_far, World.cell?_alloc_past, *]; done))
    have e91 : W9.cell? ⟨w.heap.size + 2, 1, none⟩ = some (.int .u64 a.nt.ad.hi) := by subst h9; (first | (simp [go_sem, *]; done) | (simp (disch := first | omega | (simp; omega) | (simp [go_sem, *]; done)) [go_sem, World.cell?_setCell_far, World.cell?_alloc_past, *]; done))
    have e92 : W9.cell? ⟨w.heap.size + 2, 2, none⟩ = some (.int .u64 a.nt.ad.lo) := by subst h9; (first | (simp [go_sem, *]; done) | (simp (disch := first | omega | (simp; omega) | (simp [go_sem, *]; done)) [go_sem, World.cell?_setCell_far, World.cell?_alloc_past, *]; done))
    have e93 : W9.cell? ⟨w.heap.size + 2, 3, none⟩ = some (.int .i64 a.nt.bits) := by subst h9; (first | (simp [go_sem, *]; done) | (simp (disch := first | omega | (simp; omega) | (simp [go_sem, *]; done)) [go_sem, World.cell?_setCell_far, World.cell?_alloc_past, *]; done))
    have e94 : W9.cell? ⟨w.heap.size + 2, 4, none⟩ = some (.int .i64 (max a.till b.till)) := by subst h9; (first | (simp [go_sem, *]; done) | (simp (disch := first | omega | (simp; omega) | (simp [go_sem, *]; done)) [go_sem, World.cell?_setCell_far, World.cell?_alloc_past, *]; done))
    have b9 : Below w.heap.size w W9 := by subst h9; (repeat (first | with_reducible assumption | with_reducible exact Below.refl _ _ | with_reducible refine Below.setCell ?_ (by first | omega | (simp; done) | (simp; omega)) _ | with_reducible refine Below.alloc ?_ (by first | omega | (simp; done) | (simp; omega)) _ | with_reducible refine Below.drew ?_ | (with_reducible refine Below.trans ?_ (Below.mono (by with_reducible assumption) (by first | omega | (simp; done) | (simp; omega)))) | (refine Below.trans ?_ (Below.mono (by assumption) (by first | omega | (simp; done) | (simp; omega))))))
    clear h9
    refine bodyPost_ret (v := .agg #[.bool a.nt.ad.v6, .int .u64 a.nt.ad.hi, .int .u64 a.nt.ad.lo, .int .i64 a.nt.bits, .int .i64 (max a.till b.till)]) (by simp [results, Try.results64, go_sem, e90, e91, e92, e93, e94]) rfl ⟨?_, b9⟩
    exact rfl
  · have hm : baJoin a b = a := by unfold baJoin; rw [if_neg (fun c => h c.1)]
    rw [hm]
    rw [decide_eq_false h] at q
    clear h hm
    go_enter Try.func64, Try.ntmps64
    go_wp2_with fail
    refine bodyPost_named fun W9 h9 => ?_
    have e90 : W9.cell? ⟨w.heap.size + 2, 0, none⟩ = some (.bool a.nt.ad.v6) := by subst h9; (first | (simp [go_sem, *]; done) | (simp (disch := first | omega | (simp; omega) | (simp [go_sem, *]; done)) [go_sem, World.cell?_setCell_far, World.cell?_alloc_past, *]; done))
    have e91 : W9.cell? ⟨w.heap.size + 2, 1, none⟩ = some (.int .u64 a.nt.ad.hi) := by subst h9; (first | (simp [go_sem, *]; done) | (simp (disch := first | omega | (simp; omega) | (simp [go_sem, *]; done)) [go_sem, World.cell?_setCell_far, World.cell?_alloc_past, *]; done))
    have e92 : W9.cell? ⟨w.heap.size + 2, 2, none⟩ = some (.int .u64 a.nt.ad.lo) := by subst h9; (first | (simp [go_sem, *]; done) | (simp (disch := first | omega | (simp; omega) | (simp [go_sem, *]; done)) [go_sem, World.cell?_setCell_far, World.cell?_alloc_past, *]; done))
    have e93 : W9.cell? ⟨w.heap.size + 2, 3, none⟩ = some (.int .i64 a.nt.bits) := by subst h9; (first | (simp [go_sem, *]; done) | (simp (disch := first | omega | (simp; omega) | (simp [go_sem, *]; done)) [go_sem, World.cell?_setCell_far, World.cell?_alloc_past, *]; done))
    have e94 : W9.cell? ⟨w.heap.size + 2, 4, none⟩ = some (.int .i64 a.till) := by subst h9; (first | (simp [go_sem, *]; done) | (simp (disch := first | omega | (simp; omega) | (simp [go_sem, *]; done)) [go_sem, World.cell?_setCell_far, World.cell?_alloc_past, *]; done))
    have b9 : Below w.heap.size w W9 := by subst h9; (repeat (first | with_reducible assumption | with_reducible exact Below.refl _ _ | with_reducible refine Below.setCell ?_ (by first | omega | (simp; done) | (simp; omega)) _ | with_reducible refine Below.alloc ?_ (by first | omega | (simp; done) | (simp; omega)) _ | with_reducible refine Below.drew ?_ | (with_reducible refine Below.trans ?_ (Below.mono (by with_reducible assumption) (by first | omega | (simp; done) | (simp; omega)))) | (refine Below.trans ?_ (Below.mono (by assumption) (by first | omega | (simp; done) | (simp; omega))))))
    clear h9
    refine bodyPost_ret (v := .agg #[.bool a.nt.ad.v6, .int .u64 a.nt.ad.hi, .int .u64 a.nt.ad.lo, .int .i64 a.nt.bits, .int .i64 a.till]) (by simp [results, Try.results64, go_sem, e90, e91, e92, e93, e94]) rfl ⟨?_, b9⟩
    exact rfl
end Go.Proofs.Ytnohkfbapibmdaa
