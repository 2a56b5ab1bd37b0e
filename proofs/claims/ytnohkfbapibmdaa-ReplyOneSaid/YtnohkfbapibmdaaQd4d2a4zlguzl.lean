/- Texts put together: PeerA, PeerT, Peer, PeerX, PeerB, PeerW. No condition. -/
import Derived.Test.YtnohkfbapibmdaaQ2e5588qlirws
import Derived.Test.YtnohkfbapibmdaaEnd
import Derived.Test.YtnohkfbapibmdaaEq
import Derived.Test.YtnohkfbapibmdaaQc03ddbjgfcrr
import Derived.Test.YtnohkfbapibmdaaQ105fafvovlkh
import Derived.Test.YtnohkfbapibmdaaCells
/- Peers held against each other; the contracts of a new peer. -/
namespace Go.Proofs.Ytnohkfbapibmdaa
open Go.RowKit
set_option linter.unusedSimpArgs false
set_option linter.unusedVariables false

theorem peIff (a b : Pe) : a = b ↔ a.en.ad.v6 = b.en.ad.v6 ∧ (a.en.ad.hi : Int) = b.en.ad.hi ∧ (a.en.ad.lo : Int) = b.en.ad.lo ∧ a.en.port = b.en.port ∧ a.came = b.came ∧ a.since = b.since ∧ a.pts = b.pts ∧ a.at_ = b.at_ ∧ a.ping = b.ping ∧ a.work = b.work :=
  ⟨fun h => by subst h; exact ⟨rfl, rfl, rfl, rfl, rfl, rfl, rfl, rfl, rfl, rfl⟩, fun ⟨h1, h2, h3, h4, h5, h6, h7, h8, h9, h10⟩ => Pe.ext' (En.ext' (Ad.ext' h1 (by omega) (by omega)) h4) h5 h6 h7 h8 h9 h10⟩
theorem eqlPe (a b : Pe) (W : World) : (binOp .eql 41 (.agg #[.bool a.en.ad.v6, .int .u64 a.en.ad.hi, .int .u64 a.en.ad.lo, .int .i64 a.en.port, .bool a.came, .int .i64 a.since, .int .i64 a.pts, .int .i64 a.at_, .int .i64 a.ping, .int .i64 a.work]) (.agg #[.bool b.en.ad.v6, .int .u64 b.en.ad.hi, .int .u64 b.en.ad.lo, .int .i64 b.en.port, .bool b.came, .int .i64 b.since, .int .i64 b.pts, .int .i64 b.at_, .int .i64 b.ping, .int .i64 b.work])).run Try.prog W = .ok (.bool (decide (a = b))) W := by
  go_simp
  by_cases h : a = b
  · have e := (peIff a b).1 h
    simp [e, h]
  · have e := fun e => h ((peIff a b).2 e)
    simp only [h]
    repeat' split
    all_goals simp_all
theorem neqPe (a b : Pe) (W : World) : (binOp .neq 41 (.agg #[.bool a.en.ad.v6, .int .u64 a.en.ad.hi, .int .u64 a.en.ad.lo, .int .i64 a.en.port, .bool a.came, .int .i64 a.since, .int .i64 a.pts, .int .i64 a.at_, .int .i64 a.ping, .int .i64 a.work]) (.agg #[.bool b.en.ad.v6, .int .u64 b.en.ad.hi, .int .u64 b.en.ad.lo, .int .i64 b.en.port, .bool b.came, .int .i64 b.since, .int .i64 b.pts, .int .i64 b.at_, .int .i64 b.ping, .int .i64 b.work])).run Try.prog W = .ok (.bool (!decide (a = b))) W := by
  go_simp
  by_cases h : a = b
  · have e := (peIff a b).1 h
    simp [e, h]
  · have e := fun e => h ((peIff a b).2 e)
    simp only [h]
    repeat' split
    all_goals simp_all
set_option maxHeartbeats 1000000 in
theorem within_any (n m : Int) (w : World) : Calls Try.prog 81 #[.int .i64 n, .int .i64 m] w fun e w' => e = .returned (.bool (withinB n m)) ∧ w = w' := by
  unfold withinB
  rcases Int.lt_or_le n 0 with h | h
  · rw [decide_eq_false (by omega)]
    have hd : decide (0 ≤ n) = false := decide_eq_false (by omega)
    go_enter Try.func81, Try.ntmps81
    go_wp2
    go_ret
    exact ⟨rfl, rfl⟩
  · rw [decide_eq_true h]
    rcases Int.lt_or_le m n with h2 | h2
    · have hd : decide (n ≤ m) = false := decide_eq_false (by omega)
      rw [hd]
      go_enter Try.func81, Try.ntmps81
      go_wp2
      go_ret
      exact ⟨rfl, rfl⟩
    · have hd : decide (n ≤ m) = true := decide_eq_true h2
      rw [hd]
      go_enter Try.func81, Try.ntmps81
      go_wp2
      go_ret
      exact ⟨rfl, rfl⟩
theorem way_any (b : Bool) (w : World) : Calls Try.prog 86 #[.bool b] w fun e w' => e = .returned (.string (bs (wayText b))) ∧ w = w' := by
  cases b with
  | true =>
    go_enter Try.func86, Try.ntmps86
    go_wp2
    go_ret
    exact ⟨rfl, rfl⟩
  | false =>
    go_enter Try.func86, Try.ntmps86
    go_wp2
    go_ret
    exact ⟨rfl, rfl⟩
set_option maxRecDepth 100000 in
set_option maxHeartbeats 2000000 in
theorem peNew_any (e : En) (b : Bool) (n : Int) (w : World) : Calls Try.prog 24 #[.agg #[.bool e.ad.v6, .int .u64 e.ad.hi, .int .u64 e.ad.lo, .int .i64 e.port], .bool b, .int .i64 n] w fun r w' => r = .returned (.agg #[.bool (peNew e b n).en.ad.v6, .int .u64 (peNew e b n).en.ad.hi, .int .u64 (peNew e b n).en.ad.lo, .int .i64 (peNew e b n).en.port, .bool (peNew e b n).came, .int .i64 (peNew e b n).since, .int .i64 (peNew e b n).pts, .int .i64 (peNew e b n).at_, .int .i64 (peNew e b n).ping, .int .i64 (peNew e b n).work]) ∧ Below w.heap.size w w' := by
  have HF := Lib.hid (fun w => fit_any n w)
  unfold peNew
  simp only
  generalize fitI n = t at *
  go_enter Try.func24, Try.ntmps24
  go_wp2_with (go_at_call 82; (with_reducible refine (HF.out _).mono ?_); rintro e w1 ⟨rfl, rfl⟩)
  refine bodyPost_ret (v := .agg #[.bool e.ad.v6, .int .u64 e.ad.hi, .int .u64 e.ad.lo, .int .i64 e.port, .bool b, .int .i64 t, .int .i64 0, .int .i64 t, .int .i64 0, .int .i64 0]) (by simp [results, Try.results24, go_sem, *]) rfl ⟨rfl, ?_⟩
  (repeat (first | assumption | exact Below.refl _ _ | refine Below.setCell ?_ (by first | omega | (simp; done) | (simp; omega)) _ | refine Below.alloc ?_ (by first | omega | (simp; done) | (simp; omega)) _ | refine Below.drew ?_ | (refine Below.trans ?_ (Below.mono (by assumption) (by first | omega | (simp; done) | (simp; omega))))))
set_option maxRecDepth 100000 in
set_option maxHeartbeats 2000000 in
theorem refPeNew_any (e : En) (b : Bool) (n : Int) (w : World) : Calls Try.prog 25 #[.agg #[.bool e.ad.v6, .int .u64 e.ad.hi, .int .u64 e.ad.lo, .int .i64 e.port], .bool b, .int .i64 n] w fun r w' => r = .returned (.agg #[.bool (peNew e b n).en.ad.v6, .int .u64 (peNew e b n).en.ad.hi, .int .u64 (peNew e b n).en.ad.lo, .int .i64 (peNew e b n).en.port, .bool (peNew e b n).came, .int .i64 (peNew e b n).since, .int .i64 (peNew e b n).pts, .int .i64 (peNew e b n).at_, .int .i64 (peNew e b n).ping, .int .i64 (peNew e b n).work]) ∧ Below w.heap.size w w' := by
  have HF := Lib.hid (fun w => refFit_any n w)
  unfold peNew
  simp only
  generalize fitI n = t at *
  go_enter Try.func25, Try.ntmps25
  go_wp2_with (go_at_call 83; (with_reducible refine (HF.out _).mono ?_); rintro e w1 ⟨rfl, rfl⟩)
  refine bodyPost_ret (v := .agg #[.bool e.ad.v6, .int .u64 e.ad.hi, .int .u64 e.ad.lo, .int .i64 e.port, .bool b, .int .i64 t, .int .i64 0, .int .i64 t, .int .i64 0, .int .i64 0]) (by simp [results, Try.results25, go_sem, *]) rfl ⟨rfl, ?_⟩
  (repeat (first | assumption | exact Below.refl _ _ | refine Below.setCell ?_ (by first | omega | (simp; done) | (simp; omega)) _ | refine Below.alloc ?_ (by first | omega | (simp; done) | (simp; omega)) _ | refine Below.drew ?_ | (refine Below.trans ?_ (Below.mono (by assumption) (by first | omega | (simp; done) | (simp; omega))))))
end Go.Proofs.Ytnohkfbapibmdaa
/- The contracts of peers: right, written. -/
namespace Go.Proofs.Ytnohkfbapibmdaa
open Go.RowKit
set_option linter.unusedSimpArgs false
set_option linter.unusedVariables false

theorem peRight_bad (p : Pe) (h : enRight p.en = false) : peRight p = false := by unfold peRight; rw [h]; rfl
set_option maxRecDepth 100000 in
set_option maxHeartbeats 8000000 in
theorem peRight_any (p : Pe) (hf : p.en.ad.fits) (w : World) : Calls Try.prog 22 #[.agg #[.bool p.en.ad.v6, .int .u64 p.en.ad.hi, .int .u64 p.en.ad.lo, .int .i64 p.en.port, .bool p.came, .int .i64 p.since, .int .i64 p.pts, .int .i64 p.at_, .int .i64 p.ping, .int .i64 p.work]] w fun r w' => r = .returned (.bool (peRight p)) ∧ Below w.heap.size w w' := by
  have hR := fun w => enRight_any p.en hf w
  have h1 := Lib.hid (fun w => within_any p.since 1099511627776 w)
  have h2 := Lib.hid (fun w => within_any p.at_ 1099511627776 w)
  have h3 := Lib.hid (fun w => within_any p.work 1099511627776 w)
  have h4 := Lib.hid (fun w => within_any p.pts 1099511627776 w)
  have h5 := Lib.hid (fun w => within_any p.ping 1048576 w)
  unfold peRight
  generalize enRight p.en = b0 at *
  generalize withinB p.since 1099511627776 = b1 at *
  generalize withinB p.at_ 1099511627776 = b2 at *
  generalize withinB p.work 1099511627776 = b3 at *
  generalize withinB p.pts 1099511627776 = b4 at *
  generalize withinB p.ping 1048576 = b5 at *
  have HR := Lib.hid hR; clear hR
  cases b0
  case true =>
    cases b1
    case true =>
      cases b2
      case true =>
        cases b3
        case true =>
          cases b4
          all_goals
            go_enter Try.func22, Try.ntmps22
            go_wp2_with (first | (go_at_call 80; (with_reducible refine (HR.out _).mono ?_); rintro e w1 ⟨rfl, b1⟩; obtain ⟨c1, f1⟩ := bcell b1; have z1 := b1.size; (try simp at z1); have d1a := fun o => c1 (w.heap.size) o (by first | omega | (simp; done) | (simp; omega)); clear c1 f1) | (go_at_call 81; (with_reducible refine (h1.out _).mono ?_); rintro e w2 ⟨rfl, rfl⟩) | (go_at_call 81; (with_reducible refine (h2.out _).mono ?_); rintro e w2 ⟨rfl, rfl⟩) | (go_at_call 81; (with_reducible refine (h3.out _).mono ?_); rintro e w2 ⟨rfl, rfl⟩) | (go_at_call 81; (with_reducible refine (h4.out _).mono ?_); rintro e w2 ⟨rfl, rfl⟩) | (go_at_call 81; (with_reducible refine (h5.out _).mono ?_); rintro e w2 ⟨rfl, rfl⟩))
            go_ret
            refine ⟨rfl, ?_⟩
            (repeat (first | assumption | exact Below.refl _ _ | refine Below.setCell ?_ (by first | omega | (simp; done) | (simp; omega)) _ | refine Below.alloc ?_ (by first | omega | (simp; done) | (simp; omega)) _ | refine Below.drew ?_ | (refine Below.trans ?_ (Below.mono (by assumption) (by first | omega | (simp; done) | (simp; omega))))))
        all_goals
          go_enter Try.func22, Try.ntmps22
          go_wp2_with (first | (go_at_call 80; (with_reducible refine (HR.out _).mono ?_); rintro e w1 ⟨rfl, b1⟩; obtain ⟨c1, f1⟩ := bcell b1; have z1 := b1.size; (try simp at z1); have d1a := fun o => c1 (w.heap.size) o (by first | omega | (simp; done) | (simp; omega)); clear c1 f1) | (go_at_call 81; (with_reducible refine (h1.out _).mono ?_); rintro e w2 ⟨rfl, rfl⟩) | (go_at_call 81; (with_reducible refine (h2.out _).mono ?_); rintro e w2 ⟨rfl, rfl⟩) | (go_at_call 81; (with_reducible refine (h3.out _).mono ?_); rintro e w2 ⟨rfl, rfl⟩))
          go_ret
          refine ⟨rfl, ?_⟩
          (repeat (first | assumption | exact Below.refl _ _ | refine Below.setCell ?_ (by first | omega | (simp; done) | (simp; omega)) _ | refine Below.alloc ?_ (by first | omega | (simp; done) | (simp; omega)) _ | refine Below.drew ?_ | (refine Below.trans ?_ (Below.mono (by assumption) (by first | omega | (simp; done) | (simp; omega))))))
      all_goals
        go_enter Try.func22, Try.ntmps22
        go_wp2_with (first | (go_at_call 80; (with_reducible refine (HR.out _).mono ?_); rintro e w1 ⟨rfl, b1⟩; obtain ⟨c1, f1⟩ := bcell b1; have z1 := b1.size; (try simp at z1); have d1a := fun o => c1 (w.heap.size) o (by first | omega | (simp; done) | (simp; omega)); clear c1 f1) | (go_at_call 81; (with_reducible refine (h1.out _).mono ?_); rintro e w2 ⟨rfl, rfl⟩) | (go_at_call 81; (with_reducible refine (h2.out _).mono ?_); rintro e w2 ⟨rfl, rfl⟩))
        go_ret
        refine ⟨rfl, ?_⟩
        (repeat (first | assumption | exact Below.refl _ _ | refine Below.setCell ?_ (by first | omega | (simp; done) | (simp; omega)) _ | refine Below.alloc ?_ (by first | omega | (simp; done) | (simp; omega)) _ | refine Below.drew ?_ | (refine Below.trans ?_ (Below.mono (by assumption) (by first | omega | (simp; done) | (simp; omega))))))
    all_goals
      go_enter Try.func22, Try.ntmps22
      go_wp2_with (first | (go_at_call 80; (with_reducible refine (HR.out _).mono ?_); rintro e w1 ⟨rfl, b1⟩; obtain ⟨c1, f1⟩ := bcell b1; have z1 := b1.size; (try simp at z1); have d1a := fun o => c1 (w.heap.size) o (by first | omega | (simp; done) | (simp; omega)); clear c1 f1) | (go_at_call 81; (with_reducible refine (h1.out _).mono ?_); rintro e w2 ⟨rfl, rfl⟩))
      go_ret
      refine ⟨rfl, ?_⟩
      (repeat (first | assumption | exact Below.refl _ _ | refine Below.setCell ?_ (by first | omega | (simp; done) | (simp; omega)) _ | refine Below.alloc ?_ (by first | omega | (simp; done) | (simp; omega)) _ | refine Below.drew ?_ | (refine Below.trans ?_ (Below.mono (by assumption) (by first | omega | (simp; done) | (simp; omega))))))
  all_goals
    go_enter Try.func22, Try.ntmps22
    go_wp2_with (first | (go_at_call 80; (with_reducible refine (HR.out _).mono ?_); rintro e w1 ⟨rfl, b1⟩; obtain ⟨c1, f1⟩ := bcell b1; have z1 := b1.size; (try simp at z1); have d1a := fun o => c1 (w.heap.size) o (by first | omega | (simp; done) | (simp; omega)); clear c1 f1))
    go_ret
    refine ⟨rfl, ?_⟩
    (repeat (first | assumption | exact Below.refl _ _ | refine Below.setCell ?_ (by first | omega | (simp; done) | (simp; omega)) _ | refine Below.alloc ?_ (by first | omega | (simp; done) | (simp; omega)) _ | refine Below.drew ?_ | (refine Below.trans ?_ (Below.mono (by assumption) (by first | omega | (simp; done) | (simp; omega))))))
set_option maxRecDepth 100000 in
set_option maxHeartbeats 8000000 in
theorem refPeRight_any (p : Pe) (hf : p.en.ad.fits) (w : World) : Calls Try.prog 23 #[.agg #[.bool p.en.ad.v6, .int .u64 p.en.ad.hi, .int .u64 p.en.ad.lo, .int .i64 p.en.port, .bool p.came, .int .i64 p.since, .int .i64 p.pts, .int .i64 p.at_, .int .i64 p.ping, .int .i64 p.work]] w fun r w' => r = .returned (.bool (peRight p)) ∧ Below w.heap.size w w' := by
  have hR := fun w => refEnRight_any p.en hf w
  have k : ∀ n m : Int, (withinB n m = false ∧ decide (n < 0) = true ∧ decide (0 ≤ n) = false) ∨ (withinB n m = false ∧ decide (n < 0) = false ∧ decide (0 ≤ n) = true ∧ decide (m < n) = true ∧ decide (n ≤ m) = false) ∨ (withinB n m = true ∧ decide (n < 0) = false ∧ decide (0 ≤ n) = true ∧ decide (m < n) = false ∧ decide (n ≤ m) = true) := fun n m => by
    unfold withinB
    by_cases h1 : n < 0
    · exact Or.inl ⟨by rw [decide_eq_false (by omega)]; rfl, decide_eq_true h1, decide_eq_false (by omega)⟩
    · by_cases h2 : m < n
      · exact Or.inr (Or.inl ⟨by rw [decide_eq_false (p := n ≤ m) (by omega)]; simp, decide_eq_false h1, decide_eq_true (by omega), decide_eq_true h2, decide_eq_false (by omega)⟩)
      · exact Or.inr (Or.inr ⟨by rw [decide_eq_true (p := n ≤ m) (by omega), decide_eq_true (p := 0 ≤ n) (by omega)]; rfl, decide_eq_false h1, decide_eq_true (by omega), decide_eq_false h2, decide_eq_true (by omega)⟩)
  have k1 := k p.since 1099511627776; have k2 := k p.at_ 1099511627776; have k3 := k p.work 1099511627776; have k4 := k p.pts 1099511627776; have k5 := k p.ping 1048576
  unfold peRight
  generalize enRight p.en = b0 at *
  have HR := Lib.hid hR; clear hR k
  cases b0
  case false =>
    clear k1 k2 k3 k4 k5
    go_enter Try.func23, Try.ntmps23
    go_wp2_with (first | (go_at_call 78; (with_reducible refine (HR.out _).mono ?_); rintro e w1 ⟨rfl, b1⟩; obtain ⟨c1, f1⟩ := bcell b1; have z1 := b1.size; (try simp at z1); have d1a := fun o => c1 (w.heap.size) o (by first | omega | (simp; done) | (simp; omega)); clear c1 f1))
    go_ret
    refine ⟨rfl, ?_⟩
    (repeat (first | assumption | exact Below.refl _ _ | refine Below.setCell ?_ (by first | omega | (simp; done) | (simp; omega)) _ | refine Below.alloc ?_ (by first | omega | (simp; done) | (simp; omega)) _ | refine Below.drew ?_ | (refine Below.trans ?_ (Below.mono (by assumption) (by first | omega | (simp; done) | (simp; omega))))))
  case true =>
    rcases k1 with ⟨e1, d1, d2⟩ | ⟨e1, d1, d2, d3, d4⟩ | ⟨e1, d1, d2, d3, d4⟩ <;> rw [e1] <;> clear e1
    case inr.inr =>
      rcases k2 with ⟨e1, f1, f2⟩ | ⟨e1, f1, f2, f3, f4⟩ | ⟨e1, f1, f2, f3, f4⟩ <;> rw [e1] <;> clear e1
      case inr.inr =>
        rcases k3 with ⟨e1, g1, g2⟩ | ⟨e1, g1, g2, g3, g4⟩ | ⟨e1, g1, g2, g3, g4⟩ <;> rw [e1] <;> clear e1
        case inr.inr =>
          rcases k4 with ⟨e1, h1, h2⟩ | ⟨e1, h1, h2, h3, h4⟩ | ⟨e1, h1, h2, h3, h4⟩ <;> rw [e1] <;> clear e1
          case inr.inr =>
            rcases k5 with ⟨e1, i1, i2⟩ | ⟨e1, i1, i2, i3, i4⟩ | ⟨e1, i1, i2, i3, i4⟩ <;> rw [e1] <;> clear e1
            all_goals
              go_enter Try.func23, Try.ntmps23
              go_wp2_with (first | (go_at_call 78; (with_reducible refine (HR.out _).mono ?_); rintro e w1 ⟨rfl, b1⟩; obtain ⟨c1, f1⟩ := bcell b1; have z1 := b1.size; (try simp at z1); have d1a := fun o => c1 (w.heap.size) o (by first | omega | (simp; done) | (simp; omega)); clear c1 f1))
              go_ret
              refine ⟨rfl, ?_⟩
              (repeat (first | assumption | exact Below.refl _ _ | refine Below.setCell ?_ (by first | omega | (simp; done) | (simp; omega)) _ | refine Below.alloc ?_ (by first | omega | (simp; done) | (simp; omega)) _ | refine Below.drew ?_ | (refine Below.trans ?_ (Below.mono (by assumption) (by first | omega | (simp; done) | (simp; omega))))))
          all_goals
            clear k5
            go_enter Try.func23, Try.ntmps23
            go_wp2_with (first | (go_at_call 78; (with_reducible refine (HR.out _).mono ?_); rintro e w1 ⟨rfl, b1⟩; obtain ⟨c1, f1⟩ := bcell b1; have z1 := b1.size; (try simp at z1); have d1a := fun o => c1 (w.heap.size) o (by first | omega | (simp; done) | (simp; omega)); clear c1 f1))
            go_ret
            refine ⟨rfl, ?_⟩
            (repeat (first | assumption | exact Below.refl _ _ | refine Below.setCell ?_ (by first | omega | (simp; done) | (simp; omega)) _ | refine Below.alloc ?_ (by first | omega | (simp; done) | (simp; omega)) _ | refine Below.drew ?_ | (refine Below.trans ?_ (Below.mono (by assumption) (by first | omega | (simp; done) | (simp; omega))))))
        all_goals
          clear k4 k5
          go_enter Try.func23, Try.ntmps23
          go_wp2_with (first | (go_at_call 78; (with_reducible refine (HR.out _).mono ?_); rintro e w1 ⟨rfl, b1⟩; obtain ⟨c1, f1⟩ := bcell b1; have z1 := b1.size; (try simp at z1); have d1a := fun o => c1 (w.heap.size) o (by first | omega | (simp; done) | (simp; omega)); clear c1 f1))
          go_ret
          refine ⟨rfl, ?_⟩
          (repeat (first | assumption | exact Below.refl _ _ | refine Below.setCell ?_ (by first | omega | (simp; done) | (simp; omega)) _ | refine Below.alloc ?_ (by first | omega | (simp; done) | (simp; omega)) _ | refine Below.drew ?_ | (refine Below.trans ?_ (Below.mono (by assumption) (by first | omega | (simp; done) | (simp; omega))))))
      all_goals
        clear k3 k4 k5
        go_enter Try.func23, Try.ntmps23
        go_wp2_with (first | (go_at_call 78; (with_reducible refine (HR.out _).mono ?_); rintro e w1 ⟨rfl, b1⟩; obtain ⟨c1, f1⟩ := bcell b1; have z1 := b1.size; (try simp at z1); have d1a := fun o => c1 (w.heap.size) o (by first | omega | (simp; done) | (simp; omega)); clear c1 f1))
        go_ret
        refine ⟨rfl, ?_⟩
        (repeat (first | assumption | exact Below.refl _ _ | refine Below.setCell ?_ (by first | omega | (simp; done) | (simp; omega)) _ | refine Below.alloc ?_ (by first | omega | (simp; done) | (simp; omega)) _ | refine Below.drew ?_ | (refine Below.trans ?_ (Below.mono (by assumption) (by first | omega | (simp; done) | (simp; omega))))))
    all_goals
      clear k2 k3 k4 k5
      go_enter Try.func23, Try.ntmps23
      go_wp2_with (first | (go_at_call 78; (with_reducible refine (HR.out _).mono ?_); rintro e w1 ⟨rfl, b1⟩; obtain ⟨c1, f1⟩ := bcell b1; have z1 := b1.size; (try simp at z1); have d1a := fun o => c1 (w.heap.size) o (by first | omega | (simp; done) | (simp; omega)); clear c1 f1))
      go_ret
      refine ⟨rfl, ?_⟩
      (repeat (first | assumption | exact Below.refl _ _ | refine Below.setCell ?_ (by first | omega | (simp; done) | (simp; omega)) _ | refine Below.alloc ?_ (by first | omega | (simp; done) | (simp; omega)) _ | refine Below.drew ?_ | (refine Below.trans ?_ (Below.mono (by assumption) (by first | omega | (simp; done) | (simp; omega))))))
end Go.Proofs.Ytnohkfbapibmdaa
/- The contracts of what becomes of a peer: an answer. -/
namespace Go.Proofs.Ytnohkfbapibmdaa
open Go.RowKit

set_option maxRecDepth 100000 in
set_option maxHeartbeats 4000000 in
theorem pePong_any (p : Pe) (ms : Int) (w : World) : Calls Try.prog 26 #[.agg #[.bool p.en.ad.v6, .int .u64 p.en.ad.hi, .int .u64 p.en.ad.lo, .int .i64 p.en.port, .bool p.came, .int .i64 p.since, .int .i64 p.pts, .int .i64 p.at_, .int .i64 p.ping, .int .i64 p.work], .int .i64 ms] w fun r w' => r = .returned (.agg #[.bool (pePong p ms).en.ad.v6, .int .u64 (pePong p ms).en.ad.hi, .int .u64 (pePong p ms).en.ad.lo, .int .i64 (pePong p ms).en.port, .bool (pePong p ms).came, .int .i64 (pePong p ms).since, .int .i64 (pePong p ms).pts, .int .i64 (pePong p ms).at_, .int .i64 (pePong p ms).ping, .int .i64 (pePong p ms).work]) ∧ Below w.heap.size w w' := by
  unfold pePong
  rcases Int.lt_or_le ms 1 with h1 | h1
  · rw [if_neg (by omega)]
    have d1 : decide (ms < 1) = true := decide_eq_true h1
    have d2 : decide (1 ≤ ms) = false := decide_eq_false (by omega)
    go_enter Try.func26, Try.ntmps26
    go_wp2_with fail
    refine bodyPost_ret (v := .agg #[.bool p.en.ad.v6, .int .u64 p.en.ad.hi, .int .u64 p.en.ad.lo, .int .i64 p.en.port, .bool p.came, .int .i64 p.since, .int .i64 p.pts, .int .i64 p.at_, .int .i64 p.ping, .int .i64 p.work]) (by simp [results, Try.results26, go_sem, *]) rfl ⟨rfl, ?_⟩
    (repeat (first | assumption | exact Below.refl _ _ | refine Below.setCell ?_ (by first | omega | (simp; done) | (simp; omega)) _ | refine Below.alloc ?_ (by first | omega | (simp; done) | (simp; omega)) _ | refine Below.drew ?_ | (refine Below.trans ?_ (Below.mono (by assumption) (by first | omega | (simp; done) | (simp; omega))))))
  have d1 : decide (ms < 1) = false := decide_eq_false (by omega)
  have d2 : decide (1 ≤ ms) = true := decide_eq_true h1
  rcases Int.lt_or_le 1048576 ms with h2 | h2
  · rw [if_neg (by omega)]
    have d3 : decide (1048576 < ms) = true := decide_eq_true h2
    have d4 : decide (ms ≤ 1048576) = false := decide_eq_false (by omega)
    go_enter Try.func26, Try.ntmps26
    go_wp2_with fail
    refine bodyPost_ret (v := .agg #[.bool p.en.ad.v6, .int .u64 p.en.ad.hi, .int .u64 p.en.ad.lo, .int .i64 p.en.port, .bool p.came, .int .i64 p.since, .int .i64 p.pts, .int .i64 p.at_, .int .i64 p.ping, .int .i64 p.work]) (by simp [results, Try.results26, go_sem, *]) rfl ⟨rfl, ?_⟩
    (repeat (first | assumption | exact Below.refl _ _ | refine Below.setCell ?_ (by first | omega | (simp; done) | (simp; omega)) _ | refine Below.alloc ?_ (by first | omega | (simp; done) | (simp; omega)) _ | refine Below.drew ?_ | (refine Below.trans ?_ (Below.mono (by assumption) (by first | omega | (simp; done) | (simp; omega))))))
  have d3 : decide (1048576 < ms) = false := decide_eq_false (by omega)
  have d4 : decide (ms ≤ 1048576) = true := decide_eq_true h2
  by_cases h3 : p.ping = 0
  · rw [if_pos ⟨h1, h2, Or.inl h3⟩]
    simp only
    have hb1 : (p.ping == 0) = true := by rw [beq_iff_eq]; exact h3
    have hb2 : (p.ping != 0) = false := by rw [bne_eq_false_iff_eq]; exact h3
    clear h3
    go_enter Try.func26, Try.ntmps26
    go_wp2_with fail
    refine bodyPost_ret (v := .agg #[.bool p.en.ad.v6, .int .u64 p.en.ad.hi, .int .u64 p.en.ad.lo, .int .i64 p.en.port, .bool p.came, .int .i64 p.since, .int .i64 p.pts, .int .i64 p.at_, .int .i64 ms, .int .i64 p.work]) (by simp [results, Try.results26, go_sem, *]) rfl ⟨rfl, ?_⟩
    (repeat (first | assumption | exact Below.refl _ _ | refine Below.setCell ?_ (by first | omega | (simp; done) | (simp; omega)) _ | refine Below.alloc ?_ (by first | omega | (simp; done) | (simp; omega)) _ | refine Below.drew ?_ | (refine Below.trans ?_ (Below.mono (by assumption) (by first | omega | (simp; done) | (simp; omega))))))
  have hb1 : (p.ping == 0) = false := by rw [beq_eq_false_iff_ne]; exact h3
  have hb2 : (p.ping != 0) = true := by rw [bne_iff_ne]; exact h3
  rcases Int.lt_or_le ms p.ping with h4 | h4
  · rw [if_pos ⟨h1, h2, Or.inr h4⟩]
    simp only
    have d5 : decide (ms < p.ping) = true := decide_eq_true h4
    have d6 : decide (p.ping ≤ ms) = false := decide_eq_false (by omega)
    clear h3
    go_enter Try.func26, Try.ntmps26
    go_wp2_with fail
    refine bodyPost_ret (v := .agg #[.bool p.en.ad.v6, .int .u64 p.en.ad.hi, .int .u64 p.en.ad.lo, .int .i64 p.en.port, .bool p.came, .int .i64 p.since, .int .i64 p.pts, .int .i64 p.at_, .int .i64 ms, .int .i64 p.work]) (by simp [results, Try.results26, go_sem, *]) rfl ⟨rfl, ?_⟩
    (repeat (first | assumption | exact Below.refl _ _ | refine Below.setCell ?_ (by first | omega | (simp; done) | (simp; omega)) _ | refine Below.alloc ?_ (by first | omega | (simp; done) | (simp; omega)) _ | refine Below.drew ?_ | (refine Below.trans ?_ (Below.mono (by assumption) (by first | omega | (simp; done) | (simp; omega))))))
  · rw [if_neg (by omega)]
    have d5 : decide (ms < p.ping) = false := decide_eq_false (by omega)
    have d6 : decide (p.ping ≤ ms) = true := decide_eq_true h4
    clear h3
    go_enter Try.func26, Try.ntmps26
    go_wp2_with fail
    refine bodyPost_ret (v := .agg #[.bool p.en.ad.v6, .int .u64 p.en.ad.hi, .int .u64 p.en.ad.lo, .int .i64 p.en.port, .bool p.came, .int .i64 p.since, .int .i64 p.pts, .int .i64 p.at_, .int .i64 p.ping, .int .i64 p.work]) (by simp [results, Try.results26, go_sem, *]) rfl ⟨rfl, ?_⟩
    (repeat (first | assumption | exact Below.refl _ _ | refine Below.setCell ?_ (by first | omega | (simp; done) | (simp; omega)) _ | refine Below.alloc ?_ (by first | omega | (simp; done) | (simp; omega)) _ | refine Below.drew ?_ | (refine Below.trans ?_ (Below.mono (by assumption) (by first | omega | (simp; done) | (simp; omega))))))
set_option maxRecDepth 100000 in
set_option maxHeartbeats 4000000 in
theorem refPePong_any (p : Pe) (ms : Int) (w : World) : Calls Try.prog 27 #[.agg #[.bool p.en.ad.v6, .int .u64 p.en.ad.hi, .int .u64 p.en.ad.lo, .int .i64 p.en.port, .bool p.came, .int .i64 p.since, .int .i64 p.pts, .int .i64 p.at_, .int .i64 p.ping, .int .i64 p.work], .int .i64 ms] w fun r w' => r = .returned (.agg #[.bool (pePong p ms).en.ad.v6, .int .u64 (pePong p ms).en.ad.hi, .int .u64 (pePong p ms).en.ad.lo, .int .i64 (pePong p ms).en.port, .bool (pePong p ms).came, .int .i64 (pePong p ms).since, .int .i64 (pePong p ms).pts, .int .i64 (pePong p ms).at_, .int .i64 (pePong p ms).ping, .int .i64 (pePong p ms).work]) ∧ Below w.heap.size w w' := by
  unfold pePong
  rcases Int.lt_or_le ms 1 with h1 | h1
  · rw [if_neg (by omega)]
    have d1 : decide (ms < 1) = true := decide_eq_true h1
    have d2 : decide (1 ≤ ms) = false := decide_eq_false (by omega)
    go_enter Try.func27, Try.ntmps27
    go_wp2_with fail
    refine bodyPost_ret (v := .agg #[.bool p.en.ad.v6, .int .u64 p.en.ad.hi, .int .u64 p.en.ad.lo, .int .i64 p.en.port, .bool p.came, .int .i64 p.since, .int .i64 p.pts, .int .i64 p.at_, .int .i64 p.ping, .int .i64 p.work]) (by simp [results, Try.results27, go_sem, *]) rfl ⟨rfl, ?_⟩
    (repeat (first | assumption | exact Below.refl _ _ | refine Below.setCell ?_ (by first | omega | (simp; done) | (simp; omega)) _ | refine Below.alloc ?_ (by first | omega | (simp; done) | (simp; omega)) _ | refine Below.drew ?_ | (refine Below.trans ?_ (Below.mono (by assumption) (by first | omega | (simp; done) | (simp; omega))))))
  have d1 : decide (ms < 1) = false := decide_eq_false (by omega)
  have d2 : decide (1 ≤ ms) = true := decide_eq_true h1
  rcases Int.lt_or_le 1048576 ms with h2 | h2
  · rw [if_neg (by omega)]
    have d3 : decide (1048576 < ms) = true := decide_eq_true h2
    have d4 : decide (ms ≤ 1048576) = false := decide_eq_false (by omega)
    go_enter Try.func27, Try.ntmps27
    go_wp2_with fail
    refine bodyPost_ret (v := .agg #[.bool p.en.ad.v6, .int .u64 p.en.ad.hi, .int .u64 p.en.ad.lo, .int .i64 p.en.port, .bool p.came, .int .i64 p.since, .int .i64 p.pts, .int .i64 p.at_, .int .i64 p.ping, .int .i64 p.work]) (by simp [results, Try.results27, go_sem, *]) rfl ⟨rfl, ?_⟩
    (repeat (first | assumption | exact Below.refl _ _ | refine Below.setCell ?_ (by first | omega | (simp; done) | (simp; omega)) _ | refine Below.alloc ?_ (by first | omega | (simp; done) | (simp; omega)) _ | refine Below.drew ?_ | (refine Below.trans ?_ (Below.mono (by assumption) (by first | omega | (simp; done) | (simp; omega))))))
  have d3 : decide (1048576 < ms) = false := decide_eq_false (by omega)
  have d4 : decide (ms ≤ 1048576) = true := decide_eq_true h2
  by_cases h3 : p.ping = 0
  · rw [if_pos ⟨h1, h2, Or.inl h3⟩]
    simp only
    have hb1 : (p.ping == 0) = true := by rw [beq_iff_eq]; exact h3
    have hb2 : (p.ping != 0) = false := by rw [bne_eq_false_iff_eq]; exact h3
    clear h3
    go_enter Try.func27, Try.ntmps27
    go_wp2_with fail
    refine bodyPost_ret (v := .agg #[.bool p.en.ad.v6, .int .u64 p.en.ad.hi, .int .u64 p.en.ad.lo, .int .i64 p.en.port, .bool p.came, .int .i64 p.since, .int .i64 p.pts, .int .i64 p.at_, .int .i64 ms, .int .i64 p.work]) (by simp [results, Try.results27, go_sem, *]) rfl ⟨rfl, ?_⟩
    (repeat (first | assumption | exact Below.refl _ _ | refine Below.setCell ?_ (by first | omega | (simp; done) | (simp; omega)) _ | refine Below.alloc ?_ (by first | omega | (simp; done) | (simp; omega)) _ | refine Below.drew ?_ | (refine Below.trans ?_ (Below.mono (by assumption) (by first | omega | (simp; done) | (simp; omega))))))
  have hb1 : (p.ping == 0) = false := by rw [beq_eq_false_iff_ne]; exact h3
  have hb2 : (p.ping != 0) = true := by rw [bne_iff_ne]; exact h3
  rcases Int.lt_or_le ms p.ping with h4 | h4
  · rw [if_pos ⟨h1, h2, Or.inr h4⟩]
    simp only
    have d5 : decide (ms < p.ping) = true := decide_eq_true h4
    have d6 : decide (p.ping ≤ ms) = false := decide_eq_false (by omega)
    clear h3
    go_enter Try.func27, Try.ntmps27
    go_wp2_with fail
    refine bodyPost_ret (v := .agg #[.bool p.en.ad.v6, .int .u64 p.en.ad.hi, .int .u64 p.en.ad.lo, .int .i64 p.en.port, .bool p.came, .int .i64 p.since, .int .i64 p.pts, .int .i64 p.at_, .int .i64 ms, .int .i64 p.work]) (by simp [results, Try.results27, go_sem, *]) rfl ⟨rfl, ?_⟩
    (repeat (first | assumption | exact Below.refl _ _ | refine Below.setCell ?_ (by first | omega | (simp; done) | (simp; omega)) _ | refine Below.alloc ?_ (by first | omega | (simp; done) | (simp; omega)) _ | refine Below.drew ?_ | (refine Below.trans ?_ (Below.mono (by assumption) (by first | omega | (simp; done) | (simp; omega))))))
  · rw [if_neg (by omega)]
    have d5 : decide (ms < p.ping) = false := decide_eq_false (by omega)
    have d6 : decide (p.ping ≤ ms) = true := decide_eq_true h4
    clear h3
    go_enter Try.func27, Try.ntmps27
    go_wp2_with fail
    refine bodyPost_ret (v := .agg #[.bool p.en.ad.v6, .int .u64 p.en.ad.hi, .int .u64 p.en.ad.lo, .int .i64 p.en.port, .bool p.came, .int .i64 p.since, .int .i64 p.pts, .int .i64 p.at_, .int .i64 p.ping, .int .i64 p.work]) (by simp [results, Try.results27, go_sem, *]) rfl ⟨rfl, ?_⟩
    (repeat (first | assumption | exact Below.refl _ _ | refine Below.setCell ?_ (by first | omega | (simp; done) | (simp; omega)) _ | refine Below.alloc ?_ (by first | omega | (simp; done) | (simp; omega)) _ | refine Below.drew ?_ | (refine Below.trans ?_ (Below.mono (by assumption) (by first | omega | (simp; done) | (simp; omega))))))
end Go.Proofs.Ytnohkfbapibmdaa
/- The contracts of peers written. -/
namespace Go.Proofs.Ytnohkfbapibmdaa
open Go.RowKit
set_option linter.unusedSimpArgs false
set_option linter.unusedVariables false

theorem row_new (l : List (List UInt8)) (W : World) (hN : l.length ≤ 1000) (hl : (joinL 32 l).length ≤ 140737488355328) :
    Calls Try.prog 74 #[.slice (some ⟨W.heap.size, 0, none⟩) l.length l.length] (W.alloc (.cells (l.map sv).toArray 9)) fun e w' => e = .returned (.string (bs (joinL 32 l))) ∧ Below (W.alloc (.cells (l.map sv).toArray 9)).heap.size (W.alloc (.cells (l.map sv).toArray 9)) w' :=
  row_any _ l _ (by omega) ((BlockIs.new W (l.map sv) 9).reads (by simp) (by omega)) hl
set_option maxRecDepth 100000 in
set_option maxHeartbeats 8000000 in
theorem peText_any (p : Pe) (hf : p.fits) (w : World) : Calls Try.prog 32 #[.agg #[.bool p.en.ad.v6, .int .u64 p.en.ad.hi, .int .u64 p.en.ad.lo, .int .i64 p.en.port, .bool p.came, .int .i64 p.since, .int .i64 p.pts, .int .i64 p.at_, .int .i64 p.ping, .int .i64 p.work]] w fun r w' => r = .returned (.string (bs (peText p))) ∧ Below w.heap.size w w' := by
  have htl := peText_len p hf
  obtain ⟨f1, f2, f3, f4, f5, f6⟩ := hf
  have hw := wholeI_in f3.2
  have HW := Lib.hid (fun w => way_any p.came w)
  have HE := Lib.hid (fun w => enText_any p.en f1.1 w)
  have HD1 := Lib.hid (fun w => decText_any p.since f2.1 f2.2 w)
  have HD2 := Lib.hid (fun w => decText_any (wholeI p.pts) (by omega) hw.2 w)
  have HD3 := Lib.hid (fun w => decText_any p.ping f5.1 f5.2 w)
  have HD4 := Lib.hid (fun w => decText_any p.work f6.1 f6.2 w)
  have HS := Lib.hid (fun w => whole_any p.pts p.at_ f3.2 w)
  have hrow := fun W => row_new (pePartsOf p) W (by unfold pePartsOf; simp) (by unfold peText at htl; omega)
  have e : joinL 32 (pePartsOf p) = peText p := rfl
  rw [e] at hrow
  clear e htl
  generalize peText p = res at *
  unfold pePartsOf at hrow
  generalize wayText p.came = t0 at *
  generalize enText p.en = t1 at *
  generalize decText p.since = t2 at *
  generalize decText (wholeI p.pts) = t3 at *
  generalize wholeI p.pts = wh at *
  generalize decText p.ping = t4 at *
  generalize decText p.work = t5 at *
  simp only [List.length_cons, List.length_nil, List.map_cons, List.map_nil, sv] at hrow
  have HROW := Lib.hid hrow; clear hrow
  go_enter Try.func32, Try.ntmps32
  go_wp2_with fail
  go_name_world WWx2 hWWx2
  have ex20 : ∀ Y, (ext WWx2 Y).cell? ⟨w.heap.size, 0, none⟩ = some (.bool p.en.ad.v6) := by subst hWWx2; intro Y; exact (ext_cell _ Y (by first | omega | (simp; done) | (simp; omega))).trans (by first | (simp (disch := first | omega | (simp; omega)) [World.cell?_alloc_past, *]; done) | (simp (disch := first | omega | (simp; omega)) [World.cell?_setCell_far, World.cell?_alloc_past, *]; done) | (simp (disch := first | omega | (simp; omega)) [World.cell?_alloc_past, *]; rfl) | (simp (disch := first | omega | (simp; omega)) [World.cell?_setCell_far, World.cell?_alloc_past, *]; rfl) | (simp [go_sem, *]; done) | (simp (disch := first | omega | (simp; omega) | (simp [go_sem, *]; done)) [go_sem, World.cell?_setCell_far, World.cell?_alloc_past, *]; done))
  have ex21 : ∀ Y, (ext WWx2 Y).cell? ⟨w.heap.size, 1, none⟩ = some (.int .u64 p.en.ad.hi) := by subst hWWx2; intro Y; exact (ext_cell _ Y (by first | omega | (simp; done) | (simp; omega))).trans (by first | (simp (disch := first | omega | (simp; omega)) [World.cell?_alloc_past, *]; done) | (simp (disch := first | omega | (simp; omega)) [World.cell?_setCell_far, World.cell?_alloc_past, *]; done) | (simp (disch := first | omega | (simp; omega)) [World.cell?_alloc_past, *]; rfl) | (simp (disch := first | omega | (simp; omega)) [World.cell?_setCell_far, World.cell?_alloc_past, *]; rfl) | (simp [go_sem, *]; done) | (simp (disch := first | omega | (simp; omega) | (simp [go_sem, *]; done)) [go_sem, World.cell?_setCell_far, World.cell?_alloc_past, *]; done))
  have ex22 : ∀ Y, (ext WWx2 Y).cell? ⟨w.heap.size, 2, none⟩ = some (.int .u64 p.en.ad.lo) := by subst hWWx2; intro Y; exact (ext_cell _ Y (by first | omega | (simp; done) | (simp; omega))).trans (by first | (simp (disch := first | omega | (simp; omega)) [World.cell?_alloc_past, *]; done) | (simp (disch := first | omega | (simp; omega)) [World.cell?_setCell_far, World.cell?_alloc_past, *]; done) | (simp (disch := first | omega | (simp; omega)) [World.cell?_alloc_past, *]; rfl) | (simp (disch := first | omega | (simp; omega)) [World.cell?_setCell_far, World.cell?_alloc_past, *]; rfl) | (simp [go_sem, *]; done) | (simp (disch := first | omega | (simp; omega) | (simp [go_sem, *]; done)) [go_sem, World.cell?_setCell_far, World.cell?_alloc_past, *]; done))
  have ex23 : ∀ Y, (ext WWx2 Y).cell? ⟨w.heap.size, 3, none⟩ = some (.int .i64 p.en.port) := by subst hWWx2; intro Y; exact (ext_cell _ Y (by first | omega | (simp; done) | (simp; omega))).trans (by first | (simp (disch := first | omega | (simp; omega)) [World.cell?_alloc_past, *]; done) | (simp (disch := first | omega | (simp; omega)) [World.cell?_setCell_far, World.cell?_alloc_past, *]; done) | (simp (disch := first | omega | (simp; omega)) [World.cell?_alloc_past, *]; rfl) | (simp (disch := first | omega | (simp; omega)) [World.cell?_setCell_far, World.cell?_alloc_past, *]; rfl) | (simp [go_sem, *]; done) | (simp (disch := first | omega | (simp; omega) | (simp [go_sem, *]; done)) [go_sem, World.cell?_setCell_far, World.cell?_alloc_past, *]; done))
  have ex24 : ∀ Y, (ext WWx2 Y).cell? ⟨w.heap.size, 4, none⟩ = some (.bool p.came) := by subst hWWx2; intro Y; exact (ext_cell _ Y (by first | omega | (simp; done) | (simp; omega))).trans (by first | (simp (disch := first | omega | (simp; omega)) [World.cell?_alloc_past, *]; done) | (simp (disch := first | omega | (simp; omega)) [World.cell?_setCell_far, World.cell?_alloc_past, *]; done) | (simp (disch := first | omega | (simp; omega)) [World.cell?_alloc_past, *]; rfl) | (simp (disch := first | omega | (simp; omega)) [World.cell?_setCell_far, World.cell?_alloc_past, *]; rfl) | (simp [go_sem, *]; done) | (simp (disch := first | omega | (simp; omega) | (simp [go_sem, *]; done)) [go_sem, World.cell?_setCell_far, World.cell?_alloc_past, *]; done))
  have ex25 : ∀ Y, (ext WWx2 Y).cell? ⟨w.heap.size, 5, none⟩ = some (.int .i64 p.since) := by subst hWWx2; intro Y; exact (ext_cell _ Y (by first | omega | (simp; done) | (simp; omega))).trans (by first | (simp (disch := first | omega | (simp; omega)) [World.cell?_alloc_past, *]; done) | (simp (disch := first | omega | (simp; omega)) [World.cell?_setCell_far, World.cell?_alloc_past, *]; done) | (simp (disch := first | omega | (simp; omega)) [World.cell?_alloc_past, *]; rfl) | (simp (disch := first | omega | (simp; omega)) [World.cell?_setCell_far, World.cell?_alloc_past, *]; rfl) | (simp [go_sem, *]; done) | (simp (disch := first | omega | (simp; omega) | (simp [go_sem, *]; done)) [go_sem, World.cell?_setCell_far, World.cell?_alloc_past, *]; done))
  have ex26 : ∀ Y, (ext WWx2 Y).cell? ⟨w.heap.size, 6, none⟩ = some (.int .i64 p.pts) := by subst hWWx2; intro Y; exact (ext_cell _ Y (by first | omega | (simp; done) | (simp; omega))).trans (by first | (simp (disch := first | omega | (simp; omega)) [World.cell?_alloc_past, *]; done) | (simp (disch := first | omega | (simp; omega)) [World.cell?_setCell_far, World.cell?_alloc_past, *]; done) | (simp (disch := first | omega | (simp; omega)) [World.cell?_alloc_past, *]; rfl) | (simp (disch := first | omega | (simp; omega)) [World.cell?_setCell_far, World.cell?_alloc_past, *]; rfl) | (simp [go_sem, *]; done) | (simp (disch := first | omega | (simp; omega) | (simp [go_sem, *]; done)) [go_sem, World.cell?_setCell_far, World.cell?_alloc_past, *]; done))
  have ex27 : ∀ Y, (ext WWx2 Y).cell? ⟨w.heap.size, 7, none⟩ = some (.int .i64 p.at_) := by subst hWWx2; intro Y; exact (ext_cell _ Y (by first | omega | (simp; done) | (simp; omega))).trans (by first | (simp (disch := first | omega | (simp; omega)) [World.cell?_alloc_past, *]; done) | (simp (disch := first | omega | (simp; omega)) [World.cell?_setCell_far, World.cell?_alloc_past, *]; done) | (simp (disch := first | omega | (simp; omega)) [World.cell?_alloc_past, *]; rfl) | (simp (disch := first | omega | (simp; omega)) [World.cell?_setCell_far, World.cell?_alloc_past, *]; rfl) | (simp [go_sem, *]; done) | (simp (disch := first | omega | (simp; omega) | (simp [go_sem, *]; done)) [go_sem, World.cell?_setCell_far, World.cell?_alloc_past, *]; done))
  have ex28 : ∀ Y, (ext WWx2 Y).cell? ⟨w.heap.size, 8, none⟩ = some (.int .i64 p.ping) := by subst hWWx2; intro Y; exact (ext_cell _ Y (by first | omega | (simp; done) | (simp; omega))).trans (by first | (simp (disch := first | omega | (simp; omega)) [World.cell?_alloc_past, *]; done) | (simp (disch := first | omega | (simp; omega)) [World.cell?_setCell_far, World.cell?_alloc_past, *]; done) | (simp (disch := first | omega | (simp; omega)) [World.cell?_alloc_past, *]; rfl) | (simp (disch := first | omega | (simp; omega)) [World.cell?_setCell_far, World.cell?_alloc_past, *]; rfl) | (simp [go_sem, *]; done) | (simp (disch := first | omega | (simp; omega) | (simp [go_sem, *]; done)) [go_sem, World.cell?_setCell_far, World.cell?_alloc_past, *]; done))
  have ex29 : ∀ Y, (ext WWx2 Y).cell? ⟨w.heap.size, 9, none⟩ = some (.int .i64 p.work) := by subst hWWx2; intro Y; exact (ext_cell _ Y (by first | omega | (simp; done) | (simp; omega))).trans (by first | (simp (disch := first | omega | (simp; omega)) [World.cell?_alloc_past, *]; done) | (simp (disch := first | omega | (simp; omega)) [World.cell?_setCell_far, World.cell?_alloc_past, *]; done) | (simp (disch := first | omega | (simp; omega)) [World.cell?_alloc_past, *]; rfl) | (simp (disch := first | omega | (simp; omega)) [World.cell?_setCell_far, World.cell?_alloc_past, *]; rfl) | (simp [go_sem, *]; done) | (simp (disch := first | omega | (simp; omega) | (simp [go_sem, *]; done)) [go_sem, World.cell?_setCell_far, World.cell?_alloc_past, *]; done))
  have bWx2 : Below w.heap.size w WWx2 := by subst hWWx2; (repeat (first | assumption | exact Below.refl _ _ | refine Below.setCell ?_ (by first | omega | (simp; done) | (simp; omega)) _ | refine Below.alloc ?_ (by first | omega | (simp; done) | (simp; omega)) _ | refine Below.drew ?_ | (refine Below.trans ?_ (Below.mono (by assumption) (by first | omega | (simp; done) | (simp; omega))))))
  have lWx20 : w.heap.size < WWx2.heap.size := by subst hWWx2; first | omega | (simp; done) | (simp; omega)
  clear hWWx2
  refine wp_region_ext_tail 19 (by kernel_rfl) (by kernel_rfl) ?_
  simp only [List.take_succ_cons, List.take_zero, List.drop_succ_cons, List.drop_zero]
  repeat (go_big_quiet_step ((first | (go_at_call 86; with_reducible exact qs (HW.out _)) | (go_at_call 72; with_reducible exact qe (HE.out _)) | (go_at_call 87; with_reducible exact qe (HD1.out _)) | (go_at_call 87; with_reducible exact qe (HD2.out _)) | (go_at_call 87; with_reducible exact qe (HD3.out _)) | (go_at_call 87; with_reducible exact qe (HD4.out _)) | (go_at_call 88; with_reducible exact qe (HS.out _)))))
  refine wpQuiet_nil ?_
  intro _ hw'
  obtain ⟨x2, hw''⟩ := hw'
  subst hw''
  have px20 := ex20 x2
  have px21 := ex21 x2
  have px22 := ex22 x2
  have px23 := ex23 x2
  have px24 := ex24 x2
  have px25 := ex25 x2
  have px26 := ex26 x2
  have px27 := ex27 x2
  have px28 := ex28 x2
  have px29 := ex29 x2
  clear ex20 ex21 ex22 ex23 ex24 ex25 ex26 ex27 ex28 ex29
  have bwx2 := bWx2.trans ((ext_below WWx2 x2).mono bWx2.size)
  have zwx2 := bwx2.size
  have zex2 := (ext_below WWx2 x2).size
  go_wp2_with (go_at_call 74; (refine (HROW.out _).mono ?_); rintro e w3 ⟨rfl, b3⟩; obtain ⟨c3, f3⟩ := bcell b3; have z3 := b3.size; (try simp at z3); clear c3 f3)
  go_ret
  refine ⟨rfl, ?_⟩
  (repeat (first | assumption | exact Below.refl _ _ | refine Below.setCell ?_ (by first | omega | (simp; done) | (simp; omega)) _ | refine Below.alloc ?_ (by first | omega | (simp; done) | (simp; omega)) _ | refine Below.drew ?_ | (refine Below.trans ?_ (Below.mono (by assumption) (by first | omega | (simp; done) | (simp; omega))))))
set_option maxRecDepth 100000 in
set_option maxHeartbeats 8000000 in
theorem refPeText_any (p : Pe) (hf : p.fits) (w : World) : Calls Try.prog 33 #[.agg #[.bool p.en.ad.v6, .int .u64 p.en.ad.hi, .int .u64 p.en.ad.lo, .int .i64 p.en.port, .bool p.came, .int .i64 p.since, .int .i64 p.pts, .int .i64 p.at_, .int .i64 p.ping, .int .i64 p.work]] w fun r w' => r = .returned (.string (bs (peText p))) ∧ Below w.heap.size w w' := by
  have htl := peText_len p hf
  have hres := peText_ref p
  obtain ⟨f1, f2, f3, f4, f5, f6⟩ := hf
  have hw := wholeI_in f3.2
  have HE := Lib.hid (fun w => refEnText_any p.en f1.1 w)
  have HD1 := Lib.hid (fun w => refText_any p.since f2.1 f2.2 w)
  have HD2 := Lib.hid (fun w => refText_any (wholeI p.pts) (by omega) hw.2 w)
  have HD3 := Lib.hid (fun w => refText_any p.ping f5.1 f5.2 w)
  have HD4 := Lib.hid (fun w => refText_any p.work f6.1 f6.2 w)
  have HS := Lib.hid (fun w => refWhole_any p.pts p.at_ f3.2 w)
  have l1 := enText_len p.en f1.1
  have l2 := decText_len p.since f2.1 f2.2
  have l3 := decText_len (wholeI p.pts) (by omega) hw.2
  have l4 := decText_len p.ping f5.1 f5.2
  have l5 := decText_len p.work f6.1 f6.2
  clear htl
  generalize peText p = res at *
  generalize enText p.en = t1 at *
  generalize decText p.since = t2 at *
  generalize decText (wholeI p.pts) = t3 at *
  generalize wholeI p.pts = wh at *
  generalize decText p.ping = t4 at *
  generalize decText p.work = t5 at *
  rw [← bs_size] at l1 l2 l3 l4 l5
  cases hc : p.came with
  | true =>
    rw [if_pos hc] at hres
    have hres' : bs [105, 110, 32] ++ bs t1 ++ bs [32, 115, 105, 110, 99, 101, 32] ++ bs t2 ++ bs [32, 112, 111, 105, 110, 116, 115, 32] ++ bs t3 ++ bs [32, 112, 105, 110, 103, 32] ++ bs t4 ++ bs [32, 119, 111, 114, 107, 32] ++ bs t5 = bs res := by simp only [bs_append]; rw [← hres]
    have HRES := Lib.hid hres'
    clear hres hres' hc
    have z0 : (bs [105, 110, 32]).size = 3 := by rw [bs_size]; rfl
    have z2 : (bs [32, 115, 105, 110, 99, 101, 32]).size = 7 := by rw [bs_size]; rfl
    have z4 : (bs [32, 112, 111, 105, 110, 116, 115, 32]).size = 8 := by rw [bs_size]; rfl
    have z6 : (bs [32, 112, 105, 110, 103, 32]).size = 6 := by rw [bs_size]; rfl
    have z8 : (bs [32, 119, 111, 114, 107, 32]).size = 6 := by rw [bs_size]; rfl
    have s1 : ¬ 9223372036854775807 < (bs [105, 110, 32]).size + (bs t1).size := by simp only [ByteArray.size_append, z0, z2, z4, z6, z8]; omega
    have s2 : ¬ 9223372036854775807 < (bs [105, 110, 32] ++ bs t1).size + (bs [32, 115, 105, 110, 99, 101, 32]).size := by simp only [ByteArray.size_append, z0, z2, z4, z6, z8]; omega
    have s3 : ¬ 9223372036854775807 < (bs [105, 110, 32] ++ bs t1 ++ bs [32, 115, 105, 110, 99, 101, 32]).size + (bs t2).size := by simp only [ByteArray.size_append, z0, z2, z4, z6, z8]; omega
    have s4 : ¬ 9223372036854775807 < (bs [105, 110, 32] ++ bs t1 ++ bs [32, 115, 105, 110, 99, 101, 32] ++ bs t2).size + (bs [32, 112, 111, 105, 110, 116, 115, 32]).size := by simp only [ByteArray.size_append, z0, z2, z4, z6, z8]; omega
    have s5 : ¬ 9223372036854775807 < (bs [105, 110, 32] ++ bs t1 ++ bs [32, 115, 105, 110, 99, 101, 32] ++ bs t2 ++ bs [32, 112, 111, 105, 110, 116, 115, 32]).size + (bs t3).size := by simp only [ByteArray.size_append, z0, z2, z4, z6, z8]; omega
    have s6 : ¬ 9223372036854775807 < (bs [105, 110, 32] ++ bs t1 ++ bs [32, 115, 105, 110, 99, 101, 32] ++ bs t2 ++ bs [32, 112, 111, 105, 110, 116, 115, 32] ++ bs t3).size + (bs [32, 112, 105, 110, 103, 32]).size := by simp only [ByteArray.size_append, z0, z2, z4, z6, z8]; omega
    have s7 : ¬ 9223372036854775807 < (bs [105, 110, 32] ++ bs t1 ++ bs [32, 115, 105, 110, 99, 101, 32] ++ bs t2 ++ bs [32, 112, 111, 105, 110, 116, 115, 32] ++ bs t3 ++ bs [32, 112, 105, 110, 103, 32]).size + (bs t4).size := by simp only [ByteArray.size_append, z0, z2, z4, z6, z8]; omega
    have s8 : ¬ 9223372036854775807 < (bs [105, 110, 32] ++ bs t1 ++ bs [32, 115, 105, 110, 99, 101, 32] ++ bs t2 ++ bs [32, 112, 111, 105, 110, 116, 115, 32] ++ bs t3 ++ bs [32, 112, 105, 110, 103, 32] ++ bs t4).size + (bs [32, 119, 111, 114, 107, 32]).size := by simp only [ByteArray.size_append, z0, z2, z4, z6, z8]; omega
    have s9 : ¬ 9223372036854775807 < (bs [105, 110, 32] ++ bs t1 ++ bs [32, 115, 105, 110, 99, 101, 32] ++ bs t2 ++ bs [32, 112, 111, 105, 110, 116, 115, 32] ++ bs t3 ++ bs [32, 112, 105, 110, 103, 32] ++ bs t4 ++ bs [32, 119, 111, 114, 107, 32]).size + (bs t5).size := by simp only [ByteArray.size_append, z0, z2, z4, z6, z8]; omega
    clear z0 z2 z4 z6 z8
    go_enter Try.func33, Try.ntmps33
    go_wp2_with fail
    go_name_world WWx2 hWWx2
    have ex20 : ∀ Y, (ext WWx2 Y).cell? ⟨w.heap.size, 0, none⟩ = some (.bool p.en.ad.v6) := by subst hWWx2; intro Y; exact (ext_cell _ Y (by first | omega | (simp; done) | (simp; omega))).trans (by first | (simp (disch := first | omega | (simp; omega)) [World.cell?_alloc_past, *]; done) | (simp (disch := first | omega | (simp; omega)) [World.cell?_setCell_far, World.cell?_alloc_past, *]; done) | (simp (disch := first | omega | (simp; omega)) [World.cell?_alloc_past, *]; rfl) | (simp (disch := first | omega | (simp; omega)) [World.cell?_setCell_far, World.cell?_alloc_past, *]; rfl) | (simp [go_sem, *]; done) | (simp (disch := first | omega | (simp; omega) | (simp [go_sem, *]; done)) [go_sem, World.cell?_setCell_far, World.cell?_alloc_past, *]; done))
    have ex21 : ∀ Y, (ext WWx2 Y).cell? ⟨w.heap.size, 1, none⟩ = some (.int .u64 p.en.ad.hi) := by subst hWWx2; intro Y; exact (ext_cell _ Y (by first | omega | (simp; done) | (simp; omega))).trans (by first | (simp (disch := first | omega | (simp; omega)) [World.cell?_alloc_past, *]; done) | (simp (disch := first | omega | (simp; omega)) [World.cell?_setCell_far, World.cell?_alloc_past, *]; done) | (simp (disch := first | omega | (simp; omega)) [World.cell?_alloc_past, *]; rfl) | (simp (disch := first | omega | (simp; omega)) [World.cell?_setCell_far, World.cell?_alloc_past, *]; rfl) | (simp [go_sem, *]; done) | (simp (disch := first | omega | (simp; omega) | (simp [go_sem, *]; done)) [go_sem, World.cell?_setCell_far, World.cell?_alloc_past, *]; done))
    have ex22 : ∀ Y, (ext WWx2 Y).cell? ⟨w.heap.size, 2, none⟩ = some (.int .u64 p.en.ad.lo) := by subst hWWx2; intro Y; exact (ext_cell _ Y (by first | omega | (simp; done) | (simp; omega))).trans (by first | (simp (disch := first | omega | (simp; omega)) [World.cell?_alloc_past, *]; done) | (simp (disch := first | omega | (simp; omega)) [World.cell?_setCell_far, World.cell?_alloc_past, *]; done) | (simp (disch := first | omega | (simp; omega)) [World.cell?_alloc_past, *]; rfl) | (simp (disch := first | omega | (simp; omega)) [World.cell?_setCell_far, World.cell?_alloc_past, *]; rfl) | (simp [go_sem, *]; done) | (simp (disch := first | omega | (simp; omega) | (simp [go_sem, *]; done)) [go_sem, World.cell?_setCell_far, World.cell?_alloc_past, *]; done))
    have ex23 : ∀ Y, (ext WWx2 Y).cell? ⟨w.heap.size, 3, none⟩ = some (.int .i64 p.en.port) := by subst hWWx2; intro Y; exact (ext_cell _ Y (by first | omega | (simp; done) | (simp; omega))).trans (by first | (simp (disch := first | omega | (simp; omega)) [World.cell?_alloc_past, *]; done) | (simp (disch := first | omega | (simp; omega)) [World.cell?_setCell_far, World.cell?_alloc_past, *]; done) | (simp (disch := first | omega | (simp; omega)) [World.cell?_alloc_past, *]; rfl) | (simp (disch := first | omega | (simp; omega)) [World.cell?_setCell_far, World.cell?_alloc_past, *]; rfl) | (simp [go_sem, *]; done) | (simp (disch := first | omega | (simp; omega) | (simp [go_sem, *]; done)) [go_sem, World.cell?_setCell_far, World.cell?_alloc_past, *]; done))
    have ex24 : ∀ Y, (ext WWx2 Y).cell? ⟨w.heap.size, 4, none⟩ = some (.bool true) := by subst hWWx2; intro Y; exact (ext_cell _ Y (by first | omega | (simp; done) | (simp; omega))).trans (by first | (simp (disch := first | omega | (simp; omega)) [World.cell?_alloc_past, *]; done) | (simp (disch := first | omega | (simp; omega)) [World.cell?_setCell_far, World.cell?_alloc_past, *]; done) | (simp (disch := first | omega | (simp; omega)) [World.cell?_alloc_past, *]; rfl) | (simp (disch := first | omega | (simp; omega)) [World.cell?_setCell_far, World.cell?_alloc_past, *]; rfl) | (simp [go_sem, *]; done) | (simp (disch := first | omega | (simp; omega) | (simp [go_sem, *]; done)) [go_sem, World.cell?_setCell_far, World.cell?_alloc_past, *]; done))
    have ex25 : ∀ Y, (ext WWx2 Y).cell? ⟨w.heap.size, 5, none⟩ = some (.int .i64 p.since) := by subst hWWx2; intro Y; exact (ext_cell _ Y (by first | omega | (simp; done) | (simp; omega))).trans (by first | (simp (disch := first | omega | (simp; omega)) [World.cell?_alloc_past, *]; done) | (simp (disch := first | omega | (simp; omega)) [World.cell?_setCell_far, World.cell?_alloc_past, *]; done) | (simp (disch := first | omega | (simp; omega)) [World.cell?_alloc_past, *]; rfl) | (simp (disch := first | omega | (simp; omega)) [World.cell?_setCell_far, World.cell?_alloc_past, *]; rfl) | (simp [go_sem, *]; done) | (simp (disch := first | omega | (simp; omega) | (simp [go_sem, *]; done)) [go_sem, World.cell?_setCell_far, World.cell?_alloc_past, *]; done))
    have ex26 : ∀ Y, (ext WWx2 Y).cell? ⟨w.heap.size, 6, none⟩ = some (.int .i64 p.pts) := by subst hWWx2; intro Y; exact (ext_cell _ Y (by first | omega | (simp; done) | (simp; omega))).trans (by first | (simp (disch := first | omega | (simp; omega)) [World.cell?_alloc_past, *]; done) | (simp (disch := first | omega | (simp; omega)) [World.cell?_setCell_far, World.cell?_alloc_past, *]; done) | (simp (disch := first | omega | (simp; omega)) [World.cell?_alloc_past, *]; rfl) | (simp (disch := first | omega | (simp; omega)) [World.cell?_setCell_far, World.cell?_alloc_past, *]; rfl) | (simp [go_sem, *]; done) | (simp (disch := first | omega | (simp; omega) | (simp [go_sem, *]; done)) [go_sem, World.cell?_setCell_far, World.cell?_alloc_past, *]; done))
    have ex27 : ∀ Y, (ext WWx2 Y).cell? ⟨w.heap.size, 7, none⟩ = some (.int .i64 p.at_) := by subst hWWx2; intro Y; exact (ext_cell _ Y (by first | omega | (simp; done) | (simp; omega))).trans (by first | (simp (disch := first | omega | (simp; omega)) [World.cell?_alloc_past, *]; done) | (simp (disch := first | omega | (simp; omega)) [World.cell?_setCell_far, World.cell?_alloc_past, *]; done) | (simp (disch := first | omega | (simp; omega)) [World.cell?_alloc_past, *]; rfl) | (simp (disch := first | omega | (simp; omega)) [World.cell?_setCell_far, World.cell?_alloc_past, *]; rfl) | (simp [go_sem, *]; done) | (simp (disch := first | omega | (simp; omega) | (simp [go_sem, *]; done)) [go_sem, World.cell?_setCell_far, World.cell?_alloc_past, *]; done))
    have ex28 : ∀ Y, (ext WWx2 Y).cell? ⟨w.heap.size, 8, none⟩ = some (.int .i64 p.ping) := by subst hWWx2; intro Y; exact (ext_cell _ Y (by first | omega | (simp; done) | (simp; omega))).trans (by first | (simp (disch := first | omega | (simp; omega)) [World.cell?_alloc_past, *]; done) | (simp (disch := first | omega | (simp; omega)) [World.cell?_setCell_far, World.cell?_alloc_past, *]; done) | (simp (disch := first | omega | (simp; omega)) [World.cell?_alloc_past, *]; rfl) | (simp (disch := first | omega | (simp; omega)) [World.cell?_setCell_far, World.cell?_alloc_past, *]; rfl) | (simp [go_sem, *]; done) | (simp (disch := first | omega | (simp; omega) | (simp [go_sem, *]; done)) [go_sem, World.cell?_setCell_far, World.cell?_alloc_past, *]; done))
    have ex29 : ∀ Y, (ext WWx2 Y).cell? ⟨w.heap.size, 9, none⟩ = some (.int .i64 p.work) := by subst hWWx2; intro Y; exact (ext_cell _ Y (by first | omega | (simp; done) | (simp; omega))).trans (by first | (simp (disch := first | omega | (simp; omega)) [World.cell?_alloc_past, *]; done) | (simp (disch := first | omega | (simp; omega)) [World.cell?_setCell_far, World.cell?_alloc_past, *]; done) | (simp (disch := first | omega | (simp; omega)) [World.cell?_alloc_past, *]; rfl) | (simp (disch := first | omega | (simp; omega)) [World.cell?_setCell_far, World.cell?_alloc_past, *]; rfl) | (simp [go_sem, *]; done) | (simp (disch := first | omega | (simp; omega) | (simp [go_sem, *]; done)) [go_sem, World.cell?_setCell_far, World.cell?_alloc_past, *]; done))
    have bWx2 : Below w.heap.size w WWx2 := by subst hWWx2; (repeat (first | assumption | exact Below.refl _ _ | refine Below.setCell ?_ (by first | omega | (simp; done) | (simp; omega)) _ | refine Below.alloc ?_ (by first | omega | (simp; done) | (simp; omega)) _ | refine Below.drew ?_ | (refine Below.trans ?_ (Below.mono (by assumption) (by first | omega | (simp; done) | (simp; omega))))))
    have lWx20 : w.heap.size < WWx2.heap.size := by subst hWWx2; first | omega | (simp; done) | (simp; omega)
    clear hWWx2
    try simp only [List.append_eq, List.cons_append, List.nil_append]
    refine wp_region_ext (by kernel_rfl) (by kernel_rfl) ?_
    repeat (go_big_quiet_step ((first | (go_at_call 76; with_reducible exact qe (HE.out _)) | (go_at_call 77; with_reducible exact qe (HD1.out _)) | (go_at_call 77; with_reducible exact qe (HD2.out _)) | (go_at_call 77; with_reducible exact qe (HD3.out _)) | (go_at_call 77; with_reducible exact qe (HD4.out _)) | (go_at_call 89; with_reducible exact qe (HS.out _)))))
    refine wpQuiet_nil ?_
    intro _ hw'
    obtain ⟨x2, hw''⟩ := hw'
    subst hw''
    have px20 := ex20 x2
    have px21 := ex21 x2
    have px22 := ex22 x2
    have px23 := ex23 x2
    have px24 := ex24 x2
    have px25 := ex25 x2
    have px26 := ex26 x2
    have px27 := ex27 x2
    have px28 := ex28 x2
    have px29 := ex29 x2
    clear ex20 ex21 ex22 ex23 ex24 ex25 ex26 ex27 ex28 ex29
    have bwx2 := bWx2.trans ((ext_below WWx2 x2).mono bWx2.size)
    have zwx2 := bwx2.size
    have zex2 := (ext_below WWx2 x2).size
    go_wp2_with fail
    go_ret
    exact ⟨ret_str HRES.out, bwx2⟩
  | false =>
    rw [if_neg (by rw [hc]; simp)] at hres
    have hres' : bs [111, 117, 116, 32] ++ bs t1 ++ bs [32, 115, 105, 110, 99, 101, 32] ++ bs t2 ++ bs [32, 112, 111, 105, 110, 116, 115, 32] ++ bs t3 ++ bs [32, 112, 105, 110, 103, 32] ++ bs t4 ++ bs [32, 119, 111, 114, 107, 32] ++ bs t5 = bs res := by simp only [bs_append]; rw [← hres]
    have HRES := Lib.hid hres'
    clear hres hres' hc
    have z0 : (bs [111, 117, 116, 32]).size = 4 := by rw [bs_size]; rfl
    have z2 : (bs [32, 115, 105, 110, 99, 101, 32]).size = 7 := by rw [bs_size]; rfl
    have z4 : (bs [32, 112, 111, 105, 110, 116, 115, 32]).size = 8 := by rw [bs_size]; rfl
    have z6 : (bs [32, 112, 105, 110, 103, 32]).size = 6 := by rw [bs_size]; rfl
    have z8 : (bs [32, 119, 111, 114, 107, 32]).size = 6 := by rw [bs_size]; rfl
    have s1 : ¬ 9223372036854775807 < (bs [111, 117, 116, 32]).size + (bs t1).size := by simp only [ByteArray.size_append, z0, z2, z4, z6, z8]; omega
    have s2 : ¬ 9223372036854775807 < (bs [111, 117, 116, 32] ++ bs t1).size + (bs [32, 115, 105, 110, 99, 101, 32]).size := by simp only [ByteArray.size_append, z0, z2, z4, z6, z8]; omega
    have s3 : ¬ 9223372036854775807 < (bs [111, 117, 116, 32] ++ bs t1 ++ bs [32, 115, 105, 110, 99, 101, 32]).size + (bs t2).size := by simp only [ByteArray.size_append, z0, z2, z4, z6, z8]; omega
    have s4 : ¬ 9223372036854775807 < (bs [111, 117, 116, 32] ++ bs t1 ++ bs [32, 115, 105, 110, 99, 101, 32] ++ bs t2).size + (bs [32, 112, 111, 105, 110, 116, 115, 32]).size := by simp only [ByteArray.size_append, z0, z2, z4, z6, z8]; omega
    have s5 : ¬ 9223372036854775807 < (bs [111, 117, 116, 32] ++ bs t1 ++ bs [32, 115, 105, 110, 99, 101, 32] ++ bs t2 ++ bs [32, 112, 111, 105, 110, 116, 115, 32]).size + (bs t3).size := by simp only [ByteArray.size_append, z0, z2, z4, z6, z8]; omega
    have s6 : ¬ 9223372036854775807 < (bs [111, 117, 116, 32] ++ bs t1 ++ bs [32, 115, 105, 110, 99, 101, 32] ++ bs t2 ++ bs [32, 112, 111, 105, 110, 116, 115, 32] ++ bs t3).size + (bs [32, 112, 105, 110, 103, 32]).size := by simp only [ByteArray.size_append, z0, z2, z4, z6, z8]; omega
    have s7 : ¬ 9223372036854775807 < (bs [111, 117, 116, 32] ++ bs t1 ++ bs [32, 115, 105, 110, 99, 101, 32] ++ bs t2 ++ bs [32, 112, 111, 105, 110, 116, 115, 32] ++ bs t3 ++ bs [32, 112, 105, 110, 103, 32]).size + (bs t4).size := by simp only [ByteArray.size_append, z0, z2, z4, z6, z8]; omega
    have s8 : ¬ 9223372036854775807 < (bs [111, 117, 116, 32] ++ bs t1 ++ bs [32, 115, 105, 110, 99, 101, 32] ++ bs t2 ++ bs [32, 112, 111, 105, 110, 116, 115, 32] ++ bs t3 ++ bs [32, 112, 105, 110, 103, 32] ++ bs t4).size + (bs [32, 119, 111, 114, 107, 32]).size := by simp only [ByteArray.size_append, z0, z2, z4, z6, z8]; omega
    have s9 : ¬ 9223372036854775807 < (bs [111, 117, 116, 32] ++ bs t1 ++ bs [32, 115, 105, 110, 99, 101, 32] ++ bs t2 ++ bs [32, 112, 111, 105, 110, 116, 115, 32] ++ bs t3 ++ bs [32, 112, 105, 110, 103, 32] ++ bs t4 ++ bs [32, 119, 111, 114, 107, 32]).size + (bs t5).size := by simp only [ByteArray.size_append, z0, z2, z4, z6, z8]; omega
    clear z0 z2 z4 z6 z8
    go_enter Try.func33, Try.ntmps33
    go_wp2_with fail
    go_name_world WWx2 hWWx2
    have ex20 : ∀ Y, (ext WWx2 Y).cell? ⟨w.heap.size, 0, none⟩ = some (.bool p.en.ad.v6) := by subst hWWx2; intro Y; exact (ext_cell _ Y (by first | omega | (simp; done) | (simp; omega))).trans (by first | (simp (disch := first | omega | (simp; omega)) [World.cell?_alloc_past, *]; done) | (simp (disch := first | omega | (simp; omega)) [World.cell?_setCell_far, World.cell?_alloc_past, *]; done) | (simp (disch := first | omega | (simp; omega)) [World.cell?_alloc_past, *]; rfl) | (simp (disch := first | omega | (simp; omega)) [World.cell?_setCell_far, World.cell?_alloc_past, *]; rfl) | (simp [go_sem, *]; done) | (simp (disch := first | omega | (simp; omega) | (simp [go_sem, *]; done)) [go_sem, World.cell?_setCell_far, World.cell?_alloc_past, *]; done))
    have ex21 : ∀ Y, (ext WWx2 Y).cell? ⟨w.heap.size, 1, none⟩ = some (.int .u64 p.en.ad.hi) := by subst hWWx2; intro Y; exact (ext_cell _ Y (by first | omega | (simp; done) | (simp; omega))).trans (by first | (simp (disch := first | omega | (simp; omega)) [World.cell?_alloc_past, *]; done) | (simp (disch := first | omega | (simp; omega)) [World.cell?_setCell_far, World.cell?_alloc_past, *]; done) | (simp (disch := first | omega | (simp; omega)) [World.cell?_alloc_past, *]; rfl) | (simp (disch := first | omega | (simp; omega)) [World.cell?_setCell_far, World.cell?_alloc_past, *]; rfl) | (simp [go_sem, *]; done) | (simp (disch := first | omega | (simp; omega) | (simp [go_sem, *]; done)) [go_sem, World.cell?_setCell_far, World.cell?_alloc_past, *]; done))
    have ex22 : ∀ Y, (ext WWx2 Y).cell? ⟨w.heap.size, 2, none⟩ = some (.int .u64 p.en.ad.lo) := by subst hWWx2; intro Y; exact (ext_cell _ Y (by first | omega | (simp; done) | (simp; omega))).trans (by first | (simp (disch := first | omega | (simp; omega)) [World.cell?_alloc_past, *]; done) | (simp (disch := first | omega | (simp; omega)) [World.cell?_setCell_far, World.cell?_alloc_past, *]; done) | (simp (disch := first | omega | (simp; omega)) [World.cell?_alloc_past, *]; rfl) | (simp (disch := first | omega | (simp; omega)) [World.cell?_setCell_far, World.cell?_alloc_past, *]; rfl) | (simp [go_sem, *]; done) | (simp (disch := first | omega | (simp; omega) | (simp [go_sem, *]; done)) [go_sem, World.cell?_setCell_far, World.cell?_alloc_past, *]; done))
    have ex23 : ∀ Y, (ext WWx2 Y).cell? ⟨w.heap.size, 3, none⟩ = some (.int .i64 p.en.port) := by subst hWWx2; intro Y; exact (ext_cell _ Y (by first | omega | (simp; done) | (simp; omega))).trans (by first | (simp (disch := first | omega | (simp; omega)) [World.cell?_alloc_past, *]; done) | (simp (disch := first | omega | (simp; omega)) [World.cell?_setCell_far, World.cell?_alloc_past, *]; done) | (simp (disch := first | omega | (simp; omega)) [World.cell?_alloc_past, *]; rfl) | (simp (disch := first | omega | (simp; omega)) [World.cell?_setCell_far, World.cell?_alloc_past, *]; rfl) | (simp [go_sem, *]; done) | (simp (disch := first | omega | (simp; omega) | (simp [go_sem, *]; done)) [go_sem, World.cell?_setCell_far, World.cell?_alloc_past, *]; done))
    have ex24 : ∀ Y, (ext WWx2 Y).cell? ⟨w.heap.size, 4, none⟩ = some (.bool false) := by subst hWWx2; intro Y; exact (ext_cell _ Y (by first | omega | (simp; done) | (simp; omega))).trans (by first | (simp (disch := first | omega | (simp; omega)) [World.cell?_alloc_past, *]; done) | (simp (disch := first | omega | (simp; omega)) [World.cell?_setCell_far, World.cell?_alloc_past, *]; done) | (simp (disch := first | omega | (simp; omega)) [World.cell?_alloc_past, *]; rfl) | (simp (disch := first | omega | (simp; omega)) [World.cell?_setCell_far, World.cell?_alloc_past, *]; rfl) | (simp [go_sem, *]; done) | (simp (disch := first | omega | (simp; omega) | (simp [go_sem, *]; done)) [go_sem, World.cell?_setCell_far, World.cell?_alloc_past, *]; done))
    have ex25 : ∀ Y, (ext WWx2 Y).cell? ⟨w.heap.size, 5, none⟩ = some (.int .i64 p.since) := by subst hWWx2; intro Y; exact (ext_cell _ Y (by first | omega | (simp; done) | (simp; omega))).trans (by first | (simp (disch := first | omega | (simp; omega)) [World.cell?_alloc_past, *]; done) | (simp (disch := first | omega | (simp; omega)) [World.cell?_setCell_far, World.cell?_alloc_past, *]; done) | (simp (disch := first | omega | (simp; omega)) [World.cell?_alloc_past, *]; rfl) | (simp (disch := first | omega | (simp; omega)) [World.cell?_setCell_far, World.cell?_alloc_past, *]; rfl) | (simp [go_sem, *]; done) | (simp (disch := first | omega | (simp; omega) | (simp [go_sem, *]; done)) [go_sem, World.cell?_setCell_far, World.cell?_alloc_past, *]; done))
    have ex26 : ∀ Y, (ext WWx2 Y).cell? ⟨w.heap.size, 6, none⟩ = some (.int .i64 p.pts) := by subst hWWx2; intro Y; exact (ext_cell _ Y (by first | omega | (simp; done) | (simp; omega))).trans (by first | (simp (disch := first | omega | (simp; omega)) [World.cell?_alloc_past, *]; done) | (simp (disch := first | omega | (simp; omega)) [World.cell?_setCell_far, World.cell?_alloc_past, *]; done) | (simp (disch := first | omega | (simp; omega)) [World.cell?_alloc_past, *]; rfl) | (simp (disch := first | omega | (simp; omega)) [World.cell?_setCell_far, World.cell?_alloc_past, *]; rfl) | (simp [go_sem, *]; done) | (simp (disch := first | omega | (simp; omega) | (simp [go_sem, *]; done)) [go_sem, World.cell?_setCell_far, World.cell?_alloc_past, *]; done))
    have ex27 : ∀ Y, (ext WWx2 Y).cell? ⟨w.heap.size, 7, none⟩ = some (.int .i64 p.at_) := by subst hWWx2; intro Y; exact (ext_cell _ Y (by first | omega | (simp; done) | (simp; omega))).trans (by first | (simp (disch := first | omega | (simp; omega)) [World.cell?_alloc_past, *]; done) | (simp (disch := first | omega | (simp; omega)) [World.cell?_setCell_far, World.cell?_alloc_past, *]; done) | (simp (disch := first | omega | (simp; omega)) [World.cell?_alloc_past, *]; rfl) | (simp (disch := first | omega | (simp; omega)) [World.cell?_setCell_far, World.cell?_alloc_past, *]; rfl) | (simp [go_sem, *]; done) | (simp (disch := first | omega | (simp; omega) | (simp [go_sem, *]; done)) [go_sem, World.cell?_setCell_far, World.cell?_alloc_past, *]; done))
    have ex28 : ∀ Y, (ext WWx2 Y).cell? ⟨w.heap.size, 8, none⟩ = some (.int .i64 p.ping) := by subst hWWx2; intro Y; exact (ext_cell _ Y (by first | omega | (simp; done) | (simp; omega))).trans (by first | (simp (disch := first | omega | (simp; omega)) [World.cell?_alloc_past, *]; done) | (simp (disch := first | omega | (simp; omega)) [World.cell?_setCell_far, World.cell?_alloc_past, *]; done) | (simp (disch := first | omega | (simp; omega)) [World.cell?_alloc_past, *]; rfl) | (simp (disch := first | omega | (simp; omega)) [World.cell?_setCell_far, World.cell?_alloc_past, *]; rfl) | (simp [go_sem, *]; done) | (simp (disch := first | omega | (simp; omega) | (simp [go_sem, *]; done)) [go_sem, World.cell?_setCell_far, World.cell?_alloc_past, *]; done))
    have ex29 : ∀ Y, (ext WWx2 Y).cell? ⟨w.heap.size, 9, none⟩ = some (.int .i64 p.work) := by subst hWWx2; intro Y; exact (ext_cell _ Y (by first | omega | (simp; done) | (simp; omega))).trans (by first | (simp (disch := first | omega | (simp; omega)) [World.cell?_alloc_past, *]; done) | (simp (disch := first | omega | (simp; omega)) [World.cell?_setCell_far, World.cell?_alloc_past, *]; done) | (simp (disch := first | omega | (simp; omega)) [World.cell?_alloc_past, *]; rfl) | (simp (disch := first | omega | (simp; omega)) [World.cell?_setCell_far, World.cell?_alloc_past, *]; rfl) | (simp [go_sem, *]; done) | (simp (disch := first | omega | (simp; omega) | (simp [go_sem, *]; done)) [go_sem, World.cell?_setCell_far, World.cell?_alloc_past, *]; done))
    have bWx2 : Below w.heap.size w WWx2 := by subst hWWx2; (repeat (first | assumption | exact Below.refl _ _ | refine Below.setCell ?_ (by first | omega | (simp; done) | (simp; omega)) _ | refine Below.alloc ?_ (by first | omega | (simp; done) | (simp; omega)) _ | refine Below.drew ?_ | (refine Below.trans ?_ (Below.mono (by assumption) (by first | omega | (simp; done) | (simp; omega))))))
    have lWx20 : w.heap.size < WWx2.heap.size := by subst hWWx2; first | omega | (simp; done) | (simp; omega)
    clear hWWx2
    try simp only [List.append_eq, List.cons_append, List.nil_append]
    refine wp_region_ext (by kernel_rfl) (by kernel_rfl) ?_
    repeat (go_big_quiet_step ((first | (go_at_call 76; with_reducible exact qe (HE.out _)) | (go_at_call 77; with_reducible exact qe (HD1.out _)) | (go_at_call 77; with_reducible exact qe (HD2.out _)) | (go_at_call 77; with_reducible exact qe (HD3.out _)) | (go_at_call 77; with_reducible exact qe (HD4.out _)) | (go_at_call 89; with_reducible exact qe (HS.out _)))))
    refine wpQuiet_nil ?_
    intro _ hw'
    obtain ⟨x2, hw''⟩ := hw'
    subst hw''
    have px20 := ex20 x2
    have px21 := ex21 x2
    have px22 := ex22 x2
    have px23 := ex23 x2
    have px24 := ex24 x2
    have px25 := ex25 x2
    have px26 := ex26 x2
    have px27 := ex27 x2
    have px28 := ex28 x2
    have px29 := ex29 x2
    clear ex20 ex21 ex22 ex23 ex24 ex25 ex26 ex27 ex28 ex29
    have bwx2 := bWx2.trans ((ext_below WWx2 x2).mono bWx2.size)
    have zwx2 := bwx2.size
    have zex2 := (ext_below WWx2 x2).size
    go_wp2_with fail
    go_ret
    exact ⟨ret_str HRES.out, bwx2⟩
end Go.Proofs.Ytnohkfbapibmdaa
/- The contracts of what becomes of a peer: work, blame. -/
namespace Go.Proofs.Ytnohkfbapibmdaa
open Go.RowKit
set_option linter.unusedSimpArgs false
set_option linter.unusedVariables false

set_option maxRecDepth 100000 in
set_option maxHeartbeats 4000000 in
theorem refPeWorked_any (p : Pe) (n : Int) (w : World) : Calls Try.prog 29 #[.agg #[.bool p.en.ad.v6, .int .u64 p.en.ad.hi, .int .u64 p.en.ad.lo, .int .i64 p.en.port, .bool p.came, .int .i64 p.since, .int .i64 p.pts, .int .i64 p.at_, .int .i64 p.ping, .int .i64 p.work], .int .i64 n] w fun r w' => r = .returned (.agg #[.bool (peWorked p n).en.ad.v6, .int .u64 (peWorked p n).en.ad.hi, .int .u64 (peWorked p n).en.ad.lo, .int .i64 (peWorked p n).en.port, .bool (peWorked p n).came, .int .i64 (peWorked p n).since, .int .i64 (peWorked p n).pts, .int .i64 (peWorked p n).at_, .int .i64 (peWorked p n).ping, .int .i64 (peWorked p n).work]) ∧ Below w.heap.size w w' := by
  have HF := Lib.hid (fun w => refFit_any n w)
  unfold peWorked
  simp only
  generalize fitI n = t at *
  rcases Int.lt_or_le p.work t with h | h
  · rw [show max p.work t = t from by omega]
    go_enter Try.func29, Try.ntmps29
    go_wp2_with (go_at_call 83; (with_reducible refine (HF.out _).mono ?_); rintro e w1 ⟨rfl, rfl⟩)
    refine bodyPost_named fun W9 h9 => ?_
    have e90 : W9.cell? ⟨w.heap.size + 1, 0, none⟩ = some (.bool p.en.ad.v6) := by subst h9; (first | (simp [go_sem, *]; done) | (simp (disch := first | omega | (simp; omega) | (simp [go_sem, *]; done)) [go_sem, World.cell?_setCell_far, World.cell?_alloc_past, *]; done))
    have e91 : W9.cell? ⟨w.heap.size + 1, 1, none⟩ = some (.int .u64 p.en.ad.hi) := by subst h9; (first | (simp [go_sem, *]; done) | (simp (disch := first | omega | (simp; omega) | (simp [go_sem, *]; done)) [go_sem, World.cell?_setCell_far, World.cell?_alloc_past, *]; done))
    have e92 : W9.cell? ⟨w.heap.size + 1, 2, none⟩ = some (.int .u64 p.en.ad.lo) := by subst h9; (first | (simp [go_sem, *]; done) | (simp (disch := first | omega | (simp; omega) | (simp [go_sem, *]; done)) [go_sem, World.cell?_setCell_far, World.cell?_alloc_past, *]; done))
    have e93 : W9.cell? ⟨w.heap.size + 1, 3, none⟩ = some (.int .i64 p.en.port) := by subst h9; (first | (simp [go_sem, *]; done) | (simp (disch := first | omega | (simp; omega) | (simp [go_sem, *]; done)) [go_sem, World.cell?_setCell_far, World.cell?_alloc_past, *]; done))
    have e94 : W9.cell? ⟨w.heap.size + 1, 4, none⟩ = some (.bool p.came) := by subst h9; (first | (simp [go_sem, *]; done) | (simp (disch := first | omega | (simp; omega) | (simp [go_sem, *]; done)) [go_sem, World.cell?_setCell_far, World.cell?_alloc_past, *]; done))
    have e95 : W9.cell? ⟨w.heap.size + 1, 5, none⟩ = some (.int .i64 p.since) := by subst h9; (first | (simp [go_sem, *]; done) | (simp (disch := first | omega | (simp; omega) | (simp [go_sem, *]; done)) [go_sem, World.cell?_setCell_far, World.cell?_alloc_past, *]; done))
    have e96 : W9.cell? ⟨w.heap.size + 1, 6, none⟩ = some (.int .i64 p.pts) := by subst h9; (first | (simp [go_sem, *]; done) | (simp (disch := first | omega | (simp; omega) | (simp [go_sem, *]; done)) [go_sem, World.cell?_setCell_far, World.cell?_alloc_past, *]; done))
    have e97 : W9.cell? ⟨w.heap.size + 1, 7, none⟩ = some (.int .i64 p.at_) := by subst h9; (first | (simp [go_sem, *]; done) | (simp (disch := first | omega | (simp; omega) | (simp [go_sem, *]; done)) [go_sem, World.cell?_setCell_far, World.cell?_alloc_past, *]; done))
    have e98 : W9.cell? ⟨w.heap.size + 1, 8, none⟩ = some (.int .i64 p.ping) := by subst h9; (first | (simp [go_sem, *]; done) | (simp (disch := first | omega | (simp; omega) | (simp [go_sem, *]; done)) [go_sem, World.cell?_setCell_far, World.cell?_alloc_past, *]; done))
    have e99 : W9.cell? ⟨w.heap.size + 1, 9, none⟩ = some (.int .i64 t) := by subst h9; (first | (simp [go_sem, *]; done) | (simp (disch := first | omega | (simp; omega) | (simp [go_sem, *]; done)) [go_sem, World.cell?_setCell_far, World.cell?_alloc_past, *]; done))
    have b9 : Below w.heap.size w W9 := by subst h9; (repeat (first | with_reducible assumption | with_reducible exact Below.refl _ _ | with_reducible refine Below.setCell ?_ (by first | omega | (simp; done) | (simp; omega)) _ | with_reducible refine Below.alloc ?_ (by first | omega | (simp; done) | (simp; omega)) _ | with_reducible refine Below.drew ?_ | (with_reducible refine Below.trans ?_ (Below.mono (by with_reducible assumption) (by first | omega | (simp; done) | (simp; omega)))) | (refine Below.trans ?_ (Below.mono (by assumption) (by first | omega | (simp; done) | (simp; omega))))))
    clear h9
    refine bodyPost_ret (v := .agg #[.bool p.en.ad.v6, .int .u64 p.en.ad.hi, .int .u64 p.en.ad.lo, .int .i64 p.en.port, .bool p.came, .int .i64 p.since, .int .i64 p.pts, .int .i64 p.at_, .int .i64 p.ping, .int .i64 t]) (by simp [results, Try.results29, go_sem, e90, e91, e92, e93, e94, e95, e96, e97, e98, e99]) rfl ⟨?_, b9⟩
    exact rfl
  · rw [show max p.work t = p.work from by omega]
    go_enter Try.func29, Try.ntmps29
    go_wp2_with (go_at_call 83; (with_reducible refine (HF.out _).mono ?_); rintro e w1 ⟨rfl, rfl⟩)
    refine bodyPost_named fun W9 h9 => ?_
    have e90 : W9.cell? ⟨w.heap.size + 1, 0, none⟩ = some (.bool p.en.ad.v6) := by subst h9; (first | (simp [go_sem, *]; done) | (simp (disch := first | omega | (simp; omega) | (simp [go_sem, *]; done)) [go_sem, World.cell?_setCell_far, World.cell?_alloc_past, *]; done))
    have e91 : W9.cell? ⟨w.heap.size + 1, 1, none⟩ = some (.int .u64 p.en.ad.hi) := by subst h9; (first | (simp [go_sem, *]; done) | (simp (disch := first | omega | (simp; omega) | (simp [go_sem, *]; done)) [go_sem, World.cell?_setCell_far, World.cell?_alloc_past, *]; done))
    have e92 : W9.cell? ⟨w.heap.size + 1, 2, none⟩ = some (.int .u64 p.en.ad.lo) := by subst h9; (first | (simp [go_sem, *]; done) | (simp (disch := first | omega | (simp; omega) | (simp [go_sem, *]; done)) [go_sem, World.cell?_setCell_far, World.cell?_alloc_past, *]; done))
    have e93 : W9.cell? ⟨w.heap.size + 1, 3, none⟩ = some (.int .i64 p.en.port) := by subst h9; (first | (simp [go_sem, *]; done) | (simp (disch := first | omega | (simp; omega) | (simp [go_sem, *]; done)) [go_sem, World.cell?_setCell_far, World.cell?_alloc_past, *]; done))
    have e94 : W9.cell? ⟨w.heap.size + 1, 4, none⟩ = some (.bool p.came) := by subst h9; (first | (simp [go_sem, *]; done) | (simp (disch := first | omega | (simp; omega) | (simp [go_sem, *]; done)) [go_sem, World.cell?_setCell_far, World.cell?_alloc_past, *]; done))
    have e95 : W9.cell? ⟨w.heap.size + 1, 5, none⟩ = some (.int .i64 p.since) := by subst h9; (first | (simp [go_sem, *]; done) | (simp (disch := first | omega | (simp; omega) | (simp [go_sem, *]; done)) [go_sem, World.cell?_setCell_far, World.cell?_alloc_past, *]; done))
    have e96 : W9.cell? ⟨w.heap.size + 1, 6, none⟩ = some (.int .i64 p.pts) := by subst h9; (first | (simp [go_sem, *]; done) | (simp (disch := first | omega | (simp; omega) | (simp [go_sem, *]; done)) [go_sem, World.cell?_setCell_far, World.cell?_alloc_past, *]; done))
    have e97 : W9.cell? ⟨w.heap.size + 1, 7, none⟩ = some (.int .i64 p.at_) := by subst h9; (first | (simp [go_sem, *]; done) | (simp (disch := first | omega | (simp; omega) | (simp [go_sem, *]; done)) [go_sem, World.cell?_setCell_far, World.cell?_alloc_past, *]; done))
    have e98 : W9.cell? ⟨w.heap.size + 1, 8, none⟩ = some (.int .i64 p.ping) := by subst h9; (first | (simp [go_sem, *]; done) | (simp (disch := first | omega | (simp; omega) | (simp [go_sem, *]; done)) [go_sem, World.cell?_setCell_far, World.cell?_alloc_past, *]; done))
    have e99 : W9.cell? ⟨w.heap.size + 1, 9, none⟩ = some (.int .i64 p.work) := by subst h9; (first | (simp [go_sem, *]; done) | (simp (disch := first | omega | (simp; omega) | (simp [go_sem, *]; done)) [go_sem, World.cell?_setCell_far, World.cell?_alloc_past, *]; done))
    have b9 : Below w.heap.size w W9 := by subst h9; (repeat (first | with_reducible assumption | with_reducible exact Below.refl _ _ | with_reducible refine Below.setCell ?_ (by first | omega | (simp; done) | (simp; omega)) _ | with_reducible refine Below.alloc ?_ (by first | omega | (simp; done) | (simp; omega)) _ | with_reducible refine Below.drew ?_ | (with_reducible refine Below.trans ?_ (Below.mono (by with_reducible assumption) (by first | omega | (simp; done) | (simp; omega)))) | (refine Below.trans ?_ (Below.mono (by assumption) (by first | omega | (simp; done) | (simp; omega))))))
    clear h9
    refine bodyPost_ret (v := .agg #[.bool p.en.ad.v6, .int .u64 p.en.ad.hi, .int .u64 p.en.ad.lo, .int .i64 p.en.port, .bool p.came, .int .i64 p.since, .int .i64 p.pts, .int .i64 p.at_, .int .i64 p.ping, .int .i64 p.work]) (by simp [results, Try.results29, go_sem, e90, e91, e92, e93, e94, e95, e96, e97, e98, e99]) rfl ⟨?_, b9⟩
    exact rfl
set_option maxRecDepth 100000 in
set_option maxHeartbeats 4000000 in
theorem peBlamed_any (p : Pe) (x y z : Int) (w : World) : Calls Try.prog 30 #[.agg #[.bool p.en.ad.v6, .int .u64 p.en.ad.hi, .int .u64 p.en.ad.lo, .int .i64 p.en.port, .bool p.came, .int .i64 p.since, .int .i64 p.pts, .int .i64 p.at_, .int .i64 p.ping, .int .i64 p.work], .int .i64 x, .int .i64 y, .int .i64 z] w fun r w' => r = .returned (.agg #[.bool (peBlamed p x y z).en.ad.v6, .int .u64 (peBlamed p x y z).en.ad.hi, .int .u64 (peBlamed p x y z).en.ad.lo, .int .i64 (peBlamed p x y z).en.port, .bool (peBlamed p x y z).came, .int .i64 (peBlamed p x y z).since, .int .i64 (peBlamed p x y z).pts, .int .i64 (peBlamed p x y z).at_, .int .i64 (peBlamed p x y z).ping, .int .i64 (peBlamed p x y z).work]) ∧ Below w.heap.size w w' := by
  have HA := Lib.hid (fun w => scoreAdd_any p.pts p.at_ x y z w)
  unfold peBlamed
  simp only
  generalize addPts p.pts p.at_ y z x = u at *
  generalize decAt p.at_ y z = v at *
  go_enter Try.func30, Try.ntmps30
  go_wp2_with (go_at_call 84; (with_reducible refine (HA.out _).mono ?_); rintro e w1 ⟨rfl, b1⟩; obtain ⟨c1, f1⟩ := bcell b1; have z1 := b1.size; (try simp at z1); have d1a := fun o => c1 (w.heap.size) o (by first | omega | (simp; done) | (simp; omega)); have q1a := fun o => f1 (w.heap.size) o (by first | omega | (simp; done) | (simp; omega)); have d1b := fun o => c1 (w.heap.size + 1) o (by first | omega | (simp; done) | (simp; omega)); have q1b := fun o => f1 (w.heap.size + 1) o (by first | omega | (simp; done) | (simp; omega)); clear c1 f1)
  refine bodyPost_named fun W9 h9 => ?_
  have e90 : W9.cell? ⟨w.heap.size + 1, 0, none⟩ = some (.bool p.en.ad.v6) := by subst h9; (first | (simp [go_sem, *]; done) | (simp (disch := first | omega | (simp; omega) | (simp [go_sem, *]; done)) [go_sem, World.cell?_setCell_far, World.cell?_alloc_past, *]; done))
  have e91 : W9.cell? ⟨w.heap.size + 1, 1, none⟩ = some (.int .u64 p.en.ad.hi) := by subst h9; (first | (simp [go_sem, *]; done) | (simp (disch := first | omega | (simp; omega) | (simp [go_sem, *]; done)) [go_sem, World.cell?_setCell_far, World.cell?_alloc_past, *]; done))
  have e92 : W9.cell? ⟨w.heap.size + 1, 2, none⟩ = some (.int .u64 p.en.ad.lo) := by subst h9; (first | (simp [go_sem, *]; done) | (simp (disch := first | omega | (simp; omega) | (simp [go_sem, *]; done)) [go_sem, World.cell?_setCell_far, World.cell?_alloc_past, *]; done))
  have e93 : W9.cell? ⟨w.heap.size + 1, 3, none⟩ = some (.int .i64 p.en.port) := by subst h9; (first | (simp [go_sem, *]; done) | (simp (disch := first | omega | (simp; omega) | (simp [go_sem, *]; done)) [go_sem, World.cell?_setCell_far, World.cell?_alloc_past, *]; done))
  have e94 : W9.cell? ⟨w.heap.size + 1, 4, none⟩ = some (.bool p.came) := by subst h9; (first | (simp [go_sem, *]; done) | (simp (disch := first | omega | (simp; omega) | (simp [go_sem, *]; done)) [go_sem, World.cell?_setCell_far, World.cell?_alloc_past, *]; done))
  have e95 : W9.cell? ⟨w.heap.size + 1, 5, none⟩ = some (.int .i64 p.since) := by subst h9; (first | (simp [go_sem, *]; done) | (simp (disch := first | omega | (simp; omega) | (simp [go_sem, *]; done)) [go_sem, World.cell?_setCell_far, World.cell?_alloc_past, *]; done))
  have e96 : W9.cell? ⟨w.heap.size + 1, 6, none⟩ = some (.int .i64 u) := by subst h9; (first | (simp [go_sem, *]; done) | (simp (disch := first | omega | (simp; omega) | (simp [go_sem, *]; done)) [go_sem, World.cell?_setCell_far, World.cell?_alloc_past, *]; done))
  have e97 : W9.cell? ⟨w.heap.size + 1, 7, none⟩ = some (.int .i64 v) := by subst h9; (first | (simp [go_sem, *]; done) | (simp (disch := first | omega | (simp; omega) | (simp [go_sem, *]; done)) [go_sem, World.cell?_setCell_far, World.cell?_alloc_past, *]; done))
  have e98 : W9.cell? ⟨w.heap.size + 1, 8, none⟩ = some (.int .i64 p.ping) := by subst h9; (first | (simp [go_sem, *]; done) | (simp (disch := first | omega | (simp; omega) | (simp [go_sem, *]; done)) [go_sem, World.cell?_setCell_far, World.cell?_alloc_past, *]; done))
  have e99 : W9.cell? ⟨w.heap.size + 1, 9, none⟩ = some (.int .i64 p.work) := by subst h9; (first | (simp [go_sem, *]; done) | (simp (disch := first | omega | (simp; omega) | (simp [go_sem, *]; done)) [go_sem, World.cell?_setCell_far, World.cell?_alloc_past, *]; done))
  have b9 : Below w.heap.size w W9 := by subst h9; (repeat (first | with_reducible assumption | with_reducible exact Below.refl _ _ | with_reducible refine Below.setCell ?_ (by first | omega | (simp; done) | (simp; omega)) _ | with_reducible refine Below.alloc ?_ (by first | omega | (simp; done) | (simp; omega)) _ | with_reducible refine Below.drew ?_ | (with_reducible refine Below.trans ?_ (Below.mono (by with_reducible assumption) (by first | omega | (simp; done) | (simp; omega)))) | (refine Below.trans ?_ (Below.mono (by assumption) (by first | omega | (simp; done) | (simp; omega))))))
  clear h9
  refine bodyPost_ret (v := .agg #[.bool p.en.ad.v6, .int .u64 p.en.ad.hi, .int .u64 p.en.ad.lo, .int .i64 p.en.port, .bool p.came, .int .i64 p.since, .int .i64 u, .int .i64 v, .int .i64 p.ping, .int .i64 p.work]) (by simp [results, Try.results30, go_sem, e90, e91, e92, e93, e94, e95, e96, e97, e98, e99]) rfl ⟨?_, b9⟩
  exact rfl
set_option maxRecDepth 100000 in
set_option maxHeartbeats 4000000 in
theorem refPeBlamed_any (p : Pe) (x y z : Int) (w : World) : Calls Try.prog 31 #[.agg #[.bool p.en.ad.v6, .int .u64 p.en.ad.hi, .int .u64 p.en.ad.lo, .int .i64 p.en.port, .bool p.came, .int .i64 p.since, .int .i64 p.pts, .int .i64 p.at_, .int .i64 p.ping, .int .i64 p.work], .int .i64 x, .int .i64 y, .int .i64 z] w fun r w' => r = .returned (.agg #[.bool (peBlamed p x y z).en.ad.v6, .int .u64 (peBlamed p x y z).en.ad.hi, .int .u64 (peBlamed p x y z).en.ad.lo, .int .i64 (peBlamed p x y z).en.port, .bool (peBlamed p x y z).came, .int .i64 (peBlamed p x y z).since, .int .i64 (peBlamed p x y z).pts, .int .i64 (peBlamed p x y z).at_, .int .i64 (peBlamed p x y z).ping, .int .i64 (peBlamed p x y z).work]) ∧ Below w.heap.size w w' := by
  have HA := Lib.hid (fun w => refScoreAdd_any p.pts p.at_ x y z w)
  unfold peBlamed
  simp only
  generalize addPts p.pts p.at_ y z x = u at *
  generalize decAt p.at_ y z = v at *
  go_enter Try.func31, Try.ntmps31
  go_wp2_with (go_at_call 85; (with_reducible refine (HA.out _).mono ?_); rintro e w1 ⟨rfl, b1⟩; obtain ⟨c1, f1⟩ := bcell b1; have z1 := b1.size; (try simp at z1); have d1a := fun o => c1 (w.heap.size) o (by first | omega | (simp; done) | (simp; omega)); have q1a := fun o => f1 (w.heap.size) o (by first | omega | (simp; done) | (simp; omega)); have d1b := fun o => c1 (w.heap.size + 1) o (by first | omega | (simp; done) | (simp; omega)); have q1b := fun o => f1 (w.heap.size + 1) o (by first | omega | (simp; done) | (simp; omega)); clear c1 f1)
  refine bodyPost_named fun W9 h9 => ?_
  have e90 : W9.cell? ⟨w.heap.size + 1, 0, none⟩ = some (.bool p.en.ad.v6) := by subst h9; (first | (simp [go_sem, *]; done) | (simp (disch := first | omega | (simp; omega) | (simp [go_sem, *]; done)) [go_sem, World.cell?_setCell_far, World.cell?_alloc_past, *]; done))
  have e91 : W9.cell? ⟨w.heap.size + 1, 1, none⟩ = some (.int .u64 p.en.ad.hi) := by subst h9; (first | (simp [go_sem, *]; done) | (simp (disch := first | omega | (simp; omega) | (simp [go_sem, *]; done)) [go_sem, World.cell?_setCell_far, World.cell?_alloc_past, *]; done))
  have e92 : W9.cell? ⟨w.heap.size + 1, 2, none⟩ = some (.int .u64 p.en.ad.lo) := by subst h9; (first | (simp [go_sem, *]; done) | (simp (disch := first | omega | (simp; omega) | (simp [go_sem, *]; done)) [go_sem, World.cell?_setCell_far, World.cell?_alloc_past, *]; done))
  have e93 : W9.cell? ⟨w.heap.size + 1, 3, none⟩ = some (.int .i64 p.en.port) := by subst h9; (first | (simp [go_sem, *]; done) | (simp (disch := first | omega | (simp; omega) | (simp [go_sem, *]; done)) [go_sem, World.cell?_setCell_far, World.cell?_alloc_past, *]; done))
  have e94 : W9.cell? ⟨w.heap.size + 1, 4, none⟩ = some (.bool p.came) := by subst h9; (first | (simp [go_sem, *]; done) | (simp (disch := first | omega | (simp; omega) | (simp [go_sem, *]; done)) [go_sem, World.cell?_setCell_far, World.cell?_alloc_past, *]; done))
  have e95 : W9.cell? ⟨w.heap.size + 1, 5, none⟩ = some (.int .i64 p.since) := by subst h9; (first | (simp [go_sem, *]; done) | (simp (disch := first | omega | (simp; omega) | (simp [go_sem, *]; done)) [go_sem, World.cell?_setCell_far, World.cell?_alloc_past, *]; done))
  have e96 : W9.cell? ⟨w.heap.size + 1, 6, none⟩ = some (.int .i64 u) := by subst h9; (first | (simp [go_sem, *]; done) | (simp (disch := first | omega | (simp; omega) | (simp [go_sem, *]; done)) [go_sem, World.cell?_setCell_far, World.cell?_alloc_past, *]; done))
  have e97 : W9.cell? ⟨w.heap.size + 1, 7, none⟩ = some (.int .i64 v) := by subst h9; (first | (simp [go_sem, *]; done) | (simp (disch := first | omega | (simp; omega) | (simp [go_sem, *]; done)) [go_sem, World.cell?_setCell_far, World.cell?_alloc_past, *]; done))
  have e98 : W9.cell? ⟨w.heap.size + 1, 8, none⟩ = some (.int .i64 p.ping) := by subst h9; (first | (simp [go_sem, *]; done) | (simp (disch := first | omega | (simp; omega) | (simp [go_sem, *]; done)) [go_sem, World.cell?_setCell_far, World.cell?_alloc_past, *]; done))
  have e99 : W9.cell? ⟨w.heap.size + 1, 9, none⟩ = some (.int .i64 p.work) := by subst h9; (first | (simp [go_sem, *]; done) | (simp (disch := first | omega | (simp; omega) | (simp [go_sem, *]; done)) [go_sem, World.cell?_setCell_far, World.cell?_alloc_past, *]; done))
  have b9 : Below w.heap.size w W9 := by subst h9; (repeat (first | with_reducible assumption | with_reducible exact Below.refl _ _ | with_reducible refine Below.setCell ?_ (by first | omega | (simp; done) | (simp; omega)) _ | with_reducible refine Below.alloc ?_ (by first | omega | (simp; done) | (simp; omega)) _ | with_reducible refine Below.drew ?_ | (with_reducible refine Below.trans ?_ (Below.mono (by with_reducible assumption) (by first | omega | (simp; done) | (simp; omega)))) | (refine Below.trans ?_ (Below.mono (by assumption) (by first | omega | (simp; done) | (simp; omega))))))
  clear h9
  refine bodyPost_ret (v := .agg #[.bool p.en.ad.v6, .int .u64 p.en.ad.hi, .int .u64 p.en.ad.lo, .int .i64 p.en.port, .bool p.came, .int .i64 p.since, .int .i64 u, .int .i64 v, .int .i64 p.ping, .int .i64 p.work]) (by simp [results, Try.results31, go_sem, e90, e91, e92, e93, e94, e95, e96, e97, e98, e99]) rfl ⟨?_, b9⟩
  exact rfl
end Go.Proofs.Ytnohkfbapibmdaa
/- The contracts of what becomes of a peer: work. -/
namespace Go.Proofs.Ytnohkfbapibmdaa
open Go.RowKit
set_option linter.unusedSimpArgs false
set_option linter.unusedVariables false

set_option maxRecDepth 100000 in
set_option maxHeartbeats 4000000 in
theorem peWorked_any (p : Pe) (n : Int) (w : World) : Calls Try.prog 28 #[.agg #[.bool p.en.ad.v6, .int .u64 p.en.ad.hi, .int .u64 p.en.ad.lo, .int .i64 p.en.port, .bool p.came, .int .i64 p.since, .int .i64 p.pts, .int .i64 p.at_, .int .i64 p.ping, .int .i64 p.work], .int .i64 n] w fun r w' => r = .returned (.agg #[.bool (peWorked p n).en.ad.v6, .int .u64 (peWorked p n).en.ad.hi, .int .u64 (peWorked p n).en.ad.lo, .int .i64 (peWorked p n).en.port, .bool (peWorked p n).came, .int .i64 (peWorked p n).since, .int .i64 (peWorked p n).pts, .int .i64 (peWorked p n).at_, .int .i64 (peWorked p n).ping, .int .i64 (peWorked p n).work]) ∧ Below w.heap.size w w' := by
  have HF := Lib.hid (fun w => fit_any n w)
  unfold peWorked
  simp only
  generalize fitI n = t at *
  go_enter Try.func28, Try.ntmps28
  go_wp2_with fail
  go_name_world WWx2 hWWx2
  have ex20 : ∀ Y, (ext WWx2 Y).cell? ⟨w.heap.size, 0, none⟩ = some (.bool p.en.ad.v6) := by subst hWWx2; intro Y; exact (ext_cell _ Y (by first | omega | (simp; done) | (simp; omega))).trans (by first | (simp (disch := first | omega | (simp; omega)) [World.cell?_alloc_past, *]; done) | (simp (disch := first | omega | (simp; omega)) [World.cell?_setCell_far, World.cell?_alloc_past, *]; done) | (simp (disch := first | omega | (simp; omega)) [World.cell?_alloc_past, *]; rfl) | (simp (disch := first | omega | (simp; omega)) [World.cell?_setCell_far, World.cell?_alloc_past, *]; rfl) | (simp [go_sem, *]; done) | (simp (disch := first | omega | (simp; omega) | (simp [go_sem, *]; done)) [go_sem, World.cell?_setCell_far, World.cell?_alloc_past, *]; done))
  have ex21 : ∀ Y, (ext WWx2 Y).cell? ⟨w.heap.size, 1, none⟩ = some (.int .u64 p.en.ad.hi) := by subst hWWx2; intro Y; exact (ext_cell _ Y (by first | omega | (simp; done) | (simp; omega))).trans (by first | (simp (disch := first | omega | (simp; omega)) [World.cell?_alloc_past, *]; done) | (simp (disch := first | omega | (simp; omega)) [World.cell?_setCell_far, World.cell?_alloc_past, *]; done) | (simp (disch := first | omega | (simp; omega)) [World.cell?_alloc_past, *]; rfl) | (simp (disch := first | omega | (simp; omega)) [World.cell?_setCell_far, World.cell?_alloc_past, *]; rfl) | (simp [go_sem, *]; done) | (simp (disch := first | omega | (simp; omega) | (simp [go_sem, *]; done)) [go_sem, World.cell?_setCell_far, World.cell?_alloc_past, *]; done))
  have ex22 : ∀ Y, (ext WWx2 Y).cell? ⟨w.heap.size, 2, none⟩ = some (.int .u64 p.en.ad.lo) := by subst hWWx2; intro Y; exact (ext_cell _ Y (by first | omega | (simp; done) | (simp; omega))).trans (by first | (simp (disch := first | omega | (simp; omega)) [World.cell?_alloc_past, *]; done) | (simp (disch := first | omega | (simp; omega)) [World.cell?_setCell_far, World.cell?_alloc_past, *]; done) | (simp (disch := first | omega | (simp; omega)) [World.cell?_alloc_past, *]; rfl) | (simp (disch := first | omega | (simp; omega)) [World.cell?_setCell_far, World.cell?_alloc_past, *]; rfl) | (simp [go_sem, *]; done) | (simp (disch := first | omega | (simp; omega) | (simp [go_sem, *]; done)) [go_sem, World.cell?_setCell_far, World.cell?_alloc_past, *]; done))
  have ex23 : ∀ Y, (ext WWx2 Y).cell? ⟨w.heap.size, 3, none⟩ = some (.int .i64 p.en.port) := by subst hWWx2; intro Y; exact (ext_cell _ Y (by first | omega | (simp; done) | (simp; omega))).trans (by first | (simp (disch := first | omega | (simp; omega)) [World.cell?_alloc_past, *]; done) | (simp (disch := first | omega | (simp; omega)) [World.cell?_setCell_far, World.cell?_alloc_past, *]; done) | (simp (disch := first | omega | (simp; omega)) [World.cell?_alloc_past, *]; rfl) | (simp (disch := first | omega | (simp; omega)) [World.cell?_setCell_far, World.cell?_alloc_past, *]; rfl) | (simp [go_sem, *]; done) | (simp (disch := first | omega | (simp; omega) | (simp [go_sem, *]; done)) [go_sem, World.cell?_setCell_far, World.cell?_alloc_past, *]; done))
  have ex24 : ∀ Y, (ext WWx2 Y).cell? ⟨w.heap.size, 4, none⟩ = some (.bool p.came) := by subst hWWx2; intro Y; exact (ext_cell _ Y (by first | omega | (simp; done) | (simp; omega))).trans (by first | (simp (disch := first | omega | (simp; omega)) [World.cell?_alloc_past, *]; done) | (simp (disch := first | omega | (simp; omega)) [World.cell?_setCell_far, World.cell?_alloc_past, *]; done) | (simp (disch := first | omega | (simp; omega)) [World.cell?_alloc_past, *]; rfl) | (simp (disch := first | omega | (simp; omega)) [World.cell?_setCell_far, World.cell?_alloc_past, *]; rfl) | (simp [go_sem, *]; done) | (simp (disch := first | omega | (simp; omega) | (simp [go_sem, *]; done)) [go_sem, World.cell?_setCell_far, World.cell?_alloc_past, *]; done))
  have ex25 : ∀ Y, (ext WWx2 Y).cell? ⟨w.heap.size, 5, none⟩ = some (.int .i64 p.since) := by subst hWWx2; intro Y; exact (ext_cell _ Y (by first | omega | (simp; done) | (simp; omega))).trans (by first | (simp (disch := first | omega | (simp; omega)) [World.cell?_alloc_past, *]; done) | (simp (disch := first | omega | (simp; omega)) [World.cell?_setCell_far, World.cell?_alloc_past, *]; done) | (simp (disch := first | omega | (simp; omega)) [World.cell?_alloc_past, *]; rfl) | (simp (disch := first | omega | (simp; omega)) [World.cell?_setCell_far, World.cell?_alloc_past, *]; rfl) | (simp [go_sem, *]; done) | (simp (disch := first | omega | (simp; omega) | (simp [go_sem, *]; done)) [go_sem, World.cell?_setCell_far, World.cell?_alloc_past, *]; done))
  have ex26 : ∀ Y, (ext WWx2 Y).cell? ⟨w.heap.size, 6, none⟩ = some (.int .i64 p.pts) := by subst hWWx2; intro Y; exact (ext_cell _ Y (by first | omega | (simp; done) | (simp; omega))).trans (by first | (simp (disch := first | omega | (simp; omega)) [World.cell?_alloc_past, *]; done) | (simp (disch := first | omega | (simp; omega)) [World.cell?_setCell_far, World.cell?_alloc_past, *]; done) | (simp (disch := first | omega | (simp; omega)) [World.cell?_alloc_past, *]; rfl) | (simp (disch := first | omega | (simp; omega)) [World.cell?_setCell_far, World.cell?_alloc_past, *]; rfl) | (simp [go_sem, *]; done) | (simp (disch := first | omega | (simp; omega) | (simp [go_sem, *]; done)) [go_sem, World.cell?_setCell_far, World.cell?_alloc_past, *]; done))
  have ex27 : ∀ Y, (ext WWx2 Y).cell? ⟨w.heap.size, 7, none⟩ = some (.int .i64 p.at_) := by subst hWWx2; intro Y; exact (ext_cell _ Y (by first | omega | (simp; done) | (simp; omega))).trans (by first | (simp (disch := first | omega | (simp; omega)) [World.cell?_alloc_past, *]; done) | (simp (disch := first | omega | (simp; omega)) [World.cell?_setCell_far, World.cell?_alloc_past, *]; done) | (simp (disch := first | omega | (simp; omega)) [World.cell?_alloc_past, *]; rfl) | (simp (disch := first | omega | (simp; omega)) [World.cell?_setCell_far, World.cell?_alloc_past, *]; rfl) | (simp [go_sem, *]; done) | (simp (disch := first | omega | (simp; omega) | (simp [go_sem, *]; done)) [go_sem, World.cell?_setCell_far, World.cell?_alloc_past, *]; done))
  have ex28 : ∀ Y, (ext WWx2 Y).cell? ⟨w.heap.size, 8, none⟩ = some (.int .i64 p.ping) := by subst hWWx2; intro Y; exact (ext_cell _ Y (by first | omega | (simp; done) | (simp; omega))).trans (by first | (simp (disch := first | omega | (simp; omega)) [World.cell?_alloc_past, *]; done) | (simp (disch := first | omega | (simp; omega)) [World.cell?_setCell_far, World.cell?_alloc_past, *]; done) | (simp (disch := first | omega | (simp; omega)) [World.cell?_alloc_past, *]; rfl) | (simp (disch := first | omega | (simp; omega)) [World.cell?_setCell_far, World.cell?_alloc_past, *]; rfl) | (simp [go_sem, *]; done) | (simp (disch := first | omega | (simp; omega) | (simp [go_sem, *]; done)) [go_sem, World.cell?_setCell_far, World.cell?_alloc_past, *]; done))
  have ex29 : ∀ Y, (ext WWx2 Y).cell? ⟨w.heap.size, 9, none⟩ = some (.int .i64 p.work) := by subst hWWx2; intro Y; exact (ext_cell _ Y (by first | omega | (simp; done) | (simp; omega))).trans (by first | (simp (disch := first | omega | (simp; omega)) [World.cell?_alloc_past, *]; done) | (simp (disch := first | omega | (simp; omega)) [World.cell?_setCell_far, World.cell?_alloc_past, *]; done) | (simp (disch := first | omega | (simp; omega)) [World.cell?_alloc_past, *]; rfl) | (simp (disch := first | omega | (simp; omega)) [World.cell?_setCell_far, World.cell?_alloc_past, *]; rfl) | (simp [go_sem, *]; done) | (simp (disch := first | omega | (simp; omega) | (simp [go_sem, *]; done)) [go_sem, World.cell?_setCell_far, World.cell?_alloc_past, *]; done))
  have ex210 : ∀ Y, (ext WWx2 Y).cell? ⟨w.heap.size + 1, 0, none⟩ = some (.bool false) := by subst hWWx2; intro Y; exact (ext_cell _ Y (by first | omega | (simp; done) | (simp; omega))).trans (by first | (simp (disch := first | omega | (simp; omega)) [World.cell?_alloc_past, *]; done) | (simp (disch := first | omega | (simp; omega)) [World.cell?_setCell_far, World.cell?_alloc_past, *]; done) | (simp (disch := first | omega | (simp; omega)) [World.cell?_alloc_past, *]; rfl) | (simp (disch := first | omega | (simp; omega)) [World.cell?_setCell_far, World.cell?_alloc_past, *]; rfl) | (simp [go_sem, *]; done) | (simp (disch := first | omega | (simp; omega) | (simp [go_sem, *]; done)) [go_sem, World.cell?_setCell_far, World.cell?_alloc_past, *]; done))
  have ex211 : ∀ Y, (ext WWx2 Y).cell? ⟨w.heap.size + 1, 1, none⟩ = some (.int .u64 0) := by subst hWWx2; intro Y; exact (ext_cell _ Y (by first | omega | (simp; done) | (simp; omega))).trans (by first | (simp (disch := first | omega | (simp; omega)) [World.cell?_alloc_past, *]; done) | (simp (disch := first | omega | (simp; omega)) [World.cell?_setCell_far, World.cell?_alloc_past, *]; done) | (simp (disch := first | omega | (simp; omega)) [World.cell?_alloc_past, *]; rfl) | (simp (disch := first | omega | (simp; omega)) [World.cell?_setCell_far, World.cell?_alloc_past, *]; rfl) | (simp [go_sem, *]; done) | (simp (disch := first | omega | (simp; omega) | (simp [go_sem, *]; done)) [go_sem, World.cell?_setCell_far, World.cell?_alloc_past, *]; done))
  have ex212 : ∀ Y, (ext WWx2 Y).cell? ⟨w.heap.size + 1, 2, none⟩ = some (.int .u64 0) := by subst hWWx2; intro Y; exact (ext_cell _ Y (by first | omega | (simp; done) | (simp; omega))).trans (by first | (simp (disch := first | omega | (simp; omega)) [World.cell?_alloc_past, *]; done) | (simp (disch := first | omega | (simp; omega)) [World.cell?_setCell_far, World.cell?_alloc_past, *]; done) | (simp (disch := first | omega | (simp; omega)) [World.cell?_alloc_past, *]; rfl) | (simp (disch := first | omega | (simp; omega)) [World.cell?_setCell_far, World.cell?_alloc_past, *]; rfl) | (simp [go_sem, *]; done) | (simp (disch := first | omega | (simp; omega) | (simp [go_sem, *]; done)) [go_sem, World.cell?_setCell_far, World.cell?_alloc_past, *]; done))
  have ex213 : ∀ Y, (ext WWx2 Y).cell? ⟨w.heap.size + 1, 3, none⟩ = some (.int .i64 0) := by subst hWWx2; intro Y; exact (ext_cell _ Y (by first | omega | (simp; done) | (simp; omega))).trans (by first | (simp (disch := first | omega | (simp; omega)) [World.cell?_alloc_past, *]; done) | (simp (disch := first | omega | (simp; omega)) [World.cell?_setCell_far, World.cell?_alloc_past, *]; done) | (simp (disch := first | omega | (simp; omega)) [World.cell?_alloc_past, *]; rfl) | (simp (disch := first | omega | (simp; omega)) [World.cell?_setCell_far, World.cell?_alloc_past, *]; rfl) | (simp [go_sem, *]; done) | (simp (disch := first | omega | (simp; omega) | (simp [go_sem, *]; done)) [go_sem, World.cell?_setCell_far, World.cell?_alloc_past, *]; done))
  have ex214 : ∀ Y, (ext WWx2 Y).cell? ⟨w.heap.size + 1, 4, none⟩ = some (.bool false) := by subst hWWx2; intro Y; exact (ext_cell _ Y (by first | omega | (simp; done) | (simp; omega))).trans (by first | (simp (disch := first | omega | (simp; omega)) [World.cell?_alloc_past, *]; done) | (simp (disch := first | omega | (simp; omega)) [World.cell?_setCell_far, World.cell?_alloc_past, *]; done) | (simp (disch := first | omega | (simp; omega)) [World.cell?_alloc_past, *]; rfl) | (simp (disch := first | omega | (simp; omega)) [World.cell?_setCell_far, World.cell?_alloc_past, *]; rfl) | (simp [go_sem, *]; done) | (simp (disch := first | omega | (simp; omega) | (simp [go_sem, *]; done)) [go_sem, World.cell?_setCell_far, World.cell?_alloc_past, *]; done))
  have ex215 : ∀ Y, (ext WWx2 Y).cell? ⟨w.heap.size + 1, 5, none⟩ = some (.int .i64 0) := by subst hWWx2; intro Y; exact (ext_cell _ Y (by first | omega | (simp; done) | (simp; omega))).trans (by first | (simp (disch := first | omega | (simp; omega)) [World.cell?_alloc_past, *]; done) | (simp (disch := first | omega | (simp; omega)) [World.cell?_setCell_far, World.cell?_alloc_past, *]; done) | (simp (disch := first | omega | (simp; omega)) [World.cell?_alloc_past, *]; rfl) | (simp (disch := first | omega | (simp; omega)) [World.cell?_setCell_far, World.cell?_alloc_past, *]; rfl) | (simp [go_sem, *]; done) | (simp (disch := first | omega | (simp; omega) | (simp [go_sem, *]; done)) [go_sem, World.cell?_setCell_far, World.cell?_alloc_past, *]; done))
  have ex216 : ∀ Y, (ext WWx2 Y).cell? ⟨w.heap.size + 1, 6, none⟩ = some (.int .i64 0) := by subst hWWx2; intro Y; exact (ext_cell _ Y (by first | omega | (simp; done) | (simp; omega))).trans (by first | (simp (disch := first | omega | (simp; omega)) [World.cell?_alloc_past, *]; done) | (simp (disch := first | omega | (simp; omega)) [World.cell?_setCell_far, World.cell?_alloc_past, *]; done) | (simp (disch := first | omega | (simp; omega)) [World.cell?_alloc_past, *]; rfl) | (simp (disch := first | omega | (simp; omega)) [World.cell?_setCell_far, World.cell?_alloc_past, *]; rfl) | (simp [go_sem, *]; done) | (simp (disch := first | omega | (simp; omega) | (simp [go_sem, *]; done)) [go_sem, World.cell?_setCell_far, World.cell?_alloc_past, *]; done))
  have ex217 : ∀ Y, (ext WWx2 Y).cell? ⟨w.heap.size + 1, 7, none⟩ = some (.int .i64 0) := by subst hWWx2; intro Y; exact (ext_cell _ Y (by first | omega | (simp; done) | (simp; omega))).trans (by first | (simp (disch := first | omega | (simp; omega)) [World.cell?_alloc_past, *]; done) | (simp (disch := first | omega | (simp; omega)) [World.cell?_setCell_far, World.cell?_alloc_past, *]; done) | (simp (disch := first | omega | (simp; omega)) [World.cell?_alloc_past, *]; rfl) | (simp (disch := first | omega | (simp; omega)) [World.cell?_setCell_far, World.cell?_alloc_past, *]; rfl) | (simp [go_sem, *]; done) | (simp (disch := first | omega | (simp; omega) | (simp [go_sem, *]; done)) [go_sem, World.cell?_setCell_far, World.cell?_alloc_past, *]; done))
  have ex218 : ∀ Y, (ext WWx2 Y).cell? ⟨w.heap.size + 1, 8, none⟩ = some (.int .i64 0) := by subst hWWx2; intro Y; exact (ext_cell _ Y (by first | omega | (simp; done) | (simp; omega))).trans (by first | (simp (disch := first | omega | (simp; omega)) [World.cell?_alloc_past, *]; done) | (simp (disch := first | omega | (simp; omega)) [World.cell?_setCell_far, World.cell?_alloc_past, *]; done) | (simp (disch := first | omega | (simp; omega)) [World.cell?_alloc_past, *]; rfl) | (simp (disch := first | omega | (simp; omega)) [World.cell?_setCell_far, World.cell?_alloc_past, *]; rfl) | (simp [go_sem, *]; done) | (simp (disch := first | omega | (simp; omega) | (simp [go_sem, *]; done)) [go_sem, World.cell?_setCell_far, World.cell?_alloc_past, *]; done))
  have ex219 : ∀ Y, (ext WWx2 Y).cell? ⟨w.heap.size + 1, 9, none⟩ = some (.int .i64 0) := by subst hWWx2; intro Y; exact (ext_cell _ Y (by first | omega | (simp; done) | (simp; omega))).trans (by first | (simp (disch := first | omega | (simp; omega)) [World.cell?_alloc_past, *]; done) | (simp (disch := first | omega | (simp; omega)) [World.cell?_setCell_far, World.cell?_alloc_past, *]; done) | (simp (disch := first | omega | (simp; omega)) [World.cell?_alloc_past, *]; rfl) | (simp (disch := first | omega | (simp; omega)) [World.cell?_setCell_far, World.cell?_alloc_past, *]; rfl) | (simp [go_sem, *]; done) | (simp (disch := first | omega | (simp; omega) | (simp [go_sem, *]; done)) [go_sem, World.cell?_setCell_far, World.cell?_alloc_past, *]; done))
  have fzx20 : ∀ Y o, (ext WWx2 Y).frozen? ⟨w.heap.size, o, none⟩ = false := by subst hWWx2; intro Y o; exact (ext_frozen _ Y (by first | omega | (simp; done) | (simp; omega))).trans (by first | (simp (disch := first | omega | (simp; omega)) [World.frozen?_alloc_past, *]; done) | (simp (disch := first | omega | (simp; omega)) [World.frozen?_alloc_past, *]; rfl))
  have fzx21 : ∀ Y o, (ext WWx2 Y).frozen? ⟨w.heap.size + 1, o, none⟩ = false := by subst hWWx2; intro Y o; exact (ext_frozen _ Y (by first | omega | (simp; done) | (simp; omega))).trans (by first | (simp (disch := first | omega | (simp; omega)) [World.frozen?_alloc_past, *]; done) | (simp (disch := first | omega | (simp; omega)) [World.frozen?_alloc_past, *]; rfl))
  have bWx2 : Below w.heap.size w WWx2 := by subst hWWx2; (repeat (first | assumption | exact Below.refl _ _ | refine Below.setCell ?_ (by first | omega | (simp; done) | (simp; omega)) _ | refine Below.alloc ?_ (by first | omega | (simp; done) | (simp; omega)) _ | refine Below.drew ?_ | (refine Below.trans ?_ (Below.mono (by assumption) (by first | omega | (simp; done) | (simp; omega))))))
  have lWx20 : w.heap.size < WWx2.heap.size := by subst hWWx2; first | omega | (simp; done) | (simp; omega)
  have lWx21 : w.heap.size + 1 < WWx2.heap.size := by subst hWWx2; first | omega | (simp; done) | (simp; omega)
  clear hWWx2
  refine wp_region_ext_tail 6 (by kernel_rfl) (by kernel_rfl) ?_
  simp only [List.take_succ_cons, List.take_zero, List.drop_succ_cons, List.drop_zero]
  repeat (go_big_quiet_step ((first | (go_at_call 82; with_reducible exact qs (HF.out _)))))
  refine wpQuiet_nil ?_
  intro _ hw'
  obtain ⟨x2, hw''⟩ := hw'
  subst hw''
  have px20 := ex20 x2
  have px21 := ex21 x2
  have px22 := ex22 x2
  have px23 := ex23 x2
  have px24 := ex24 x2
  have px25 := ex25 x2
  have px26 := ex26 x2
  have px27 := ex27 x2
  have px28 := ex28 x2
  have px29 := ex29 x2
  have px210 := ex210 x2
  have px211 := ex211 x2
  have px212 := ex212 x2
  have px213 := ex213 x2
  have px214 := ex214 x2
  have px215 := ex215 x2
  have px216 := ex216 x2
  have px217 := ex217 x2
  have px218 := ex218 x2
  have px219 := ex219 x2
  have gx20 := fzx20 x2
  clear fzx20
  have gx21 := fzx21 x2
  clear fzx21
  clear ex20 ex21 ex22 ex23 ex24 ex25 ex26 ex27 ex28 ex29 ex210 ex211 ex212 ex213 ex214 ex215 ex216 ex217 ex218 ex219
  have bwx2 := bWx2.trans ((ext_below WWx2 x2).mono bWx2.size)
  have zwx2 := bwx2.size
  have zex2 := (ext_below WWx2 x2).size
  go_wp2_with fail
  refine bodyPost_named fun W9 h9 => ?_
  have e90 : W9.cell? ⟨w.heap.size + 1, 0, none⟩ = some (.bool p.en.ad.v6) := by subst h9; (first | (simp [go_sem, *]; done) | (simp (disch := first | omega | (simp; omega) | (simp [go_sem, *]; done)) [go_sem, World.cell?_setCell_far, World.cell?_alloc_past, *]; done))
  have e91 : W9.cell? ⟨w.heap.size + 1, 1, none⟩ = some (.int .u64 p.en.ad.hi) := by subst h9; (first | (simp [go_sem, *]; done) | (simp (disch := first | omega | (simp; omega) | (simp [go_sem, *]; done)) [go_sem, World.cell?_setCell_far, World.cell?_alloc_past, *]; done))
  have e92 : W9.cell? ⟨w.heap.size + 1, 2, none⟩ = some (.int .u64 p.en.ad.lo) := by subst h9; (first | (simp [go_sem, *]; done) | (simp (disch := first | omega | (simp; omega) | (simp [go_sem, *]; done)) [go_sem, World.cell?_setCell_far, World.cell?_alloc_past, *]; done))
  have e93 : W9.cell? ⟨w.heap.size + 1, 3, none⟩ = some (.int .i64 p.en.port) := by subst h9; (first | (simp [go_sem, *]; done) | (simp (disch := first | omega | (simp; omega) | (simp [go_sem, *]; done)) [go_sem, World.cell?_setCell_far, World.cell?_alloc_past, *]; done))
  have e94 : W9.cell? ⟨w.heap.size + 1, 4, none⟩ = some (.bool p.came) := by subst h9; (first | (simp [go_sem, *]; done) | (simp (disch := first | omega | (simp; omega) | (simp [go_sem, *]; done)) [go_sem, World.cell?_setCell_far, World.cell?_alloc_past, *]; done))
  have e95 : W9.cell? ⟨w.heap.size + 1, 5, none⟩ = some (.int .i64 p.since) := by subst h9; (first | (simp [go_sem, *]; done) | (simp (disch := first | omega | (simp; omega) | (simp [go_sem, *]; done)) [go_sem, World.cell?_setCell_far, World.cell?_alloc_past, *]; done))
  have e96 : W9.cell? ⟨w.heap.size + 1, 6, none⟩ = some (.int .i64 p.pts) := by subst h9; (first | (simp [go_sem, *]; done) | (simp (disch := first | omega | (simp; omega) | (simp [go_sem, *]; done)) [go_sem, World.cell?_setCell_far, World.cell?_alloc_past, *]; done))
  have e97 : W9.cell? ⟨w.heap.size + 1, 7, none⟩ = some (.int .i64 p.at_) := by subst h9; (first | (simp [go_sem, *]; done) | (simp (disch := first | omega | (simp; omega) | (simp [go_sem, *]; done)) [go_sem, World.cell?_setCell_far, World.cell?_alloc_past, *]; done))
  have e98 : W9.cell? ⟨w.heap.size + 1, 8, none⟩ = some (.int .i64 p.ping) := by subst h9; (first | (simp [go_sem, *]; done) | (simp (disch := first | omega | (simp; omega) | (simp [go_sem, *]; done)) [go_sem, World.cell?_setCell_far, World.cell?_alloc_past, *]; done))
  have e99 : W9.cell? ⟨w.heap.size + 1, 9, none⟩ = some (.int .i64 (max p.work t)) := by subst h9; (first | (simp [go_sem, *]; done) | (simp (disch := first | omega | (simp; omega) | (simp [go_sem, *]; done)) [go_sem, World.cell?_setCell_far, World.cell?_alloc_past, *]; done))
  have b9 : Below w.heap.size w W9 := by subst h9; (repeat (first | with_reducible assumption | with_reducible exact Below.refl _ _ | with_reducible refine Below.setCell ?_ (by first | omega | (simp; done) | (simp; omega)) _ | with_reducible refine Below.alloc ?_ (by first | omega | (simp; done) | (simp; omega)) _ | with_reducible refine Below.drew ?_ | (with_reducible refine Below.trans ?_ (Below.mono (by with_reducible assumption) (by first | omega | (simp; done) | (simp; omega)))) | (refine Below.trans ?_ (Below.mono (by assumption) (by first | omega | (simp; done) | (simp; omega))))))
  clear h9
  refine bodyPost_ret (v := .agg #[.bool p.en.ad.v6, .int .u64 p.en.ad.hi, .int .u64 p.en.ad.lo, .int .i64 p.en.port, .bool p.came, .int .i64 p.since, .int .i64 p.pts, .int .i64 p.at_, .int .i64 p.ping, .int .i64 (max p.work t)]) (by simp [results, Try.results28, go_sem, e90, e91, e92, e93, e94, e95, e96, e97, e98, e99]) rfl ⟨?_, b9⟩
  exact rfl
end Go.Proofs.Ytnohkfbapibmdaa
