/- The law of one reply. -/
import Derived.Test.YtnohkfbapibmdaaLawRp
namespace Go.Proofs.Ytnohkfbapibmdaa
open Go.RowKit
set_option linter.unusedSimpArgs false
set_option linter.unusedVariables false

theorem samePeers_nil (a b : Option Addr) (c d : Nat) (w : World) : Calls Try.prog 79 #[.slice a 0 c, .slice b 0 d] w fun e w' => e = .returned (.bool true) ∧ Below w.heap.size w w' := by
  go_enter Try.func79, Try.ntmps79
  go_wp2_with fail
  refine wp_loop_rounds 1 ?_; rw [rounds_succ]
  go_wp2_with fail
  go_ret
  exact ⟨rfl, Below.refl _ _⟩
def sameRp (c1 c2 : Int) (e1 e2 : En) (n1 n2 u1 u2 : Int) : Bool := decide (c1 = c2 ∧ e1 = e2 ∧ n1 = n2 ∧ u1 = u2)
set_option maxRecDepth 100000 in
set_option maxHeartbeats 8000000 in
theorem sameReply_any (c1 c2 : Int) (e1 e2 : En) (n1 n2 u1 u2 : Int) (a b : Option Addr) (k m : Nat) (w : World) : Calls Try.prog 21 #[.agg #[.int .i64 c1, .bool e1.ad.v6, .int .u64 e1.ad.hi, .int .u64 e1.ad.lo, .int .i64 e1.port, .int .i64 n1, .int .i64 u1, .slice a 0 k], .agg #[.int .i64 c2, .bool e2.ad.v6, .int .u64 e2.ad.hi, .int .u64 e2.ad.lo, .int .i64 e2.port, .int .i64 n2, .int .i64 u2, .slice b 0 m]] w fun e w' => e = .returned (.bool (sameRp c1 c2 e1 e2 n1 n2 u1 u2)) ∧ Below w.heap.size w w' := by
  have HP := Lib.hid (fun w => samePeers_nil a b k m w)
  have q := fun W => eqlEn e1 e2 W
  by_cases h1 : c1 = c2
  · have d1 : (c1 == c2) = true := by simpa using h1
    by_cases h2 : e1 = e2
    · rw [decide_eq_true h2] at q
      by_cases h3 : n1 = n2
      · have d3 : (n1 == n2) = true := by simpa using h3
        by_cases h4 : u1 = u2
        · have d4 : (u1 == u2) = true := by simpa using h4
          rw [show sameRp c1 c2 e1 e2 n1 n2 u1 u2 = true from decide_eq_true ⟨h1, h2, h3, h4⟩]
          clear h1 h2 h3 h4
          go_enter Try.func21, Try.ntmps21
          go_wp2_with (go_at_call 79; (with_reducible refine (HP.out _).mono ?_); rintro e w1 ⟨rfl, b1⟩; obtain ⟨c1, f1⟩ := bcell b1; have z1 := b1.size; (try simp at z1); clear c1 f1)
          go_ret
          refine ⟨rfl, ?_⟩
          (repeat (first | with_reducible assumption | with_reducible exact Below.refl _ _ | with_reducible refine Below.setCell ?_ (by first | omega | (simp; done) | (simp; omega)) _ | with_reducible refine Below.alloc ?_ (by first | omega | (simp; done) | (simp; omega)) _ | with_reducible refine Below.drew ?_ | (with_reducible refine Below.trans ?_ (Below.mono (by with_reducible assumption) (by first | omega | (simp; done) | (simp; omega)))) | (refine Below.trans ?_ (Below.mono (by assumption) (by first | omega | (simp; done) | (simp; omega))))))
        · have d4 : (u1 == u2) = false := by simpa using h4
          rw [show sameRp c1 c2 e1 e2 n1 n2 u1 u2 = false from decide_eq_false (fun x => h4 x.2.2.2)]
          clear h1 h2 h3 h4
          go_enter Try.func21, Try.ntmps21
          go_wp2_with (go_at_call 79; (with_reducible refine (HP.out _).mono ?_); rintro e w1 ⟨rfl, b1⟩; obtain ⟨c1, f1⟩ := bcell b1; have z1 := b1.size; (try simp at z1); clear c1 f1)
          go_ret
          refine ⟨rfl, ?_⟩
          (repeat (first | with_reducible assumption | with_reducible exact Below.refl _ _ | with_reducible refine Below.setCell ?_ (by first | omega | (simp; done) | (simp; omega)) _ | with_reducible refine Below.alloc ?_ (by first | omega | (simp; done) | (simp; omega)) _ | with_reducible refine Below.drew ?_ | (with_reducible refine Below.trans ?_ (Below.mono (by with_reducible assumption) (by first | omega | (simp; done) | (simp; omega)))) | (refine Below.trans ?_ (Below.mono (by assumption) (by first | omega | (simp; done) | (simp; omega))))))
      · have d3 : (n1 == n2) = false := by simpa using h3
        rw [show sameRp c1 c2 e1 e2 n1 n2 u1 u2 = false from decide_eq_false (fun x => h3 x.2.2.1)]
        clear h1 h2 h3
        go_enter Try.func21, Try.ntmps21
        go_wp2_with (go_at_call 79; (with_reducible refine (HP.out _).mono ?_); rintro e w1 ⟨rfl, b1⟩; obtain ⟨c1, f1⟩ := bcell b1; have z1 := b1.size; (try simp at z1); clear c1 f1)
        go_ret
        refine ⟨rfl, ?_⟩
        (repeat (first | with_reducible assumption | with_reducible exact Below.refl _ _ | with_reducible refine Below.setCell ?_ (by first | omega | (simp; done) | (simp; omega)) _ | with_reducible refine Below.alloc ?_ (by first | omega | (simp; done) | (simp; omega)) _ | with_reducible refine Below.drew ?_ | (with_reducible refine Below.trans ?_ (Below.mono (by with_reducible assumption) (by first | omega | (simp; done) | (simp; omega)))) | (refine Below.trans ?_ (Below.mono (by assumption) (by first | omega | (simp; done) | (simp; omega))))))
    · rw [decide_eq_false h2] at q
      rw [show sameRp c1 c2 e1 e2 n1 n2 u1 u2 = false from decide_eq_false (fun x => h2 x.2.1)]
      clear h1 h2
      go_enter Try.func21, Try.ntmps21
      go_wp2_with (go_at_call 79; (with_reducible refine (HP.out _).mono ?_); rintro e w1 ⟨rfl, b1⟩; obtain ⟨c1, f1⟩ := bcell b1; have z1 := b1.size; (try simp at z1); clear c1 f1)
      go_ret
      refine ⟨rfl, ?_⟩
      (repeat (first | with_reducible assumption | with_reducible exact Below.refl _ _ | with_reducible refine Below.setCell ?_ (by first | omega | (simp; done) | (simp; omega)) _ | with_reducible refine Below.alloc ?_ (by first | omega | (simp; done) | (simp; omega)) _ | with_reducible refine Below.drew ?_ | (with_reducible refine Below.trans ?_ (Below.mono (by with_reducible assumption) (by first | omega | (simp; done) | (simp; omega)))) | (refine Below.trans ?_ (Below.mono (by assumption) (by first | omega | (simp; done) | (simp; omega))))))
  · have d1 : (c1 == c2) = false := by simpa using h1
    rw [show sameRp c1 c2 e1 e2 n1 n2 u1 u2 = false from decide_eq_false (fun x => h1 x.1)]
    clear h1
    go_enter Try.func21, Try.ntmps21
    go_wp2_with (go_at_call 79; (with_reducible refine (HP.out _).mono ?_); rintro e w1 ⟨rfl, b1⟩; obtain ⟨c1, f1⟩ := bcell b1; have z1 := b1.size; (try simp at z1); clear c1 f1)
    go_ret
    refine ⟨rfl, ?_⟩
    (repeat (first | with_reducible assumption | with_reducible exact Below.refl _ _ | with_reducible refine Below.setCell ?_ (by first | omega | (simp; done) | (simp; omega)) _ | with_reducible refine Below.alloc ?_ (by first | omega | (simp; done) | (simp; omega)) _ | with_reducible refine Below.drew ?_ | (with_reducible refine Below.trans ?_ (Below.mono (by with_reducible assumption) (by first | omega | (simp; done) | (simp; omega)))) | (refine Below.trans ?_ (Below.mono (by assumption) (by first | omega | (simp; done) | (simp; omega))))))
def plainB (code : Int) (e : En) (k : Nat) : Bool := decide (0 ≤ code ∧ code ≤ 9) && ((enRight e || decide (e = zeroEn)) && decide (k = 0))
theorem plainB_iff (code : Int) (e : En) (k : Nat) : plainB code e k = true ↔ (0 ≤ code ∧ code ≤ 9) ∧ (enRight e = true ∨ e = zeroEn) ∧ k = 0 := by unfold plainB; simp
set_option maxRecDepth 100000 in
set_option maxHeartbeats 8000000 in
theorem rpPlain_any (code : Int) (e : En) (hf : e.ad.fits) (n till : Int) (a : Option Addr) (k c : Nat) (w : World) : Calls Try.prog 20 #[.agg #[.int .i64 code, .bool e.ad.v6, .int .u64 e.ad.hi, .int .u64 e.ad.lo, .int .i64 e.port, .int .i64 n, .int .i64 till, .slice a k c]] w fun r w' => r = .returned (.bool (plainB code e k)) ∧ Below w.heap.size w w' := by
  have hR := fun w => refEnRight_any e hf w
  have q := fun W => eqlEn e zeroEn W
  by_cases h1 : 0 ≤ code
  · by_cases h2 : code ≤ 9
    · have d1 : decide (0 ≤ code) = true := decide_eq_true h1
      have d2 : decide (code ≤ 9) = true := decide_eq_true h2
      by_cases h3 : enRight e = true
      · by_cases h4 : k = 0
        · rw [(plainB_iff code e k).2 ⟨⟨h1, h2⟩, Or.inl h3, h4⟩]
          rw [h3] at hR
          have HR := Lib.hid hR; clear hR q h3
          subst h4
          go_enter Try.func20, Try.ntmps20
          go_wp2_with (go_at_call 78; (with_reducible refine (HR.out _).mono ?_); rintro e w1 ⟨rfl, b1⟩; obtain ⟨c1, f1⟩ := bcell b1; have z1 := b1.size; (try simp at z1); have d1a := fun o => c1 (w.heap.size) o (by first | omega | (simp; done) | (simp; omega)); clear c1 f1)
          go_ret
          refine ⟨rfl, ?_⟩
          (repeat (first | with_reducible assumption | with_reducible exact Below.refl _ _ | with_reducible refine Below.setCell ?_ (by first | omega | (simp; done) | (simp; omega)) _ | with_reducible refine Below.alloc ?_ (by first | omega | (simp; done) | (simp; omega)) _ | with_reducible refine Below.drew ?_ | (with_reducible refine Below.trans ?_ (Below.mono (by with_reducible assumption) (by first | omega | (simp; done) | (simp; omega)))) | (refine Below.trans ?_ (Below.mono (by assumption) (by first | omega | (simp; done) | (simp; omega))))))
        · rw [show plainB code e k = false from Bool.eq_false_iff.2 (fun x => by have := (plainB_iff code e k).1 x; exact h4 this.2.2)]
          rw [h3] at hR
          have HR := Lib.hid hR; clear hR q h3
          have d4 : ((k : Int) == 0) = false := by simpa using h4
          go_enter Try.func20, Try.ntmps20
          go_wp2_with (go_at_call 78; (with_reducible refine (HR.out _).mono ?_); rintro e w1 ⟨rfl, b1⟩; obtain ⟨c1, f1⟩ := bcell b1; have z1 := b1.size; (try simp at z1); have d1a := fun o => c1 (w.heap.size) o (by first | omega | (simp; done) | (simp; omega)); clear c1 f1)
          go_ret
          refine ⟨rfl, ?_⟩
          (repeat (first | with_reducible assumption | with_reducible exact Below.refl _ _ | with_reducible refine Below.setCell ?_ (by first | omega | (simp; done) | (simp; omega)) _ | with_reducible refine Below.alloc ?_ (by first | omega | (simp; done) | (simp; omega)) _ | with_reducible refine Below.drew ?_ | (with_reducible refine Below.trans ?_ (Below.mono (by with_reducible assumption) (by first | omega | (simp; done) | (simp; omega)))) | (refine Below.trans ?_ (Below.mono (by assumption) (by first | omega | (simp; done) | (simp; omega))))))
      · have h3' : enRight e = false := by simpa using h3
        rw [h3'] at hR
        have HR := Lib.hid hR; clear hR
        by_cases h5 : e = zeroEn
        · rw [decide_eq_true h5] at q
          unfold zeroEn at q
          simp only [c34] at q
          by_cases h4 : k = 0
          · rw [(plainB_iff code e k).2 ⟨⟨h1, h2⟩, Or.inr h5, h4⟩]
            subst h4
            clear h5 h3 h3'
            go_enter Try.func20, Try.ntmps20
            go_wp2_with (go_at_call 78; (with_reducible refine (HR.out _).mono ?_); rintro e w1 ⟨rfl, b1⟩; obtain ⟨c1, f1⟩ := bcell b1; have z1 := b1.size; (try simp at z1); have d1a := fun o => c1 (w.heap.size) o (by first | omega | (simp; done) | (simp; omega)); clear c1 f1)
            go_ret
            refine ⟨rfl, ?_⟩
            (repeat (first | with_reducible assumption | with_reducible exact Below.refl _ _ | with_reducible refine Below.setCell ?_ (by first | omega | (simp; done) | (simp; omega)) _ | with_reducible refine Below.alloc ?_ (by first | omega | (simp; done) | (simp; omega)) _ | with_reducible refine Below.drew ?_ | (with_reducible refine Below.trans ?_ (Below.mono (by with_reducible assumption) (by first | omega | (simp; done) | (simp; omega)))) | (refine Below.trans ?_ (Below.mono (by assumption) (by first | omega | (simp; done) | (simp; omega))))))
          · rw [show plainB code e k = false from Bool.eq_false_iff.2 (fun x => by have := (plainB_iff code e k).1 x; exact h4 this.2.2)]
            have d4 : ((k : Int) == 0) = false := by simpa using h4
            clear h5 h3 h3'
            go_enter Try.func20, Try.ntmps20
            go_wp2_with (go_at_call 78; (with_reducible refine (HR.out _).mono ?_); rintro e w1 ⟨rfl, b1⟩; obtain ⟨c1, f1⟩ := bcell b1; have z1 := b1.size; (try simp at z1); have d1a := fun o => c1 (w.heap.size) o (by first | omega | (simp; done) | (simp; omega)); clear c1 f1)
            go_ret
            refine ⟨rfl, ?_⟩
            (repeat (first | with_reducible assumption | with_reducible exact Below.refl _ _ | with_reducible refine Below.setCell ?_ (by first | omega | (simp; done) | (simp; omega)) _ | with_reducible refine Below.alloc ?_ (by first | omega | (simp; done) | (simp; omega)) _ | with_reducible refine Below.drew ?_ | (with_reducible refine Below.trans ?_ (Below.mono (by with_reducible assumption) (by first | omega | (simp; done) | (simp; omega)))) | (refine Below.trans ?_ (Below.mono (by assumption) (by first | omega | (simp; done) | (simp; omega))))))
        · rw [decide_eq_false h5] at q
          unfold zeroEn at q
          simp only [c34] at q
          rw [show plainB code e k = false from Bool.eq_false_iff.2 (fun x => by have := (plainB_iff code e k).1 x; exact this.2.1.elim h3 h5)]
          clear h5 h3 h3'
          go_enter Try.func20, Try.ntmps20
          go_wp2_with (go_at_call 78; (with_reducible refine (HR.out _).mono ?_); rintro e w1 ⟨rfl, b1⟩; obtain ⟨c1, f1⟩ := bcell b1; have z1 := b1.size; (try simp at z1); have d1a := fun o => c1 (w.heap.size) o (by first | omega | (simp; done) | (simp; omega)); clear c1 f1)
          go_ret
          refine ⟨rfl, ?_⟩
          (repeat (first | with_reducible assumption | with_reducible exact Below.refl _ _ | with_reducible refine Below.setCell ?_ (by first | omega | (simp; done) | (simp; omega)) _ | with_reducible refine Below.alloc ?_ (by first | omega | (simp; done) | (simp; omega)) _ | with_reducible refine Below.drew ?_ | (with_reducible refine Below.trans ?_ (Below.mono (by with_reducible assumption) (by first | omega | (simp; done) | (simp; omega)))) | (refine Below.trans ?_ (Below.mono (by assumption) (by first | omega | (simp; done) | (simp; omega))))))
    · rw [show plainB code e k = false from Bool.eq_false_iff.2 (fun x => by have := (plainB_iff code e k).1 x; exact h2 this.1.2)]
      have d1 : decide (0 ≤ code) = true := decide_eq_true h1
      have d2 : decide (code ≤ 9) = false := decide_eq_false h2
      clear hR q
      go_enter Try.func20, Try.ntmps20
      go_wp2_with fail
      go_ret
      refine ⟨rfl, ?_⟩
      (repeat (first | with_reducible assumption | with_reducible exact Below.refl _ _ | with_reducible refine Below.setCell ?_ (by first | omega | (simp; done) | (simp; omega)) _ | with_reducible refine Below.alloc ?_ (by first | omega | (simp; done) | (simp; omega)) _ | with_reducible refine Below.drew ?_ | (with_reducible refine Below.trans ?_ (Below.mono (by with_reducible assumption) (by first | omega | (simp; done) | (simp; omega)))) | (refine Below.trans ?_ (Below.mono (by assumption) (by first | omega | (simp; done) | (simp; omega))))))
  · rw [show plainB code e k = false from Bool.eq_false_iff.2 (fun x => by have := (plainB_iff code e k).1 x; exact h1 this.1.1)]
    have d1 : decide (0 ≤ code) = false := decide_eq_false h1
    clear hR q
    go_enter Try.func20, Try.ntmps20
    go_wp2_with fail
    go_ret
    refine ⟨rfl, ?_⟩
    (repeat (first | with_reducible assumption | with_reducible exact Below.refl _ _ | with_reducible refine Below.setCell ?_ (by first | omega | (simp; done) | (simp; omega)) _ | with_reducible refine Below.alloc ?_ (by first | omega | (simp; done) | (simp; omega)) _ | with_reducible refine Below.drew ?_ | (with_reducible refine Below.trans ?_ (Below.mono (by with_reducible assumption) (by first | omega | (simp; done) | (simp; omega)))) | (refine Below.trans ?_ (Below.mono (by assumption) (by first | omega | (simp; done) | (simp; omega))))))
set_option maxRecDepth 100000 in
set_option maxHeartbeats 8000000 in
theorem replyOne_any (r q : Rp) (w : World) (hr : r.good w) (hq : q.good w) : Calls Try.prog 4 #[.agg #[.int .i64 r.code, .bool r.en.ad.v6, .int .u64 r.en.ad.hi, .int .u64 r.en.ad.lo, .int .i64 r.en.port, .int .i64 r.n, .int .i64 r.till, r.pv], .agg #[.int .i64 q.code, .bool q.en.ad.v6, .int .u64 q.en.ad.hi, .int .u64 q.en.ad.lo, .int .i64 q.en.port, .int .i64 q.n, .int .i64 q.till, q.pv]] w fun e w' => e = .returned (.bool true) ∧ Below w.heap.size w w' := by
  have HA := Lib.hid (fun w => awake34_any w)
  obtain ⟨hm, a, c, hpv, -⟩ := pe_open hr.2.2.2.2.1
  obtain ⟨hm2, b, d, hpv2, -⟩ := pe_open hq.2.2.2.2.1
  obtain ⟨r1, r2, r3, r4, -, -⟩ := hr
  obtain ⟨q1, q2, q3, q4, -, -⟩ := hq
  rw [hpv, hpv2]
  have hP := fun w => rpPlain_any r.code r.en r2.1 r.n r.till a r.ps.length c w
  have hQ := fun w => rpPlain_any q.code q.en q2.1 q.n q.till b q.ps.length d w
  clear hpv hpv2
  have ip := plainB_iff r.code r.en r.ps.length
  have iq := plainB_iff q.code q.en q.ps.length
  generalize hpb : plainB r.code r.en r.ps.length = pb at *
  generalize hqb : plainB q.code q.en q.ps.length = qb at *
  clear hpb hqb
  have hT := fun w => rpText_any r.code r.en r.n r.till a r.ps.length c r2.1 r3 r4 hm w
  have hU := fun w => rpText_any q.code q.en q.n q.till b q.ps.length d q2.1 q3 q4 hm2 w
  have hinj := fun h1 h2 h3 h4 => @rp_inj r.code q.code r.en q.en r.n q.n r.till q.till h1 h2 r2.1 q2.1 h3 h4
  have hS := fun w => sameReply_any r.code q.code r.en q.en r.n q.n r.till q.till a b c d w
  obtain ⟨code, en, n, till, pv, ps⟩ := r
  obtain ⟨code2, en2, n2, till2, pv2, ps2⟩ := q
  simp only at *
  clear pv pv2 r1 r2 r3 r4 q1 q2 q3 q4
  generalize ps.length = k at *
  generalize ps2.length = l at *
  clear ps ps2
  cases pb with
  | false =>
    have HP := Lib.hid hP; have HQ := Lib.hid hQ
    clear hP hQ hT hU hinj hS ip iq
    go_enter Try.func4, Try.ntmps4
    go_wp2_with (first | (go_at_call 20; (with_reducible refine (HP.out _).mono ?_); rintro e w1 ⟨rfl, b1⟩; obtain ⟨c1, f1⟩ := bcell b1; have z1 := b1.size; (try simp at z1); have d1a := fun o => c1 (w.heap.size + 1) o (by first | omega | (simp; done) | (simp; omega)); clear c1 f1) | (go_at_call 14; (with_reducible refine (HA.out _).mono ?_); rintro e w3 ⟨rfl, b3⟩; obtain ⟨c3, f3⟩ := bcell b3; have z3 := b3.size; (try simp at z3); clear c3 f3))
    go_ret
    refine ⟨rfl, ?_⟩
    (repeat (first | with_reducible assumption | with_reducible exact Below.refl _ _ | with_reducible refine Below.setCell ?_ (by first | omega | (simp; done) | (simp; omega)) _ | with_reducible refine Below.alloc ?_ (by first | omega | (simp; done) | (simp; omega)) _ | with_reducible refine Below.drew ?_ | (with_reducible refine Below.trans ?_ (Below.mono (by with_reducible assumption) (by first | omega | (simp; done) | (simp; omega)))) | (refine Below.trans ?_ (Below.mono (by assumption) (by first | omega | (simp; done) | (simp; omega))))))
  | true =>
  cases qb with
  | false =>
    have HP := Lib.hid hP; have HQ := Lib.hid hQ
    clear hP hQ hT hU hinj hS ip iq
    go_enter Try.func4, Try.ntmps4
    go_wp2_with (first | (go_at_call 20; (with_reducible refine (HP.out _).mono ?_); rintro e w1 ⟨rfl, b1⟩; obtain ⟨c1, f1⟩ := bcell b1; have z1 := b1.size; (try simp at z1); have d1a := fun o => c1 (w.heap.size + 1) o (by first | omega | (simp; done) | (simp; omega)); clear c1 f1) | (go_at_call 20; (with_reducible refine (HQ.out _).mono ?_); rintro e w2 ⟨rfl, b2⟩; obtain ⟨c2, f2⟩ := bcell b2; have z2 := b2.size; (try simp at z2); have d2a := fun o => c2 (w.heap.size + 1) o (by first | omega | (simp; done) | (simp; omega)); clear c2 f2) | (go_at_call 14; (with_reducible refine (HA.out _).mono ?_); rintro e w3 ⟨rfl, b3⟩; obtain ⟨c3, f3⟩ := bcell b3; have z3 := b3.size; (try simp at z3); clear c3 f3))
    go_ret
    refine ⟨rfl, ?_⟩
    (repeat (first | with_reducible assumption | with_reducible exact Below.refl _ _ | with_reducible refine Below.setCell ?_ (by first | omega | (simp; done) | (simp; omega)) _ | with_reducible refine Below.alloc ?_ (by first | omega | (simp; done) | (simp; omega)) _ | with_reducible refine Below.drew ?_ | (with_reducible refine Below.trans ?_ (Below.mono (by with_reducible assumption) (by first | omega | (simp; done) | (simp; omega)))) | (refine Below.trans ?_ (Below.mono (by assumption) (by first | omega | (simp; done) | (simp; omega))))))
  | true =>
    obtain ⟨i1, i2, rfl⟩ := ip.1 rfl
    obtain ⟨j1, j2, rfl⟩ := iq.1 rfl
    have hinj := hinj i1 j1 i2 j2
    have hb : ((bs (rpText code en n till 0)).toList == (bs (rpText code2 en2 n2 till2 0)).toList) = sameRp code code2 en en2 n n2 till till2 := by
      rw [bs_toL, bs_toL]; unfold sameRp
      by_cases h : code = code2 ∧ en = en2 ∧ n = n2 ∧ till = till2
      · rw [decide_eq_true h, hinj.2 h]; simp
      · rw [decide_eq_false h]; simpa using fun x => h (hinj.1 x)
    generalize rpText code en n till 0 = tx at *
    generalize rpText code2 en2 n2 till2 0 = ty at *
    generalize sameRp code code2 en en2 n n2 till till2 = x at *
    have hxx : (x == x) = true := by simp
    have HP := Lib.hid hP; have HQ := Lib.hid hQ; have HT := Lib.hid hT; have HU := Lib.hid hU; have HS := Lib.hid hS
    clear hP hQ hT hU hS hinj ip iq i1 i2 j1 j2
    go_enter Try.func4, Try.ntmps4
    go_wp2_with (first | (go_at_call 20; (with_reducible refine (HP.out _).mono ?_); rintro e w1 ⟨rfl, b1⟩; obtain ⟨c1, f1⟩ := bcell b1; have z1 := b1.size; (try simp at z1); have d1a := fun o => c1 (w.heap.size) o (by first | omega | (simp; done) | (simp; omega)); have d1b := fun o => c1 (w.heap.size + 1) o (by first | omega | (simp; done) | (simp; omega)); clear c1 f1) | (go_at_call 20; (with_reducible refine (HQ.out _).mono ?_); rintro e w2 ⟨rfl, b2⟩; obtain ⟨c2, f2⟩ := bcell b2; have z2 := b2.size; (try simp at z2); have d2a := fun o => c2 (w.heap.size) o (by first | omega | (simp; done) | (simp; omega)); have d2b := fun o => c2 (w.heap.size + 1) o (by first | omega | (simp; done) | (simp; omega)); clear c2 f2))
    go_name_world WWy hWWy
    have ey0 : ∀ Y, (ext WWy Y).cell? ⟨w.heap.size, 0, none⟩ = some (.int .i64 code) := by subst hWWy; intro Y; exact (ext_cell _ Y (by first | omega | (simp; done) | (simp; omega))).trans (by first | (simp (disch := first | omega | (simp; omega)) [World.cell?_alloc_past, *]; done) | (simp (disch := first | omega | (simp; omega)) [World.cell?_setCell_far, World.cell?_alloc_past, *]; done) | (simp (disch := first | omega | (simp; omega)) [World.cell?_alloc_past, *]; rfl) | (simp (disch := first | omega | (simp; omega)) [World.cell?_setCell_far, World.cell?_alloc_past, *]; rfl) | (simp [go_sem, *]; done) | (simp (disch := first | omega | (simp; omega) | (simp [go_sem, *]; done)) [go_sem, World.cell?_setCell_far, World.cell?_alloc_past, *]; done))
    have ey1 : ∀ Y, (ext WWy Y).cell? ⟨w.heap.size, 1, none⟩ = some (.bool en.ad.v6) := by subst hWWy; intro Y; exact (ext_cell _ Y (by first | omega | (simp; done) | (simp; omega))).trans (by first | (simp (disch := first | omega | (simp; omega)) [World.cell?_alloc_past, *]; done) | (simp (disch := first | omega | (simp; omega)) [World.cell?_setCell_far, World.cell?_alloc_past, *]; done) | (simp (disch := first | omega | (simp; omega)) [World.cell?_alloc_past, *]; rfl) | (simp (disch := first | omega | (simp; omega)) [World.cell?_setCell_far, World.cell?_alloc_past, *]; rfl) | (simp [go_sem, *]; done) | (simp (disch := first | omega | (simp; omega) | (simp [go_sem, *]; done)) [go_sem, World.cell?_setCell_far, World.cell?_alloc_past, *]; done))
    have ey2 : ∀ Y, (ext WWy Y).cell? ⟨w.heap.size, 2, none⟩ = some (.int .u64 en.ad.hi) := by subst hWWy; intro Y; exact (ext_cell _ Y (by first | omega | (simp; done) | (simp; omega))).trans (by first | (simp (disch := first | omega | (simp; omega)) [World.cell?_alloc_past, *]; done) | (simp (disch := first | omega | (simp; omega)) [World.cell?_setCell_far, World.cell?_alloc_past, *]; done) | (simp (disch := first | omega | (simp; omega)) [World.cell?_alloc_past, *]; rfl) | (simp (disch := first | omega | (simp; omega)) [World.cell?_setCell_far, World.cell?_alloc_past, *]; rfl) | (simp [go_sem, *]; done) | (simp (disch := first | omega | (simp; omega) | (simp [go_sem, *]; done)) [go_sem, World.cell?_setCell_far, World.cell?_alloc_past, *]; done))
    have ey3 : ∀ Y, (ext WWy Y).cell? ⟨w.heap.size, 3, none⟩ = some (.int .u64 en.ad.lo) := by subst hWWy; intro Y; exact (ext_cell _ Y (by first | omega | (simp; done) | (simp; omega))).trans (by first | (simp (disch := first | omega | (simp; omega)) [World.cell?_alloc_past, *]; done) | (simp (disch := first | omega | (simp; omega)) [World.cell?_setCell_far, World.cell?_alloc_past, *]; done) | (simp (disch := first | omega | (simp; omega)) [World.cell?_alloc_past, *]; rfl) | (simp (disch := first | omega | (simp; omega)) [World.cell?_setCell_far, World.cell?_alloc_past, *]; rfl) | (simp [go_sem, *]; done) | (simp (disch := first | omega | (simp; omega) | (simp [go_sem, *]; done)) [go_sem, World.cell?_setCell_far, World.cell?_alloc_past, *]; done))
    have ey4 : ∀ Y, (ext WWy Y).cell? ⟨w.heap.size, 4, none⟩ = some (.int .i64 en.port) := by subst hWWy; intro Y; exact (ext_cell _ Y (by first | omega | (simp; done) | (simp; omega))).trans (by first | (simp (disch := first | omega | (simp; omega)) [World.cell?_alloc_past, *]; done) | (simp (disch := first | omega | (simp; omega)) [World.cell?_setCell_far, World.cell?_alloc_past, *]; done) | (simp (disch := first | omega | (simp; omega)) [World.cell?_alloc_past, *]; rfl) | (simp (disch := first | omega | (simp; omega)) [World.cell?_setCell_far, World.cell?_alloc_past, *]; rfl) | (simp [go_sem, *]; done) | (simp (disch := first | omega | (simp; omega) | (simp [go_sem, *]; done)) [go_sem, World.cell?_setCell_far, World.cell?_alloc_past, *]; done))
    have ey5 : ∀ Y, (ext WWy Y).cell? ⟨w.heap.size, 5, none⟩ = some (.int .i64 n) := by subst hWWy; intro Y; exact (ext_cell _ Y (by first | omega | (simp; done) | (simp; omega))).trans (by first | (simp (disch := first | omega | (simp; omega)) [World.cell?_alloc_past, *]; done) | (simp (disch := first | omega | (simp; omega)) [World.cell?_setCell_far, World.cell?_alloc_past, *]; done) | (simp (disch := first | omega | (simp; omega)) [World.cell?_alloc_past, *]; rfl) | (simp (disch := first | omega | (simp; omega)) [World.cell?_setCell_far, World.cell?_alloc_past, *]; rfl) | (simp [go_sem, *]; done) | (simp (disch := first | omega | (simp; omega) | (simp [go_sem, *]; done)) [go_sem, World.cell?_setCell_far, World.cell?_alloc_past, *]; done))
    have ey6 : ∀ Y, (ext WWy Y).cell? ⟨w.heap.size, 6, none⟩ = some (.int .i64 till) := by subst hWWy; intro Y; exact (ext_cell _ Y (by first | omega | (simp; done) | (simp; omega))).trans (by first | (simp (disch := first | omega | (simp; omega)) [World.cell?_alloc_past, *]; done) | (simp (disch := first | omega | (simp; omega)) [World.cell?_setCell_far, World.cell?_alloc_past, *]; done) | (simp (disch := first | omega | (simp; omega)) [World.cell?_alloc_past, *]; rfl) | (simp (disch := first | omega | (simp; omega)) [World.cell?_setCell_far, World.cell?_alloc_past, *]; rfl) | (simp [go_sem, *]; done) | (simp (disch := first | omega | (simp; omega) | (simp [go_sem, *]; done)) [go_sem, World.cell?_setCell_far, World.cell?_alloc_past, *]; done))
    have ey7 : ∀ Y, (ext WWy Y).cell? ⟨w.heap.size, 7, none⟩ = some (.slice a 0 c) := by subst hWWy; intro Y; exact (ext_cell _ Y (by first | omega | (simp; done) | (simp; omega))).trans (by first | (simp (disch := first | omega | (simp; omega)) [World.cell?_alloc_past, *]; done) | (simp (disch := first | omega | (simp; omega)) [World.cell?_setCell_far, World.cell?_alloc_past, *]; done) | (simp (disch := first | omega | (simp; omega)) [World.cell?_alloc_past, *]; rfl) | (simp (disch := first | omega | (simp; omega)) [World.cell?_setCell_far, World.cell?_alloc_past, *]; rfl) | (simp [go_sem, *]; done) | (simp (disch := first | omega | (simp; omega) | (simp [go_sem, *]; done)) [go_sem, World.cell?_setCell_far, World.cell?_alloc_past, *]; done))
    have ey8 : ∀ Y, (ext WWy Y).cell? ⟨w.heap.size + 1, 0, none⟩ = some (.int .i64 code2) := by subst hWWy; intro Y; exact (ext_cell _ Y (by first | omega | (simp; done) | (simp; omega))).trans (by first | (simp (disch := first | omega | (simp; omega)) [World.cell?_alloc_past, *]; done) | (simp (disch := first | omega | (simp; omega)) [World.cell?_setCell_far, World.cell?_alloc_past, *]; done) | (simp (disch := first | omega | (simp; omega)) [World.cell?_alloc_past, *]; rfl) | (simp (disch := first | omega | (simp; omega)) [World.cell?_setCell_far, World.cell?_alloc_past, *]; rfl) | (simp [go_sem, *]; done) | (simp (disch := first | omega | (simp; omega) | (simp [go_sem, *]; done)) [go_sem, World.cell?_setCell_far, World.cell?_alloc_past, *]; done))
    have ey9 : ∀ Y, (ext WWy Y).cell? ⟨w.heap.size + 1, 1, none⟩ = some (.bool en2.ad.v6) := by subst hWWy; intro Y; exact (ext_cell _ Y (by first | omega | (simp; done) | (simp; omega))).trans (by first | (simp (disch := first | omega | (simp; omega)) [World.cell?_alloc_past, *]; done) | (simp (disch := first | omega | (simp; omega)) [World.cell?_setCell_far, World.cell?_alloc_past, *]; done) | (simp (disch := first | omega | (simp; omega)) [World.cell?_alloc_past, *]; rfl) | (simp (disch := first | omega | (simp; omega)) [World.cell?_setCell_far, World.cell?_alloc_past, *]; rfl) | (simp [go_sem, *]; done) | (simp (disch := first | omega | (simp; omega) | (simp [go_sem, *]; done)) [go_sem, World.cell?_setCell_far, World.cell?_alloc_past, *]; done))
    have ey10 : ∀ Y, (ext WWy Y).cell? ⟨w.heap.size + 1, 2, none⟩ = some (.int .u64 en2.ad.hi) := by subst hWWy; intro Y; exact (ext_cell _ Y (by first | omega | (simp; done) | (simp; omega))).trans (by first | (simp (disch := first | omega | (simp; omega)) [World.cell?_alloc_past, *]; done) | (simp (disch := first | omega | (simp; omega)) [World.cell?_setCell_far, World.cell?_alloc_past, *]; done) | (simp (disch := first | omega | (simp; omega)) [World.cell?_alloc_past, *]; rfl) | (simp (disch := first | omega | (simp; omega)) [World.cell?_setCell_far, World.cell?_alloc_past, *]; rfl) | (simp [go_sem, *]; done) | (simp (disch := first | omega | (simp; omega) | (simp [go_sem, *]; done)) [go_sem, World.cell?_setCell_far, World.cell?_alloc_past, *]; done))
    have ey11 : ∀ Y, (ext WWy Y).cell? ⟨w.heap.size + 1, 3, none⟩ = some (.int .u64 en2.ad.lo) := by subst hWWy; intro Y; exact (ext_cell _ Y (by first | omega | (simp; done) | (simp; omega))).trans (by first | (simp (disch := first | omega | (simp; omega)) [World.cell?_alloc_past, *]; done) | (simp (disch := first | omega | (simp; omega)) [World.cell?_setCell_far, World.cell?_alloc_past, *]; done) | (simp (disch := first | omega | (simp; omega)) [World.cell?_alloc_past, *]; rfl) | (simp (disch := first | omega | (simp; omega)) [World.cell?_setCell_far, World.cell?_alloc_past, *]; rfl) | (simp [go_sem, *]; done) | (simp (disch := first | omega | (simp; omega) | (simp [go_sem, *]; done)) [go_sem, World.cell?_setCell_far, World.cell?_alloc_past, *]; done))
    have ey12 : ∀ Y, (ext WWy Y).cell? ⟨w.heap.size + 1, 4, none⟩ = some (.int .i64 en2.port) := by subst hWWy; intro Y; exact (ext_cell _ Y (by first | omega | (simp; done) | (simp; omega))).trans (by first | (simp (disch := first | omega | (simp; omega)) [World.cell?_alloc_past, *]; done) | (simp (disch := first | omega | (simp; omega)) [World.cell?_setCell_far, World.cell?_alloc_past, *]; done) | (simp (disch := first | omega | (simp; omega)) [World.cell?_alloc_past, *]; rfl) | (simp (disch := first | omega | (simp; omega)) [World.cell?_setCell_far, World.cell?_alloc_past, *]; rfl) | (simp [go_sem, *]; done) | (simp (disch := first | omega | (simp; omega) | (simp [go_sem, *]; done)) [go_sem, World.cell?_setCell_far, World.cell?_alloc_past, *]; done))
    have ey13 : ∀ Y, (ext WWy Y).cell? ⟨w.heap.size + 1, 5, none⟩ = some (.int .i64 n2) := by subst hWWy; intro Y; exact (ext_cell _ Y (by first | omega | (simp; done) | (simp; omega))).trans (by first | (simp (disch := first | omega | (simp; omega)) [World.cell?_alloc_past, *]; done) | (simp (disch := first | omega | (simp; omega)) [World.cell?_setCell_far, World.cell?_alloc_past, *]; done) | (simp (disch := first | omega | (simp; omega)) [World.cell?_alloc_past, *]; rfl) | (simp (disch := first | omega | (simp; omega)) [World.cell?_setCell_far, World.cell?_alloc_past, *]; rfl) | (simp [go_sem, *]; done) | (simp (disch := first | omega | (simp; omega) | (simp [go_sem, *]; done)) [go_sem, World.cell?_setCell_far, World.cell?_alloc_past, *]; done))
    have ey14 : ∀ Y, (ext WWy Y).cell? ⟨w.heap.size + 1, 6, none⟩ = some (.int .i64 till2) := by subst hWWy; intro Y; exact (ext_cell _ Y (by first | omega | (simp; done) | (simp; omega))).trans (by first | (simp (disch := first | omega | (simp; omega)) [World.cell?_alloc_past, *]; done) | (simp (disch := first | omega | (simp; omega)) [World.cell?_setCell_far, World.cell?_alloc_past, *]; done) | (simp (disch := first | omega | (simp; omega)) [World.cell?_alloc_past, *]; rfl) | (simp (disch := first | omega | (simp; omega)) [World.cell?_setCell_far, World.cell?_alloc_past, *]; rfl) | (simp [go_sem, *]; done) | (simp (disch := first | omega | (simp; omega) | (simp [go_sem, *]; done)) [go_sem, World.cell?_setCell_far, World.cell?_alloc_past, *]; done))
    have ey15 : ∀ Y, (ext WWy Y).cell? ⟨w.heap.size + 1, 7, none⟩ = some (.slice b 0 d) := by subst hWWy; intro Y; exact (ext_cell _ Y (by first | omega | (simp; done) | (simp; omega))).trans (by first | (simp (disch := first | omega | (simp; omega)) [World.cell?_alloc_past, *]; done) | (simp (disch := first | omega | (simp; omega)) [World.cell?_setCell_far, World.cell?_alloc_past, *]; done) | (simp (disch := first | omega | (simp; omega)) [World.cell?_alloc_past, *]; rfl) | (simp (disch := first | omega | (simp; omega)) [World.cell?_setCell_far, World.cell?_alloc_past, *]; rfl) | (simp [go_sem, *]; done) | (simp (disch := first | omega | (simp; omega) | (simp [go_sem, *]; done)) [go_sem, World.cell?_setCell_far, World.cell?_alloc_past, *]; done))
    have bWy : Below w.heap.size w WWy := by subst hWWy; (repeat (first | assumption | exact Below.refl _ _ | refine Below.setCell ?_ (by first | omega | (simp; done) | (simp; omega)) _ | refine Below.alloc ?_ (by first | omega | (simp; done) | (simp; omega)) _ | refine Below.drew ?_ | (refine Below.trans ?_ (Below.mono (by assumption) (by first | omega | (simp; done) | (simp; omega))))))
    have lWy0 : w.heap.size < WWy.heap.size := by subst hWWy; first | omega | (simp; done) | (simp; omega)
    have lWy1 : w.heap.size + 1 < WWy.heap.size := by subst hWWy; first | omega | (simp; done) | (simp; omega)
    clear hWWy
    try simp only [List.append_eq, List.cons_append, List.nil_append]
    refine wp_region_ext (by kernel_rfl) (by kernel_rfl) ?_
    repeat (go_big_quiet_step ((first | (go_at_call 15; with_reducible exact qe (HT.out _)) | (go_at_call 15; with_reducible exact qe (HU.out _)) | (go_at_call 21; with_reducible exact qe (HS.out _)) | (go_at_call 14; with_reducible exact qe (HA.out _)))))
    refine wpQuiet_nil ?_
    intro _ hw'
    obtain ⟨y, hw''⟩ := hw'
    subst hw''
    have py0 := ey0 y
    have py1 := ey1 y
    have py2 := ey2 y
    have py3 := ey3 y
    have py4 := ey4 y
    have py5 := ey5 y
    have py6 := ey6 y
    have py7 := ey7 y
    have py8 := ey8 y
    have py9 := ey9 y
    have py10 := ey10 y
    have py11 := ey11 y
    have py12 := ey12 y
    have py13 := ey13 y
    have py14 := ey14 y
    have py15 := ey15 y
    clear ey0 ey1 ey2 ey3 ey4 ey5 ey6 ey7 ey8 ey9 ey10 ey11 ey12 ey13 ey14 ey15
    have bwy := bWy.trans ((ext_below WWy y).mono bWy.size)
    have zwy := bwy.size
    have zey := (ext_below WWy y).size
    go_wp2_with fail
    go_ret
    exact ⟨rfl, bwy⟩
end Go.Proofs.Ytnohkfbapibmdaa
