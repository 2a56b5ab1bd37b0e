/- Texts put together: CallE. No condition. -/
import Derived.Test.YtnohkfbapibmdaaGreatRkgffnfeknt
import Derived.Test.YtnohkfbapibmdaaGreatRgjrkknyczv
import Derived.Test.YtnohkfbapibmdaaGreatRqyyanyntzr
namespace Go.Proofs.YtnohkfbapibmdaaGreat
open Go.RowKit
set_option linter.unusedSimpArgs false
set_option linter.unusedVariables false

def ReadPost (w : World) (O : Nat) (r : Cl × Bool) (e : Ending) (w' : World) : Prop := e = .returned (.bool r.2) ∧ BlockIs w' O (clV r.1) 30 ∧ w.grownBy w' (some O)
theorem grown_of_below {w w' : World} {r : Option Nat} (h : Below w.heap.size w w') : w.grownBy w' r := ⟨h.os, h.tape, h.output, h.size, fun k hk _ => h.block k hk⟩
theorem grown_set {w w' : World} {O i : Nat} {v : Value} (h : w.grownBy w' (some O)) : w.grownBy (w'.setCell ⟨O, i, none⟩ v) (some O) :=
  ⟨h.os, h.tape, h.output, by rw [show (w'.setCell ⟨O, i, none⟩ v).heap.size = w'.heap.size by simp]; exact h.size, fun k hk hne => by
    rw [Below.heap_setCell _ _ _ _ (fun e => hne (by rw [e]))]; exact h.block k hk hne⟩
theorem grown_alloc {w w' : World} {r : Option Nat} (h : w.grownBy w' r) (o : Obj) : w.grownBy (w'.alloc o) r :=
  ⟨h.os, h.tape, h.output, by rw [show (w'.alloc o).heap.size = w'.heap.size + 1 by simp]; exact Nat.le_succ_of_le h.size, fun k hk hne => by
    rw [Below.heap_alloc _ _ _ (Nat.lt_of_lt_of_le hk h.size)]; exact h.block k hk hne⟩
set_option maxRecDepth 100000 in
set_option maxHeartbeats 8000000 in
theorem read_0 (c : Cl) (s : List UInt8) (O : Nat) (w : World) (hs : s.length ≤ 4000000000) (hc : Cpu w) (hB : BlockIs w O (clV c) 30) : Calls Tryz.prog 16 #[.pointer (some ⟨O, 0, none⟩), .int .i64 0, .string (bs s)] w (ReadPost w O (clRead c 0 s)) := by
  have hE := fun w hc => enParse_any (bs s) w (by rw [bs_size]; omega) hc
  rw [bs_data] at hE
  unfold GivesEn at hE
  have HE := Lib.hid hE; clear hE hs
  have HC := Lib.hid hc; clear hc
  have HBB := Lib.hid hB
  unfold clV at hB
  have o0 := hB.cell (i := 0) rfl
  have o1 := hB.cell (i := 1) rfl
  have o2 := hB.cell (i := 2) rfl
  have o3 := hB.cell (i := 3) rfl
  have o4 := hB.cell (i := 4) rfl
  have o5 := hB.cell (i := 5) rfl
  have o6 := hB.cell (i := 6) rfl
  have o7 := hB.cell (i := 7) rfl
  have o8 := hB.cell (i := 8) rfl
  have o9 := hB.cell (i := 9) rfl
  have o10 := hB.cell (i := 10) rfl
  have o11 := hB.cell (i := 11) rfl
  have of := hB.frozen
  have ol := hB.lt
  clear hB
  unfold ReadPost clRead
  simp only
  generalize enParse s = r at *
  obtain ⟨e, ok⟩ := r
  simp only at HE
  by_cases hz : s = []
  · have q1 : ((bs s).toList == []) = true := by rw [bs_toL, hz]; rfl
    have q2 : (bs s).toList = [] := by rw [bs_toL]; exact hz
    rw [decide_eq_false (fun h => h hz)]
    clear hz
    generalize bs s = S at *
    go_enter Tryz.func16, Tryz.ntmps16
    go_wp2_with (go_at_call 39; (with_reducible refine (HE.out _ HC.out).mono ?_); rintro e w1 ⟨rfl, b1⟩; obtain ⟨c1, f1⟩ := bcell b1; have z1 := b1.size; (try simp at z1); have d1a := fun o => c1 (O) o (by first | omega | (simp; done) | (simp; omega)); have q1a := fun o => f1 (O) o (by first | omega | (simp; done) | (simp; omega)); clear c1 f1)
    go_ret
    exact ⟨rfl, ((((HBB.out.below b1).set 1 _).set 2 _).set 3 _).set 4 _, (by (repeat (first | with_reducible refine grown_set ?_ | with_reducible refine grown_alloc ?_ _)); exact grown_of_below (by (repeat (first | with_reducible assumption | with_reducible exact Below.refl _ _ | with_reducible refine Below.setCell ?_ (by first | omega | (simp; done) | (simp; omega)) _ | with_reducible refine Below.alloc ?_ (by first | omega | (simp; done) | (simp; omega)) _ | with_reducible refine Below.drew ?_ | (with_reducible refine Below.trans ?_ (Below.mono (by with_reducible assumption) (by first | omega | (simp; done) | (simp; omega)))) | (refine Below.trans ?_ (Below.mono (by assumption) (by first | omega | (simp; done) | (simp; omega))))))))⟩
  · have q1 : ((bs s).toList == []) = false := by rw [bs_toL]; simpa using hz
    have q2 : ¬ (bs s).toList = [] := by rw [bs_toL]; exact hz
    rw [decide_eq_true hz]
    clear hz
    generalize bs s = S at *
    go_enter Tryz.func16, Tryz.ntmps16
    go_wp2_with (go_at_call 39; (with_reducible refine (HE.out _ HC.out).mono ?_); rintro e w1 ⟨rfl, b1⟩; obtain ⟨c1, f1⟩ := bcell b1; have z1 := b1.size; (try simp at z1); have d1a := fun o => c1 (O) o (by first | omega | (simp; done) | (simp; omega)); have q1a := fun o => f1 (O) o (by first | omega | (simp; done) | (simp; omega)); clear c1 f1)
    go_ret
    exact ⟨rfl, ((((HBB.out.below b1).set 1 _).set 2 _).set 3 _).set 4 _, (by (repeat (first | with_reducible refine grown_set ?_ | with_reducible refine grown_alloc ?_ _)); exact grown_of_below (by (repeat (first | with_reducible assumption | with_reducible exact Below.refl _ _ | with_reducible refine Below.setCell ?_ (by first | omega | (simp; done) | (simp; omega)) _ | with_reducible refine Below.alloc ?_ (by first | omega | (simp; done) | (simp; omega)) _ | with_reducible refine Below.drew ?_ | (with_reducible refine Below.trans ?_ (Below.mono (by with_reducible assumption) (by first | omega | (simp; done) | (simp; omega)))) | (refine Below.trans ?_ (Below.mono (by assumption) (by first | omega | (simp; done) | (simp; omega))))))))⟩
set_option maxRecDepth 100000 in
set_option maxHeartbeats 8000000 in
theorem read_3 (c : Cl) (s : List UInt8) (O : Nat) (w : World) (hs : s.length ≤ 4000000000) (hc : Cpu w) (hB : BlockIs w O (clV c) 30) : Calls Tryz.prog 16 #[.pointer (some ⟨O, 0, none⟩), .int .i64 3, .string (bs s)] w (ReadPost w O (clRead c 3 s)) := by
  have hN := clNumber_any (bs s) O 9 w (by rw [bs_size]; omega) c.now
  rw [bs_data] at hN
  have HC := Lib.hid hc; clear hc
  have HBB := Lib.hid hB
  unfold clV at hB
  have o0 := hB.cell (i := 0) rfl
  have o1 := hB.cell (i := 1) rfl
  have o2 := hB.cell (i := 2) rfl
  have o3 := hB.cell (i := 3) rfl
  have o4 := hB.cell (i := 4) rfl
  have o5 := hB.cell (i := 5) rfl
  have o6 := hB.cell (i := 6) rfl
  have o7 := hB.cell (i := 7) rfl
  have o8 := hB.cell (i := 8) rfl
  have o9 := hB.cell (i := 9) rfl
  have o10 := hB.cell (i := 10) rfl
  have o11 := hB.cell (i := 11) rfl
  have of := hB.frozen
  have ol := hB.lt
  clear hB
  unfold ReadPost clRead
  simp only
  have HN := Lib.hid (hN o9 of)
  clear hN
  generalize decParse s 1099511627776 = r at *
  obtain ⟨t, is⟩ := r
  go_enter Tryz.func16, Tryz.ntmps16
  go_wp2_with (go_at_call 42; (with_reducible refine HN.out.mono ?_); rintro e w1 ⟨rfl, rfl⟩)
  go_ret
  exact ⟨rfl, HBB.out.set 9 _, (by (repeat (first | with_reducible refine grown_set ?_ | with_reducible refine grown_alloc ?_ _)); exact grown_of_below (by (repeat (first | with_reducible assumption | with_reducible exact Below.refl _ _ | with_reducible refine Below.setCell ?_ (by first | omega | (simp; done) | (simp; omega)) _ | with_reducible refine Below.alloc ?_ (by first | omega | (simp; done) | (simp; omega)) _ | with_reducible refine Below.drew ?_ | (with_reducible refine Below.trans ?_ (Below.mono (by with_reducible assumption) (by first | omega | (simp; done) | (simp; omega)))) | (refine Below.trans ?_ (Below.mono (by assumption) (by first | omega | (simp; done) | (simp; omega))))))))⟩
set_option maxRecDepth 100000 in
set_option maxHeartbeats 8000000 in
theorem read_4 (c : Cl) (s : List UInt8) (O : Nat) (w : World) (hs : s.length ≤ 4000000000) (hc : Cpu w) (hB : BlockIs w O (clV c) 30) : Calls Tryz.prog 16 #[.pointer (some ⟨O, 0, none⟩), .int .i64 4, .string (bs s)] w (ReadPost w O (clRead c 4 s)) := by
  have hN := clNumber_any (bs s) O 10 w (by rw [bs_size]; omega) c.num
  rw [bs_data] at hN
  have HC := Lib.hid hc; clear hc
  have HBB := Lib.hid hB
  unfold clV at hB
  have o0 := hB.cell (i := 0) rfl
  have o1 := hB.cell (i := 1) rfl
  have o2 := hB.cell (i := 2) rfl
  have o3 := hB.cell (i := 3) rfl
  have o4 := hB.cell (i := 4) rfl
  have o5 := hB.cell (i := 5) rfl
  have o6 := hB.cell (i := 6) rfl
  have o7 := hB.cell (i := 7) rfl
  have o8 := hB.cell (i := 8) rfl
  have o9 := hB.cell (i := 9) rfl
  have o10 := hB.cell (i := 10) rfl
  have o11 := hB.cell (i := 11) rfl
  have of := hB.frozen
  have ol := hB.lt
  clear hB
  unfold ReadPost clRead
  simp only
  have HN := Lib.hid (hN o10 of)
  clear hN
  generalize decParse s 1099511627776 = r at *
  obtain ⟨t, is⟩ := r
  go_enter Tryz.func16, Tryz.ntmps16
  go_wp2_with (go_at_call 42; (with_reducible refine HN.out.mono ?_); rintro e w1 ⟨rfl, rfl⟩)
  go_ret
  exact ⟨rfl, HBB.out.set 10 _, (by (repeat (first | with_reducible refine grown_set ?_ | with_reducible refine grown_alloc ?_ _)); exact grown_of_below (by (repeat (first | with_reducible assumption | with_reducible exact Below.refl _ _ | with_reducible refine Below.setCell ?_ (by first | omega | (simp; done) | (simp; omega)) _ | with_reducible refine Below.alloc ?_ (by first | omega | (simp; done) | (simp; omega)) _ | with_reducible refine Below.drew ?_ | (with_reducible refine Below.trans ?_ (Below.mono (by with_reducible assumption) (by first | omega | (simp; done) | (simp; omega)))) | (refine Below.trans ?_ (Below.mono (by assumption) (by first | omega | (simp; done) | (simp; omega))))))))⟩
set_option maxRecDepth 100000 in
set_option maxHeartbeats 8000000 in
theorem read_5 (c : Cl) (s : List UInt8) (O : Nat) (w : World) (hs : s.length ≤ 4000000000) (hc : Cpu w) (hB : BlockIs w O (clV c) 30) : Calls Tryz.prog 16 #[.pointer (some ⟨O, 0, none⟩), .int .i64 5, .string (bs s)] w (ReadPost w O (clRead c 5 s)) := by
  have HC := Lib.hid hc; clear hc
  have HBB := Lib.hid hB
  unfold clV at hB
  have o0 := hB.cell (i := 0) rfl
  have o1 := hB.cell (i := 1) rfl
  have o2 := hB.cell (i := 2) rfl
  have o3 := hB.cell (i := 3) rfl
  have o4 := hB.cell (i := 4) rfl
  have o5 := hB.cell (i := 5) rfl
  have o6 := hB.cell (i := 6) rfl
  have o7 := hB.cell (i := 7) rfl
  have o8 := hB.cell (i := 8) rfl
  have o9 := hB.cell (i := 9) rfl
  have o10 := hB.cell (i := 10) rfl
  have o11 := hB.cell (i := 11) rfl
  have of := hB.frozen
  have ol := hB.lt
  clear hB
  unfold ReadPost clRead
  simp only
  have hg : ((bs s).toList == [103, 111, 111, 100]) = decide (s = goodL) := by rw [bs_toL]; show (s == goodL) = _; rw [Bool.eq_iff_iff]; simp
  have hd : ((bs s).toList == [98, 97, 100]) = decide (s = badL) := by rw [bs_toL]; show (s == badL) = _; rw [Bool.eq_iff_iff]; simp
  generalize decide (s = goodL) = g at *
  generalize decide (s = badL) = d at *
  generalize bs s = S at *
  cases g with
  | false =>
    go_enter Tryz.func16, Tryz.ntmps16
    go_wp2_with fail
    go_ret
    exact ⟨ret_bool (by simp), HBB.out.set 11 _, (by (repeat (first | with_reducible refine grown_set ?_ | with_reducible refine grown_alloc ?_ _)); exact grown_of_below (by (repeat (first | with_reducible assumption | with_reducible exact Below.refl _ _ | with_reducible refine Below.setCell ?_ (by first | omega | (simp; done) | (simp; omega)) _ | with_reducible refine Below.alloc ?_ (by first | omega | (simp; done) | (simp; omega)) _ | with_reducible refine Below.drew ?_ | (with_reducible refine Below.trans ?_ (Below.mono (by with_reducible assumption) (by first | omega | (simp; done) | (simp; omega)))) | (refine Below.trans ?_ (Below.mono (by assumption) (by first | omega | (simp; done) | (simp; omega))))))))⟩
  | true =>
    go_enter Tryz.func16, Tryz.ntmps16
    go_wp2_with fail
    go_ret
    exact ⟨ret_bool (by simp), HBB.out.set 11 _, (by (repeat (first | with_reducible refine grown_set ?_ | with_reducible refine grown_alloc ?_ _)); exact grown_of_below (by (repeat (first | with_reducible assumption | with_reducible exact Below.refl _ _ | with_reducible refine Below.setCell ?_ (by first | omega | (simp; done) | (simp; omega)) _ | with_reducible refine Below.alloc ?_ (by first | omega | (simp; done) | (simp; omega)) _ | with_reducible refine Below.drew ?_ | (with_reducible refine Below.trans ?_ (Below.mono (by with_reducible assumption) (by first | omega | (simp; done) | (simp; omega)))) | (refine Below.trans ?_ (Below.mono (by assumption) (by first | omega | (simp; done) | (simp; omega))))))))⟩
end Go.Proofs.YtnohkfbapibmdaaGreat
