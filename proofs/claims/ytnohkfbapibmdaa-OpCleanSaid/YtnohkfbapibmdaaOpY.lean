/- The contracts of operations: their lines, the reference. -/
import Derived.Test.YtnohkfbapibmdaaOpX
import Derived.Test.YtnohkfbapibmdaaBlkQ
namespace Go.Proofs.Ytnohkfbapibmdaa
open Go.RowKit
set_option linter.unusedSimpArgs false
set_option linter.unusedVariables false

set_option maxRecDepth 100000 in
set_option maxHeartbeats 16000000 in
theorem refText36_1M (lock lk ls lt old new vn : Int) (pe : Pe) (ba ya : Option Addr) (bn bc yn yc : Nat) (hlock : i64 lock) (hls : i64 ls) (hlt : i64 lt) (hold : i64 old) (hnew : i64 new) (hvn : i64 vn) (hpe : pe.en.ad.fits) (hbn : bn ≤ 1000000) (hyn : yn ≤ 1000000) (w : World) :
    Calls Try.prog 45 #[.agg #[.int .i64 1, .int .i64 lock, .int .i64 lk, .int .i64 ls, .int .i64 lt, .int .i64 old, .int .i64 new, .int .i64 vn, .bool pe.en.ad.v6, .int .u64 pe.en.ad.hi, .int .u64 pe.en.ad.lo, .int .i64 pe.en.port, .bool pe.came, .int .i64 pe.since, .int .i64 pe.pts, .int .i64 pe.at_, .int .i64 pe.ping, .int .i64 pe.work, .slice ba bn bc, .slice ya yn yc, .bool true]] w fun r w' => r = .returned (.string (bs (joinL 32 ([nameAt opN 1] ++ [decText lock] ++ [[42]])))) ∧ Below w.heap.size w w' := by
  simp only [List.cons_append, List.nil_append]
  have HC := Lib.hid (fun w => refOp_any 1 w)
  have n0 : nameAt opN 1 ≠ [] := by decide
  have m0 := nameOp_len 1
  generalize nameAt opN 1 = nm at *
  have Htk := Lib.hid (fun w => refText_any lock hlock.1 hlock.2 w)
  have ltk : (decText lock).length ≤ 2000 := Nat.le_trans (decText_len lock hlock.1 hlock.2) (by omega)
  generalize decText lock = tk at *
  have q0 : (bs nm).toList.isEmpty = false := by rw [bs_toL]; simpa using n0
  have q1 : ((bs nm).toList == []) = false := by rw [bs_toL]; simpa using n0
  rw [← bs_size] at m0
  rw [← bs_size] at ltk
  have s0 : ¬ 9223372036854775807 < (bs nm).size + 1 := by omega
  have s1 : ¬ 9223372036854775807 < (bs nm).size + 1 + (bs tk).size := by omega
  have s2 : ¬ 9223372036854775807 < (bs nm).size + 1 + (bs tk).size + 2 := by omega
  have hres : bs nm ++ ⟨#[32]⟩ ++ bs tk ++ ⟨#[32, 42]⟩ = bs (joinL 32 [nm, tk, [42]]) := by
    simp only [show (⟨#[32]⟩ : ByteArray) = bs [32] from rfl, show (⟨#[32, 42]⟩ : ByteArray) = bs [32, 42] from rfl, bs_append, joinL_cons, joinL_one]
    try simp
  have HRES := Lib.hid hres
  clear hres n0
  go_enter Try.func45, Try.ntmps45
  go_wp2_with (first | (go_at_call 98; (with_reducible refine (HC.out _).mono ?_); rintro e w0 ⟨rfl, rfl⟩) | (go_at_call 77; (with_reducible refine (Htk.out _).mono ?_); rintro e w1 ⟨rfl, b1⟩; obtain ⟨c1, f1⟩ := bcell b1; have z1 := b1.size; (try simp at z1); have d1a := fun o => c1 (w.heap.size) o (by first | omega | (simp; done) | (simp; omega)); clear c1 f1))
  go_ret
  exact ⟨ret_str HRES.out, by (repeat (first | with_reducible assumption | with_reducible exact Below.refl _ _ | with_reducible refine Below.setCell ?_ (by first | omega | (simp; done) | (simp; omega)) _ | with_reducible refine Below.alloc ?_ (by first | omega | (simp; done) | (simp; omega)) _ | with_reducible refine Below.drew ?_ | (with_reducible refine Below.trans ?_ (Below.mono (by with_reducible assumption) (by first | omega | (simp; done) | (simp; omega)))) | (refine Below.trans ?_ (Below.mono (by assumption) (by first | omega | (simp; done) | (simp; omega))))))⟩
set_option maxRecDepth 100000 in
set_option maxHeartbeats 16000000 in
theorem refText36_2M (lock lk ls lt old new vn : Int) (pe : Pe) (ba ya : Option Addr) (bn bc yn yc : Nat) (hlock : i64 lock) (hls : i64 ls) (hlt : i64 lt) (hold : i64 old) (hnew : i64 new) (hvn : i64 vn) (hpe : pe.en.ad.fits) (hbn : bn ≤ 1000000) (hyn : yn ≤ 1000000) (w : World) :
    Calls Try.prog 45 #[.agg #[.int .i64 2, .int .i64 lock, .int .i64 lk, .int .i64 ls, .int .i64 lt, .int .i64 old, .int .i64 new, .int .i64 vn, .bool pe.en.ad.v6, .int .u64 pe.en.ad.hi, .int .u64 pe.en.ad.lo, .int .i64 pe.en.port, .bool pe.came, .int .i64 pe.since, .int .i64 pe.pts, .int .i64 pe.at_, .int .i64 pe.ping, .int .i64 pe.work, .slice ba bn bc, .slice ya yn yc, .bool true]] w fun r w' => r = .returned (.string (bs (joinL 32 ([nameAt opN 2] ++ [decText lock] ++ [[42]])))) ∧ Below w.heap.size w w' := by
  simp only [List.cons_append, List.nil_append]
  have HC := Lib.hid (fun w => refOp_any 2 w)
  have n0 : nameAt opN 2 ≠ [] := by decide
  have m0 := nameOp_len 2
  generalize nameAt opN 2 = nm at *
  have Htk := Lib.hid (fun w => refText_any lock hlock.1 hlock.2 w)
  have ltk : (decText lock).length ≤ 2000 := Nat.le_trans (decText_len lock hlock.1 hlock.2) (by omega)
  generalize decText lock = tk at *
  have q0 : (bs nm).toList.isEmpty = false := by rw [bs_toL]; simpa using n0
  have q1 : ((bs nm).toList == []) = false := by rw [bs_toL]; simpa using n0
  rw [← bs_size] at m0
  rw [← bs_size] at ltk
  have s0 : ¬ 9223372036854775807 < (bs nm).size + 1 := by omega
  have s1 : ¬ 9223372036854775807 < (bs nm).size + 1 + (bs tk).size := by omega
  have s2 : ¬ 9223372036854775807 < (bs nm).size + 1 + (bs tk).size + 2 := by omega
  have hres : bs nm ++ ⟨#[32]⟩ ++ bs tk ++ ⟨#[32, 42]⟩ = bs (joinL 32 [nm, tk, [42]]) := by
    simp only [show (⟨#[32]⟩ : ByteArray) = bs [32] from rfl, show (⟨#[32, 42]⟩ : ByteArray) = bs [32, 42] from rfl, bs_append, joinL_cons, joinL_one]
    try simp
  have HRES := Lib.hid hres
  clear hres n0
  go_enter Try.func45, Try.ntmps45
  go_wp2_with (first | (go_at_call 98; (with_reducible refine (HC.out _).mono ?_); rintro e w0 ⟨rfl, rfl⟩) | (go_at_call 77; (with_reducible refine (Htk.out _).mono ?_); rintro e w1 ⟨rfl, b1⟩; obtain ⟨c1, f1⟩ := bcell b1; have z1 := b1.size; (try simp at z1); have d1a := fun o => c1 (w.heap.size) o (by first | omega | (simp; done) | (simp; omega)); clear c1 f1))
  go_ret
  exact ⟨ret_str HRES.out, by (repeat (first | with_reducible assumption | with_reducible exact Below.refl _ _ | with_reducible refine Below.setCell ?_ (by first | omega | (simp; done) | (simp; omega)) _ | with_reducible refine Below.alloc ?_ (by first | omega | (simp; done) | (simp; omega)) _ | with_reducible refine Below.drew ?_ | (with_reducible refine Below.trans ?_ (Below.mono (by with_reducible assumption) (by first | omega | (simp; done) | (simp; omega)))) | (refine Below.trans ?_ (Below.mono (by assumption) (by first | omega | (simp; done) | (simp; omega))))))⟩
set_option maxRecDepth 100000 in
set_option maxHeartbeats 16000000 in
theorem refText36_3M (lock lk ls lt old new vn : Int) (pe : Pe) (ba ya : Option Addr) (bn bc yn yc : Nat) (hlock : i64 lock) (hls : i64 ls) (hlt : i64 lt) (hold : i64 old) (hnew : i64 new) (hvn : i64 vn) (hpe : pe.en.ad.fits) (hbn : bn ≤ 1000000) (hyn : yn ≤ 1000000) (w : World) :
    Calls Try.prog 45 #[.agg #[.int .i64 3, .int .i64 lock, .int .i64 lk, .int .i64 ls, .int .i64 lt, .int .i64 old, .int .i64 new, .int .i64 vn, .bool pe.en.ad.v6, .int .u64 pe.en.ad.hi, .int .u64 pe.en.ad.lo, .int .i64 pe.en.port, .bool pe.came, .int .i64 pe.since, .int .i64 pe.pts, .int .i64 pe.at_, .int .i64 pe.ping, .int .i64 pe.work, .slice ba bn bc, .slice ya yn yc, .bool true]] w fun r w' => r = .returned (.string (bs (joinL 32 ([nameAt opN 3] ++ [decText lock] ++ [[42]])))) ∧ Below w.heap.size w w' := by
  simp only [List.cons_append, List.nil_append]
  have HC := Lib.hid (fun w => refOp_any 3 w)
  have n0 : nameAt opN 3 ≠ [] := by decide
  have m0 := nameOp_len 3
  generalize nameAt opN 3 = nm at *
  have Htk := Lib.hid (fun w => refText_any lock hlock.1 hlock.2 w)
  have ltk : (decText lock).length ≤ 2000 := Nat.le_trans (decText_len lock hlock.1 hlock.2) (by omega)
  generalize decText lock = tk at *
  have q0 : (bs nm).toList.isEmpty = false := by rw [bs_toL]; simpa using n0
  have q1 : ((bs nm).toList == []) = false := by rw [bs_toL]; simpa using n0
  rw [← bs_size] at m0
  rw [← bs_size] at ltk
  have s0 : ¬ 9223372036854775807 < (bs nm).size + 1 := by omega
  have s1 : ¬ 9223372036854775807 < (bs nm).size + 1 + (bs tk).size := by omega
  have s2 : ¬ 9223372036854775807 < (bs nm).size + 1 + (bs tk).size + 2 := by omega
  have hres : bs nm ++ ⟨#[32]⟩ ++ bs tk ++ ⟨#[32, 42]⟩ = bs (joinL 32 [nm, tk, [42]]) := by
    simp only [show (⟨#[32]⟩ : ByteArray) = bs [32] from rfl, show (⟨#[32, 42]⟩ : ByteArray) = bs [32, 42] from rfl, bs_append, joinL_cons, joinL_one]
    try simp
  have HRES := Lib.hid hres
  clear hres n0
  go_enter Try.func45, Try.ntmps45
  go_wp2_with (first | (go_at_call 98; (with_reducible refine (HC.out _).mono ?_); rintro e w0 ⟨rfl, rfl⟩) | (go_at_call 77; (with_reducible refine (Htk.out _).mono ?_); rintro e w1 ⟨rfl, b1⟩; obtain ⟨c1, f1⟩ := bcell b1; have z1 := b1.size; (try simp at z1); have d1a := fun o => c1 (w.heap.size) o (by first | omega | (simp; done) | (simp; omega)); clear c1 f1))
  go_ret
  exact ⟨ret_str HRES.out, by (repeat (first | with_reducible assumption | with_reducible exact Below.refl _ _ | with_reducible refine Below.setCell ?_ (by first | omega | (simp; done) | (simp; omega)) _ | with_reducible refine Below.alloc ?_ (by first | omega | (simp; done) | (simp; omega)) _ | with_reducible refine Below.drew ?_ | (with_reducible refine Below.trans ?_ (Below.mono (by with_reducible assumption) (by first | omega | (simp; done) | (simp; omega)))) | (refine Below.trans ?_ (Below.mono (by assumption) (by first | omega | (simp; done) | (simp; omega))))))⟩
set_option maxRecDepth 100000 in
set_option maxHeartbeats 16000000 in
theorem refText36_4M (lock lk ls lt old new vn : Int) (pe : Pe) (ba ya : Option Addr) (bn bc yn yc : Nat) (hlock : i64 lock) (hls : i64 ls) (hlt : i64 lt) (hold : i64 old) (hnew : i64 new) (hvn : i64 vn) (hpe : pe.en.ad.fits) (hbn : bn ≤ 1000000) (hyn : yn ≤ 1000000) (w : World) :
    Calls Try.prog 45 #[.agg #[.int .i64 4, .int .i64 lock, .int .i64 lk, .int .i64 ls, .int .i64 lt, .int .i64 old, .int .i64 new, .int .i64 vn, .bool pe.en.ad.v6, .int .u64 pe.en.ad.hi, .int .u64 pe.en.ad.lo, .int .i64 pe.en.port, .bool pe.came, .int .i64 pe.since, .int .i64 pe.pts, .int .i64 pe.at_, .int .i64 pe.ping, .int .i64 pe.work, .slice ba bn bc, .slice ya yn yc, .bool true]] w fun r w' => r = .returned (.string (bs (joinL 32 ([nameAt opN 4] ++ [decText lock] ++ [[42]])))) ∧ Below w.heap.size w w' := by
  simp only [List.cons_append, List.nil_append]
  have HC := Lib.hid (fun w => refOp_any 4 w)
  have n0 : nameAt opN 4 ≠ [] := by decide
  have m0 := nameOp_len 4
  generalize nameAt opN 4 = nm at *
  have Htk := Lib.hid (fun w => refText_any lock hlock.1 hlock.2 w)
  have ltk : (decText lock).length ≤ 2000 := Nat.le_trans (decText_len lock hlock.1 hlock.2) (by omega)
  generalize decText lock = tk at *
  have q0 : (bs nm).toList.isEmpty = false := by rw [bs_toL]; simpa using n0
  have q1 : ((bs nm).toList == []) = false := by rw [bs_toL]; simpa using n0
  rw [← bs_size] at m0
  rw [← bs_size] at ltk
  have s0 : ¬ 9223372036854775807 < (bs nm).size + 1 := by omega
  have s1 : ¬ 9223372036854775807 < (bs nm).size + 1 + (bs tk).size := by omega
  have s2 : ¬ 9223372036854775807 < (bs nm).size + 1 + (bs tk).size + 2 := by omega
  have hres : bs nm ++ ⟨#[32]⟩ ++ bs tk ++ ⟨#[32, 42]⟩ = bs (joinL 32 [nm, tk, [42]]) := by
    simp only [show (⟨#[32]⟩ : ByteArray) = bs [32] from rfl, show (⟨#[32, 42]⟩ : ByteArray) = bs [32, 42] from rfl, bs_append, joinL_cons, joinL_one]
    try simp
  have HRES := Lib.hid hres
  clear hres n0
  go_enter Try.func45, Try.ntmps45
  go_wp2_with (first | (go_at_call 98; (with_reducible refine (HC.out _).mono ?_); rintro e w0 ⟨rfl, rfl⟩) | (go_at_call 77; (with_reducible refine (Htk.out _).mono ?_); rintro e w1 ⟨rfl, b1⟩; obtain ⟨c1, f1⟩ := bcell b1; have z1 := b1.size; (try simp at z1); have d1a := fun o => c1 (w.heap.size) o (by first | omega | (simp; done) | (simp; omega)); clear c1 f1))
  go_ret
  exact ⟨ret_str HRES.out, by (repeat (first | with_reducible assumption | with_reducible exact Below.refl _ _ | with_reducible refine Below.setCell ?_ (by first | omega | (simp; done) | (simp; omega)) _ | with_reducible refine Below.alloc ?_ (by first | omega | (simp; done) | (simp; omega)) _ | with_reducible refine Below.drew ?_ | (with_reducible refine Below.trans ?_ (Below.mono (by with_reducible assumption) (by first | omega | (simp; done) | (simp; omega)))) | (refine Below.trans ?_ (Below.mono (by assumption) (by first | omega | (simp; done) | (simp; omega))))))⟩
set_option maxRecDepth 100000 in
set_option maxHeartbeats 16000000 in
theorem refText36_8M (lock lk ls lt old new vn : Int) (pe : Pe) (ba ya : Option Addr) (bn bc yn yc : Nat) (hlock : i64 lock) (hls : i64 ls) (hlt : i64 lt) (hold : i64 old) (hnew : i64 new) (hvn : i64 vn) (hpe : pe.en.ad.fits) (hbn : bn ≤ 1000000) (hyn : yn ≤ 1000000) (w : World) :
    Calls Try.prog 45 #[.agg #[.int .i64 8, .int .i64 lock, .int .i64 lk, .int .i64 ls, .int .i64 lt, .int .i64 old, .int .i64 new, .int .i64 vn, .bool pe.en.ad.v6, .int .u64 pe.en.ad.hi, .int .u64 pe.en.ad.lo, .int .i64 pe.en.port, .bool pe.came, .int .i64 pe.since, .int .i64 pe.pts, .int .i64 pe.at_, .int .i64 pe.ping, .int .i64 pe.work, .slice ba bn bc, .slice ya yn yc, .bool true]] w fun r w' => r = .returned (.string (bs (joinL 32 ([nameAt opN 8] ++ [[42]])))) ∧ Below w.heap.size w w' := by
  simp only [List.cons_append, List.nil_append]
  have HC := Lib.hid (fun w => refOp_any 8 w)
  have n0 : nameAt opN 8 ≠ [] := by decide
  have m0 := nameOp_len 8
  generalize nameAt opN 8 = nm at *
  have q0 : (bs nm).toList.isEmpty = false := by rw [bs_toL]; simpa using n0
  have q1 : ((bs nm).toList == []) = false := by rw [bs_toL]; simpa using n0
  rw [← bs_size] at m0
  have s0 : ¬ 9223372036854775807 < (bs nm).size + 2 := by omega
  have hres : bs nm ++ ⟨#[32, 42]⟩ = bs (joinL 32 [nm, [42]]) := by
    simp only [show (⟨#[32]⟩ : ByteArray) = bs [32] from rfl, show (⟨#[32, 42]⟩ : ByteArray) = bs [32, 42] from rfl, bs_append, joinL_cons, joinL_one]
    try simp
  have HRES := Lib.hid hres
  clear hres n0
  go_enter Try.func45, Try.ntmps45
  go_wp2_with (first | (go_at_call 98; (with_reducible refine (HC.out _).mono ?_); rintro e w0 ⟨rfl, rfl⟩))
  go_ret
  exact ⟨ret_str HRES.out, by (repeat (first | with_reducible assumption | with_reducible exact Below.refl _ _ | with_reducible refine Below.setCell ?_ (by first | omega | (simp; done) | (simp; omega)) _ | with_reducible refine Below.alloc ?_ (by first | omega | (simp; done) | (simp; omega)) _ | with_reducible refine Below.drew ?_ | (with_reducible refine Below.trans ?_ (Below.mono (by with_reducible assumption) (by first | omega | (simp; done) | (simp; omega)))) | (refine Below.trans ?_ (Below.mono (by assumption) (by first | omega | (simp; done) | (simp; omega))))))⟩
set_option maxRecDepth 100000 in
set_option maxHeartbeats 16000000 in
theorem refText36_5M (lock lk ls lt old new vn : Int) (pe : Pe) (ba ya : Option Addr) (bn bc yn yc : Nat) (hlock : i64 lock) (hls : i64 ls) (hlt : i64 lt) (hold : i64 old) (hnew : i64 new) (hvn : i64 vn) (hpe : pe.en.ad.fits) (hbn : bn ≤ 1000000) (hyn : yn ≤ 1000000) (w : World) :
    Calls Try.prog 45 #[.agg #[.int .i64 5, .int .i64 lock, .int .i64 lk, .int .i64 ls, .int .i64 lt, .int .i64 old, .int .i64 new, .int .i64 vn, .bool pe.en.ad.v6, .int .u64 pe.en.ad.hi, .int .u64 pe.en.ad.lo, .int .i64 pe.en.port, .bool pe.came, .int .i64 pe.since, .int .i64 pe.pts, .int .i64 pe.at_, .int .i64 pe.ping, .int .i64 pe.work, .slice ba bn bc, .slice ya yn yc, .bool true]] w fun r w' => r = .returned (.string (bs (joinL 32 ([nameAt opN 5] ++ locW lk ls lt ++ [[42]])))) ∧ Below w.heap.size w w' := by
  rcases (show lk = 5 ∨ lk = 6 ∨ (lk ≠ 5 ∧ lk ≠ 6) by omega) with rfl | rfl | h
  · rw [locW5]
    simp only [List.cons_append, List.nil_append]
    have HC := Lib.hid (fun w => refOp_any 5 w)
    have n0 : nameAt opN 5 ≠ [] := by decide
    have m0 := nameOp_len 5
    generalize nameAt opN 5 = nm at *
    have HP := Lib.hid (fun w => refLoc_any 5 w)
    have m1 := nameLoc_len 5
    generalize nameAt locN 5 = nl at *
    have Hts := Lib.hid (fun w => refText_any ls hls.1 hls.2 w)
    have lts : (decText ls).length ≤ 2000 := Nat.le_trans (decText_len ls hls.1 hls.2) (by omega)
    generalize decText ls = ts at *
    have q0 : (bs nm).toList.isEmpty = false := by rw [bs_toL]; simpa using n0
    have q1 : ((bs nm).toList == []) = false := by rw [bs_toL]; simpa using n0
    rw [← bs_size] at m0
    rw [← bs_size] at m1
    have s0 : ¬ 9223372036854775807 < (bs nm).size + 1 := by omega
    have s1 : ¬ 9223372036854775807 < (bs nm).size + 1 + (bs nl).size := by omega
    rw [← bs_size] at lts
    have s2 : ¬ 9223372036854775807 < (bs nm).size + 1 + (bs nl).size + 1 := by omega
    have s3 : ¬ 9223372036854775807 < (bs nm).size + 1 + (bs nl).size + 1 + (bs ts).size := by omega
    have s4 : ¬ 9223372036854775807 < (bs nm).size + 1 + (bs nl).size + 1 + (bs ts).size + 2 := by omega
    have hres : bs nm ++ ⟨#[32]⟩ ++ bs nl ++ ⟨#[32]⟩ ++ bs ts ++ ⟨#[32, 42]⟩ = bs (joinL 32 [nm, nl, ts, [42]]) := by
      simp only [show (⟨#[32]⟩ : ByteArray) = bs [32] from rfl, show (⟨#[32, 42]⟩ : ByteArray) = bs [32, 42] from rfl, bs_append, joinL_cons, joinL_one]
      try simp
    have HRES := Lib.hid hres
    clear hres n0
    go_enter Try.func45, Try.ntmps45
    go_wp2_with (first | (go_at_call 98; (with_reducible refine (HC.out _).mono ?_); rintro e w0 ⟨rfl, rfl⟩) | (go_at_call 99; (with_reducible refine (HP.out _).mono ?_); rintro e w0 ⟨rfl, rfl⟩) | (go_at_call 77; (with_reducible refine (Hts.out _).mono ?_); rintro e w2 ⟨rfl, b2⟩; obtain ⟨c2, f2⟩ := bcell b2; have z2 := b2.size; (try simp at z2); have d2a := fun o => c2 (w.heap.size) o (by first | omega | (simp; done) | (simp; omega)); clear c2 f2))
    go_ret
    exact ⟨ret_str HRES.out, by (repeat (first | with_reducible assumption | with_reducible exact Below.refl _ _ | with_reducible refine Below.setCell ?_ (by first | omega | (simp; done) | (simp; omega)) _ | with_reducible refine Below.alloc ?_ (by first | omega | (simp; done) | (simp; omega)) _ | with_reducible refine Below.drew ?_ | (with_reducible refine Below.trans ?_ (Below.mono (by with_reducible assumption) (by first | omega | (simp; done) | (simp; omega)))) | (refine Below.trans ?_ (Below.mono (by assumption) (by first | omega | (simp; done) | (simp; omega))))))⟩
  · rw [locW6]
    simp only [List.cons_append, List.nil_append]
    have HC := Lib.hid (fun w => refOp_any 5 w)
    have n0 : nameAt opN 5 ≠ [] := by decide
    have m0 := nameOp_len 5
    generalize nameAt opN 5 = nm at *
    have HP := Lib.hid (fun w => refLoc_any 6 w)
    have m1 := nameLoc_len 6
    generalize nameAt locN 6 = nl at *
    have Hts := Lib.hid (fun w => refText_any ls hls.1 hls.2 w)
    have lts : (decText ls).length ≤ 2000 := Nat.le_trans (decText_len ls hls.1 hls.2) (by omega)
    generalize decText ls = ts at *
    have Htt := Lib.hid (fun w => refText_any lt hlt.1 hlt.2 w)
    have ltt : (decText lt).length ≤ 2000 := Nat.le_trans (decText_len lt hlt.1 hlt.2) (by omega)
    generalize decText lt = tt at *
    have q0 : (bs nm).toList.isEmpty = false := by rw [bs_toL]; simpa using n0
    have q1 : ((bs nm).toList == []) = false := by rw [bs_toL]; simpa using n0
    rw [← bs_size] at m0
    rw [← bs_size] at m1
    have s0 : ¬ 9223372036854775807 < (bs nm).size + 1 := by omega
    have s1 : ¬ 9223372036854775807 < (bs nm).size + 1 + (bs nl).size := by omega
    rw [← bs_size] at lts
    have s2 : ¬ 9223372036854775807 < (bs nm).size + 1 + (bs nl).size + 1 := by omega
    have s3 : ¬ 9223372036854775807 < (bs nm).size + 1 + (bs nl).size + 1 + (bs ts).size := by omega
    rw [← bs_size] at ltt
    have s4 : ¬ 9223372036854775807 < (bs nm).size + 1 + (bs nl).size + 1 + (bs ts).size + 1 := by omega
    have s5 : ¬ 9223372036854775807 < (bs nm).size + 1 + (bs nl).size + 1 + (bs ts).size + 1 + (bs tt).size := by omega
    have s6 : ¬ 9223372036854775807 < (bs nm).size + 1 + (bs nl).size + 1 + (bs ts).size + 1 + (bs tt).size + 2 := by omega
    have hres : bs nm ++ ⟨#[32]⟩ ++ bs nl ++ ⟨#[32]⟩ ++ bs ts ++ ⟨#[32]⟩ ++ bs tt ++ ⟨#[32, 42]⟩ = bs (joinL 32 [nm, nl, ts, tt, [42]]) := by
      simp only [show (⟨#[32]⟩ : ByteArray) = bs [32] from rfl, show (⟨#[32, 42]⟩ : ByteArray) = bs [32, 42] from rfl, bs_append, joinL_cons, joinL_one]
      try simp
    have HRES := Lib.hid hres
    clear hres n0
    go_enter Try.func45, Try.ntmps45
    go_wp2_with (first | (go_at_call 98; (with_reducible refine (HC.out _).mono ?_); rintro e w0 ⟨rfl, rfl⟩) | (go_at_call 99; (with_reducible refine (HP.out _).mono ?_); rintro e w0 ⟨rfl, rfl⟩) | (go_at_call 77; (with_reducible refine (Hts.out _).mono ?_); rintro e w2 ⟨rfl, b2⟩; obtain ⟨c2, f2⟩ := bcell b2; have z2 := b2.size; (try simp at z2); have d2a := fun o => c2 (w.heap.size) o (by first | omega | (simp; done) | (simp; omega)); clear c2 f2) | (go_at_call 77; (with_reducible refine (Htt.out _).mono ?_); rintro e w3 ⟨rfl, b3⟩; obtain ⟨c3, f3⟩ := bcell b3; have z3 := b3.size; (try simp at z3); have d3a := fun o => c3 (w.heap.size) o (by first | omega | (simp; done) | (simp; omega)); clear c3 f3))
    go_ret
    exact ⟨ret_str HRES.out, by (repeat (first | with_reducible assumption | with_reducible exact Below.refl _ _ | with_reducible refine Below.setCell ?_ (by first | omega | (simp; done) | (simp; omega)) _ | with_reducible refine Below.alloc ?_ (by first | omega | (simp; done) | (simp; omega)) _ | with_reducible refine Below.drew ?_ | (with_reducible refine Below.trans ?_ (Below.mono (by with_reducible assumption) (by first | omega | (simp; done) | (simp; omega)))) | (refine Below.trans ?_ (Below.mono (by assumption) (by first | omega | (simp; done) | (simp; omega))))))⟩
  · rw [locWx h]
    have q5 : (lk == 5) = false := by simpa using h.1
    have q6 : (lk == 6) = false := by simpa using h.2
    clear h
    simp only [List.cons_append, List.nil_append]
    have HC := Lib.hid (fun w => refOp_any 5 w)
    have n0 : nameAt opN 5 ≠ [] := by decide
    have m0 := nameOp_len 5
    generalize nameAt opN 5 = nm at *
    have HP := Lib.hid (fun w => refLoc_any lk w)
    have m1 := nameLoc_len lk
    generalize nameAt locN lk = nl at *
    have q0 : (bs nm).toList.isEmpty = false := by rw [bs_toL]; simpa using n0
    have q1 : ((bs nm).toList == []) = false := by rw [bs_toL]; simpa using n0
    rw [← bs_size] at m0
    rw [← bs_size] at m1
    have s0 : ¬ 9223372036854775807 < (bs nm).size + 1 := by omega
    have s1 : ¬ 9223372036854775807 < (bs nm).size + 1 + (bs nl).size := by omega
    have s2 : ¬ 9223372036854775807 < (bs nm).size + 1 + (bs nl).size + 2 := by omega
    have hres : bs nm ++ ⟨#[32]⟩ ++ bs nl ++ ⟨#[32, 42]⟩ = bs (joinL 32 [nm, nl, [42]]) := by
      simp only [show (⟨#[32]⟩ : ByteArray) = bs [32] from rfl, show (⟨#[32, 42]⟩ : ByteArray) = bs [32, 42] from rfl, bs_append, joinL_cons, joinL_one]
      try simp
    have HRES := Lib.hid hres
    clear hres n0
    go_enter Try.func45, Try.ntmps45
    go_wp2_with (first | (go_at_call 98; (with_reducible refine (HC.out _).mono ?_); rintro e w0 ⟨rfl, rfl⟩) | (go_at_call 99; (with_reducible refine (HP.out _).mono ?_); rintro e w0 ⟨rfl, rfl⟩))
    go_ret
    exact ⟨ret_str HRES.out, by (repeat (first | with_reducible assumption | with_reducible exact Below.refl _ _ | with_reducible refine Below.setCell ?_ (by first | omega | (simp; done) | (simp; omega)) _ | with_reducible refine Below.alloc ?_ (by first | omega | (simp; done) | (simp; omega)) _ | with_reducible refine Below.drew ?_ | (with_reducible refine Below.trans ?_ (Below.mono (by with_reducible assumption) (by first | omega | (simp; done) | (simp; omega)))) | (refine Below.trans ?_ (Below.mono (by assumption) (by first | omega | (simp; done) | (simp; omega))))))⟩
set_option maxRecDepth 100000 in
set_option maxHeartbeats 16000000 in
theorem refText36_7M (lock lk ls lt old new vn : Int) (pe : Pe) (ba ya : Option Addr) (bn bc yn yc : Nat) (hlock : i64 lock) (hls : i64 ls) (hlt : i64 lt) (hold : i64 old) (hnew : i64 new) (hvn : i64 vn) (hpe : pe.en.ad.fits) (hbn : bn ≤ 1000000) (hyn : yn ≤ 1000000) (w : World) :
    Calls Try.prog 45 #[.agg #[.int .i64 7, .int .i64 lock, .int .i64 lk, .int .i64 ls, .int .i64 lt, .int .i64 old, .int .i64 new, .int .i64 vn, .bool pe.en.ad.v6, .int .u64 pe.en.ad.hi, .int .u64 pe.en.ad.lo, .int .i64 pe.en.port, .bool pe.came, .int .i64 pe.since, .int .i64 pe.pts, .int .i64 pe.at_, .int .i64 pe.ping, .int .i64 pe.work, .slice ba bn bc, .slice ya yn yc, .bool true]] w fun r w' => r = .returned (.string (bs (joinL 32 ([nameAt opN 7] ++ locW lk ls lt ++ [decText old, decText new] ++ [[42]])))) ∧ Below w.heap.size w w' := by
  rcases (show lk = 5 ∨ lk = 6 ∨ (lk ≠ 5 ∧ lk ≠ 6) by omega) with rfl | rfl | h
  · rw [locW5]
    simp only [List.cons_append, List.nil_append]
    have HC := Lib.hid (fun w => refOp_any 7 w)
    have n0 : nameAt opN 7 ≠ [] := by decide
    have m0 := nameOp_len 7
    generalize nameAt opN 7 = nm at *
    have HP := Lib.hid (fun w => refLoc_any 5 w)
    have m1 := nameLoc_len 5
    generalize nameAt locN 5 = nl at *
    have Hts := Lib.hid (fun w => refText_any ls hls.1 hls.2 w)
    have lts : (decText ls).length ≤ 2000 := Nat.le_trans (decText_len ls hls.1 hls.2) (by omega)
    generalize decText ls = ts at *
    have Htd := Lib.hid (fun w => refText_any old hold.1 hold.2 w)
    have ltd : (decText old).length ≤ 2000 := Nat.le_trans (decText_len old hold.1 hold.2) (by omega)
    generalize decText old = td at *
    have Htw := Lib.hid (fun w => refText_any new hnew.1 hnew.2 w)
    have ltw : (decText new).length ≤ 2000 := Nat.le_trans (decText_len new hnew.1 hnew.2) (by omega)
    generalize decText new = tw at *
    have q0 : (bs nm).toList.isEmpty = false := by rw [bs_toL]; simpa using n0
    have q1 : ((bs nm).toList == []) = false := by rw [bs_toL]; simpa using n0
    rw [← bs_size] at m0
    rw [← bs_size] at m1
    have s0 : ¬ 9223372036854775807 < (bs nm).size + 1 := by omega
    have s1 : ¬ 9223372036854775807 < (bs nm).size + 1 + (bs nl).size := by omega
    rw [← bs_size] at lts
    have s2 : ¬ 9223372036854775807 < (bs nm).size + 1 + (bs nl).size + 1 := by omega
    have s3 : ¬ 9223372036854775807 < (bs nm).size + 1 + (bs nl).size + 1 + (bs ts).size := by omega
    rw [← bs_size] at ltd
    have s4 : ¬ 9223372036854775807 < (bs nm).size + 1 + (bs nl).size + 1 + (bs ts).size + 1 := by omega
    have s5 : ¬ 9223372036854775807 < (bs nm).size + 1 + (bs nl).size + 1 + (bs ts).size + 1 + (bs td).size := by omega
    rw [← bs_size] at ltw
    have s6 : ¬ 9223372036854775807 < (bs nm).size + 1 + (bs nl).size + 1 + (bs ts).size + 1 + (bs td).size + 1 := by omega
    have s7 : ¬ 9223372036854775807 < (bs nm).size + 1 + (bs nl).size + 1 + (bs ts).size + 1 + (bs td).size + 1 + (bs tw).size := by omega
    have s8 : ¬ 9223372036854775807 < (bs nm).size + 1 + (bs nl).size + 1 + (bs ts).size + 1 + (bs td).size + 1 + (bs tw).size + 2 := by omega
    have hres : bs nm ++ ⟨#[32]⟩ ++ bs nl ++ ⟨#[32]⟩ ++ bs ts ++ ⟨#[32]⟩ ++ bs td ++ ⟨#[32]⟩ ++ bs tw ++ ⟨#[32, 42]⟩ = bs (joinL 32 [nm, nl, ts, td, tw, [42]]) := by
      simp only [show (⟨#[32]⟩ : ByteArray) = bs [32] from rfl, show (⟨#[32, 42]⟩ : ByteArray) = bs [32, 42] from rfl, bs_append, joinL_cons, joinL_one]
      try simp
    have HRES := Lib.hid hres
    clear hres n0
    go_enter Try.func45, Try.ntmps45
    go_upto_region 23 with (first | (go_at_call 98; (with_reducible refine (HC.out _).mono ?_); rintro e w0 ⟨rfl, rfl⟩) | (go_at_call 99; (with_reducible refine (HP.out _).mono ?_); rintro e w0 ⟨rfl, rfl⟩) | (go_at_call 77; (with_reducible refine (Hts.out _).mono ?_); rintro e w2 ⟨rfl, b2⟩; obtain ⟨c2, f2⟩ := bcell b2; have z2 := b2.size; (try simp at z2); have d2a := fun o => c2 (w.heap.size) o (by first | omega | (simp; done) | (simp; omega)); clear c2 f2))
    go_name_world WWx hWWx
    have hA : BlockIs WWx w.heap.size [.int .i64 7, .int .i64 lock, .int .i64 5, .int .i64 ls, .int .i64 lt, .int .i64 old, .int .i64 new, .int .i64 vn, .bool pe.en.ad.v6, .int .u64 pe.en.ad.hi, .int .u64 pe.en.ad.lo, .int .i64 pe.en.port, .bool pe.came, .int .i64 pe.since, .int .i64 pe.pts, .int .i64 pe.at_, .int .i64 pe.ping, .int .i64 pe.work, .slice ba bn bc, .slice ya yn yc, .bool true] 60 := by
      subst hWWx
      exact (BlockIs.new w [.int .i64 7, .int .i64 lock, .int .i64 5, .int .i64 ls, .int .i64 lt, .int .i64 old, .int .i64 new, .int .i64 vn, .bool pe.en.ad.v6, .int .u64 pe.en.ad.hi, .int .u64 pe.en.ad.lo, .int .i64 pe.en.port, .bool pe.came, .int .i64 pe.since, .int .i64 pe.pts, .int .i64 pe.at_, .int .i64 pe.ping, .int .i64 pe.work, .slice ba bn bc, .slice ya yn yc, .bool true] _).below b2
    have bWx : Below w.heap.size w WWx := by subst hWWx; (repeat (first | with_reducible assumption | with_reducible exact Below.refl _ _ | with_reducible refine Below.setCell ?_ (by first | omega | (simp; done) | (simp; omega)) _ | with_reducible refine Below.alloc ?_ (by first | omega | (simp; done) | (simp; omega)) _ | with_reducible refine Below.drew ?_ | (with_reducible refine Below.trans ?_ (Below.mono (by with_reducible assumption) (by first | omega | (simp; done) | (simp; omega)))) | (refine Below.trans ?_ (Below.mono (by assumption) (by first | omega | (simp; done) | (simp; omega))))))
    clear hWWx
    have hQ := BlockIs.ext hA
    have e15 := fun Y => (hQ _ ⟨Y, rfl⟩).cell (i := 5) rfl
    have e16 := fun Y => (hQ _ ⟨Y, rfl⟩).cell (i := 6) rfl
    have e30 := fun Y => (hQ _ ⟨Y, rfl⟩).cell (i := 20) rfl
    try simp only [List.append_eq, List.cons_append, List.nil_append]
    refine wp_region_ext (by kernel_rfl) (by kernel_rfl) ?_
    repeat (go_big_quiet_step ((first | (go_at_call 77; with_reducible exact qe (Htd.out _)) | (go_at_call 77; with_reducible exact qe (Htw.out _)))))
    refine wpQuiet_nil ?_
    first | (intro _ hw'; obtain ⟨x, hw''⟩ := hw'; subst hw'') | intro x
    have e40 := e30 x
    go_wp2_with fail
    go_ret
    exact ⟨ret_str HRES.out, bWx.trans ((ext_below _ _).mono bWx.size)⟩
  · rw [locW6]
    simp only [List.cons_append, List.nil_append]
    have HC := Lib.hid (fun w => refOp_any 7 w)
    have n0 : nameAt opN 7 ≠ [] := by decide
    have m0 := nameOp_len 7
    generalize nameAt opN 7 = nm at *
    have HP := Lib.hid (fun w => refLoc_any 6 w)
    have m1 := nameLoc_len 6
    generalize nameAt locN 6 = nl at *
    have Hts := Lib.hid (fun w => refText_any ls hls.1 hls.2 w)
    have lts : (decText ls).length ≤ 2000 := Nat.le_trans (decText_len ls hls.1 hls.2) (by omega)
    generalize decText ls = ts at *
    have Htt := Lib.hid (fun w => refText_any lt hlt.1 hlt.2 w)
    have ltt : (decText lt).length ≤ 2000 := Nat.le_trans (decText_len lt hlt.1 hlt.2) (by omega)
    generalize decText lt = tt at *
    have Htd := Lib.hid (fun w => refText_any old hold.1 hold.2 w)
    have ltd : (decText old).length ≤ 2000 := Nat.le_trans (decText_len old hold.1 hold.2) (by omega)
    generalize decText old = td at *
    have Htw := Lib.hid (fun w => refText_any new hnew.1 hnew.2 w)
    have ltw : (decText new).length ≤ 2000 := Nat.le_trans (decText_len new hnew.1 hnew.2) (by omega)
    generalize decText new = tw at *
    have q0 : (bs nm).toList.isEmpty = false := by rw [bs_toL]; simpa using n0
    have q1 : ((bs nm).toList == []) = false := by rw [bs_toL]; simpa using n0
    rw [← bs_size] at m0
    rw [← bs_size] at m1
    have s0 : ¬ 9223372036854775807 < (bs nm).size + 1 := by omega
    have s1 : ¬ 9223372036854775807 < (bs nm).size + 1 + (bs nl).size := by omega
    rw [← bs_size] at lts
    have s2 : ¬ 9223372036854775807 < (bs nm).size + 1 + (bs nl).size + 1 := by omega
    have s3 : ¬ 9223372036854775807 < (bs nm).size + 1 + (bs nl).size + 1 + (bs ts).size := by omega
    rw [← bs_size] at ltt
    have s4 : ¬ 9223372036854775807 < (bs nm).size + 1 + (bs nl).size + 1 + (bs ts).size + 1 := by omega
    have s5 : ¬ 9223372036854775807 < (bs nm).size + 1 + (bs nl).size + 1 + (bs ts).size + 1 + (bs tt).size := by omega
    rw [← bs_size] at ltd
    have s6 : ¬ 9223372036854775807 < (bs nm).size + 1 + (bs nl).size + 1 + (bs ts).size + 1 + (bs tt).size + 1 := by omega
    have s7 : ¬ 9223372036854775807 < (bs nm).size + 1 + (bs nl).size + 1 + (bs ts).size + 1 + (bs tt).size + 1 + (bs td).size := by omega
    rw [← bs_size] at ltw
    have s8 : ¬ 9223372036854775807 < (bs nm).size + 1 + (bs nl).size + 1 + (bs ts).size + 1 + (bs tt).size + 1 + (bs td).size + 1 := by omega
    have s9 : ¬ 9223372036854775807 < (bs nm).size + 1 + (bs nl).size + 1 + (bs ts).size + 1 + (bs tt).size + 1 + (bs td).size + 1 + (bs tw).size := by omega
    have s10 : ¬ 9223372036854775807 < (bs nm).size + 1 + (bs nl).size + 1 + (bs ts).size + 1 + (bs tt).size + 1 + (bs td).size + 1 + (bs tw).size + 2 := by omega
    have hres : bs nm ++ ⟨#[32]⟩ ++ bs nl ++ ⟨#[32]⟩ ++ bs ts ++ ⟨#[32]⟩ ++ bs tt ++ ⟨#[32]⟩ ++ bs td ++ ⟨#[32]⟩ ++ bs tw ++ ⟨#[32, 42]⟩ = bs (joinL 32 [nm, nl, ts, tt, td, tw, [42]]) := by
      simp only [show (⟨#[32]⟩ : ByteArray) = bs [32] from rfl, show (⟨#[32, 42]⟩ : ByteArray) = bs [32, 42] from rfl, bs_append, joinL_cons, joinL_one]
      try simp
    have HRES := Lib.hid hres
    clear hres n0
    go_enter Try.func45, Try.ntmps45
    go_upto_region 23 with (first | (go_at_call 98; (with_reducible refine (HC.out _).mono ?_); rintro e w0 ⟨rfl, rfl⟩) | (go_at_call 99; (with_reducible refine (HP.out _).mono ?_); rintro e w0 ⟨rfl, rfl⟩) | (go_at_call 77; (with_reducible refine (Hts.out _).mono ?_); rintro e w2 ⟨rfl, b2⟩; obtain ⟨c2, f2⟩ := bcell b2; have z2 := b2.size; (try simp at z2); have d2a := fun o => c2 (w.heap.size) o (by first | omega | (simp; done) | (simp; omega)); clear c2 f2) | (go_at_call 77; (with_reducible refine (Htt.out _).mono ?_); rintro e w3 ⟨rfl, b3⟩; obtain ⟨c3, f3⟩ := bcell b3; have z3 := b3.size; (try simp at z3); have d3a := fun o => c3 (w.heap.size) o (by first | omega | (simp; done) | (simp; omega)); clear c3 f3))
    go_name_world WWx hWWx
    have hA : BlockIs WWx w.heap.size [.int .i64 7, .int .i64 lock, .int .i64 6, .int .i64 ls, .int .i64 lt, .int .i64 old, .int .i64 new, .int .i64 vn, .bool pe.en.ad.v6, .int .u64 pe.en.ad.hi, .int .u64 pe.en.ad.lo, .int .i64 pe.en.port, .bool pe.came, .int .i64 pe.since, .int .i64 pe.pts, .int .i64 pe.at_, .int .i64 pe.ping, .int .i64 pe.work, .slice ba bn bc, .slice ya yn yc, .bool true] 60 := by
      subst hWWx
      exact ((BlockIs.new w [.int .i64 7, .int .i64 lock, .int .i64 6, .int .i64 ls, .int .i64 lt, .int .i64 old, .int .i64 new, .int .i64 vn, .bool pe.en.ad.v6, .int .u64 pe.en.ad.hi, .int .u64 pe.en.ad.lo, .int .i64 pe.en.port, .bool pe.came, .int .i64 pe.since, .int .i64 pe.pts, .int .i64 pe.at_, .int .i64 pe.ping, .int .i64 pe.work, .slice ba bn bc, .slice ya yn yc, .bool true] _).below b2).below b3
    have bWx : Below w.heap.size w WWx := by subst hWWx; (repeat (first | with_reducible assumption | with_reducible exact Below.refl _ _ | with_reducible refine Below.setCell ?_ (by first | omega | (simp; done) | (simp; omega)) _ | with_reducible refine Below.alloc ?_ (by first | omega | (simp; done) | (simp; omega)) _ | with_reducible refine Below.drew ?_ | (with_reducible refine Below.trans ?_ (Below.mono (by with_reducible assumption) (by first | omega | (simp; done) | (simp; omega)))) | (refine Below.trans ?_ (Below.mono (by assumption) (by first | omega | (simp; done) | (simp; omega))))))
    clear hWWx
    have hQ := BlockIs.ext hA
    have e15 := fun Y => (hQ _ ⟨Y, rfl⟩).cell (i := 5) rfl
    have e16 := fun Y => (hQ _ ⟨Y, rfl⟩).cell (i := 6) rfl
    have e30 := fun Y => (hQ _ ⟨Y, rfl⟩).cell (i := 20) rfl
    try simp only [List.append_eq, List.cons_append, List.nil_append]
    refine wp_region_ext (by kernel_rfl) (by kernel_rfl) ?_
    repeat (go_big_quiet_step ((first | (go_at_call 77; with_reducible exact qe (Htd.out _)) | (go_at_call 77; with_reducible exact qe (Htw.out _)))))
    refine wpQuiet_nil ?_
    first | (intro _ hw'; obtain ⟨x, hw''⟩ := hw'; subst hw'') | intro x
    have e40 := e30 x
    go_wp2_with fail
    go_ret
    exact ⟨ret_str HRES.out, bWx.trans ((ext_below _ _).mono bWx.size)⟩
  · rw [locWx h]
    have q5 : (lk == 5) = false := by simpa using h.1
    have q6 : (lk == 6) = false := by simpa using h.2
    clear h
    simp only [List.cons_append, List.nil_append]
    have HC := Lib.hid (fun w => refOp_any 7 w)
    have n0 : nameAt opN 7 ≠ [] := by decide
    have m0 := nameOp_len 7
    generalize nameAt opN 7 = nm at *
    have HP := Lib.hid (fun w => refLoc_any lk w)
    have m1 := nameLoc_len lk
    generalize nameAt locN lk = nl at *
    have Htd := Lib.hid (fun w => refText_any old hold.1 hold.2 w)
    have ltd : (decText old).length ≤ 2000 := Nat.le_trans (decText_len old hold.1 hold.2) (by omega)
    generalize decText old = td at *
    have Htw := Lib.hid (fun w => refText_any new hnew.1 hnew.2 w)
    have ltw : (decText new).length ≤ 2000 := Nat.le_trans (decText_len new hnew.1 hnew.2) (by omega)
    generalize decText new = tw at *
    have q0 : (bs nm).toList.isEmpty = false := by rw [bs_toL]; simpa using n0
    have q1 : ((bs nm).toList == []) = false := by rw [bs_toL]; simpa using n0
    rw [← bs_size] at m0
    rw [← bs_size] at m1
    have s0 : ¬ 9223372036854775807 < (bs nm).size + 1 := by omega
    have s1 : ¬ 9223372036854775807 < (bs nm).size + 1 + (bs nl).size := by omega
    rw [← bs_size] at ltd
    have s2 : ¬ 9223372036854775807 < (bs nm).size + 1 + (bs nl).size + 1 := by omega
    have s3 : ¬ 9223372036854775807 < (bs nm).size + 1 + (bs nl).size + 1 + (bs td).size := by omega
    rw [← bs_size] at ltw
    have s4 : ¬ 9223372036854775807 < (bs nm).size + 1 + (bs nl).size + 1 + (bs td).size + 1 := by omega
    have s5 : ¬ 9223372036854775807 < (bs nm).size + 1 + (bs nl).size + 1 + (bs td).size + 1 + (bs tw).size := by omega
    have s6 : ¬ 9223372036854775807 < (bs nm).size + 1 + (bs nl).size + 1 + (bs td).size + 1 + (bs tw).size + 2 := by omega
    have hres : bs nm ++ ⟨#[32]⟩ ++ bs nl ++ ⟨#[32]⟩ ++ bs td ++ ⟨#[32]⟩ ++ bs tw ++ ⟨#[32, 42]⟩ = bs (joinL 32 [nm, nl, td, tw, [42]]) := by
      simp only [show (⟨#[32]⟩ : ByteArray) = bs [32] from rfl, show (⟨#[32, 42]⟩ : ByteArray) = bs [32, 42] from rfl, bs_append, joinL_cons, joinL_one]
      try simp
    have HRES := Lib.hid hres
    clear hres n0
    go_enter Try.func45, Try.ntmps45
    go_upto_region 23 with (first | (go_at_call 98; (with_reducible refine (HC.out _).mono ?_); rintro e w0 ⟨rfl, rfl⟩) | (go_at_call 99; (with_reducible refine (HP.out _).mono ?_); rintro e w0 ⟨rfl, rfl⟩))
    go_name_world WWx hWWx
    have hA : BlockIs WWx w.heap.size [.int .i64 7, .int .i64 lock, .int .i64 lk, .int .i64 ls, .int .i64 lt, .int .i64 old, .int .i64 new, .int .i64 vn, .bool pe.en.ad.v6, .int .u64 pe.en.ad.hi, .int .u64 pe.en.ad.lo, .int .i64 pe.en.port, .bool pe.came, .int .i64 pe.since, .int .i64 pe.pts, .int .i64 pe.at_, .int .i64 pe.ping, .int .i64 pe.work, .slice ba bn bc, .slice ya yn yc, .bool true] 60 := by
      subst hWWx
      exact BlockIs.new w [.int .i64 7, .int .i64 lock, .int .i64 lk, .int .i64 ls, .int .i64 lt, .int .i64 old, .int .i64 new, .int .i64 vn, .bool pe.en.ad.v6, .int .u64 pe.en.ad.hi, .int .u64 pe.en.ad.lo, .int .i64 pe.en.port, .bool pe.came, .int .i64 pe.since, .int .i64 pe.pts, .int .i64 pe.at_, .int .i64 pe.ping, .int .i64 pe.work, .slice ba bn bc, .slice ya yn yc, .bool true] _
    have bWx : Below w.heap.size w WWx := by subst hWWx; (repeat (first | with_reducible assumption | with_reducible exact Below.refl _ _ | with_reducible refine Below.setCell ?_ (by first | omega | (simp; done) | (simp; omega)) _ | with_reducible refine Below.alloc ?_ (by first | omega | (simp; done) | (simp; omega)) _ | with_reducible refine Below.drew ?_ | (with_reducible refine Below.trans ?_ (Below.mono (by with_reducible assumption) (by first | omega | (simp; done) | (simp; omega)))) | (refine Below.trans ?_ (Below.mono (by assumption) (by first | omega | (simp; done) | (simp; omega))))))
    clear hWWx
    have hQ := BlockIs.ext hA
    have e15 := fun Y => (hQ _ ⟨Y, rfl⟩).cell (i := 5) rfl
    have e16 := fun Y => (hQ _ ⟨Y, rfl⟩).cell (i := 6) rfl
    have e30 := fun Y => (hQ _ ⟨Y, rfl⟩).cell (i := 20) rfl
    try simp only [List.append_eq, List.cons_append, List.nil_append]
    refine wp_region_ext (by kernel_rfl) (by kernel_rfl) ?_
    repeat (go_big_quiet_step ((first | (go_at_call 77; with_reducible exact qe (Htd.out _)) | (go_at_call 77; with_reducible exact qe (Htw.out _)))))
    refine wpQuiet_nil ?_
    first | (intro _ hw'; obtain ⟨x, hw''⟩ := hw'; subst hw'') | intro x
    have e40 := e30 x
    go_wp2_with fail
    go_ret
    exact ⟨ret_str HRES.out, bWx.trans ((ext_below _ _).mono bWx.size)⟩
set_option maxRecDepth 100000 in
set_option maxHeartbeats 16000000 in
theorem refText36_6M (lock lk ls lt old new vn : Int) (pe : Pe) (ba ya : Option Addr) (bn bc yn yc : Nat) (hlock : i64 lock) (hls : i64 ls) (hlt : i64 lt) (hold : i64 old) (hnew : i64 new) (hvn : i64 vn) (hpe : pe.en.ad.fits) (hbn : bn ≤ 1000000) (hyn : yn ≤ 1000000) (w : World) :
    Calls Try.prog 45 #[.agg #[.int .i64 6, .int .i64 lock, .int .i64 lk, .int .i64 ls, .int .i64 lt, .int .i64 old, .int .i64 new, .int .i64 vn, .bool pe.en.ad.v6, .int .u64 pe.en.ad.hi, .int .u64 pe.en.ad.lo, .int .i64 pe.en.port, .bool pe.came, .int .i64 pe.since, .int .i64 pe.pts, .int .i64 pe.at_, .int .i64 pe.ping, .int .i64 pe.work, .slice ba bn bc, .slice ya yn yc, .bool true]] w fun r w' => r = .returned (.string (bs (joinL 32 ([nameAt opN 6] ++ locW lk ls lt ++ storedW lk vn pe.en bn yn ++ [[42]])))) ∧ Below w.heap.size w w' := by
  rcases (show lk = 5 ∨ lk = 6 ∨ lk = 3 ∨ lk = 4 ∨ (lk ≠ 5 ∧ lk ≠ 6 ∧ lk ≠ 3 ∧ lk ≠ 4) by omega) with rfl | rfl | rfl | rfl | h
  · rw [locW5, storedW5]
    simp only [List.cons_append, List.nil_append, List.append_nil]
    have HC := Lib.hid (fun w => refOp_any 6 w)
    have n0 : nameAt opN 6 ≠ [] := by decide
    have m0 := nameOp_len 6
    generalize nameAt opN 6 = nm at *
    have HP := Lib.hid (fun w => refLoc_any 5 w)
    have m1 := nameLoc_len 5
    generalize nameAt locN 5 = nl at *
    have Hts := Lib.hid (fun w => refText_any ls hls.1 hls.2 w)
    have lts : (decText ls).length ≤ 2000 := Nat.le_trans (decText_len ls hls.1 hls.2) (by omega)
    generalize decText ls = ts at *
    have Htn := Lib.hid (fun w => refText_any vn hvn.1 hvn.2 w)
    have ltn : (decText vn).length ≤ 2000 := Nat.le_trans (decText_len vn hvn.1 hvn.2) (by omega)
    generalize decText vn = tn at *
    have q0 : (bs nm).toList.isEmpty = false := by rw [bs_toL]; simpa using n0
    have q1 : ((bs nm).toList == []) = false := by rw [bs_toL]; simpa using n0
    rw [← bs_size] at m0
    rw [← bs_size] at m1
    have s0 : ¬ 9223372036854775807 < (bs nm).size + 1 := by omega
    have s1 : ¬ 9223372036854775807 < (bs nm).size + 1 + (bs nl).size := by omega
    rw [← bs_size] at lts
    have s2 : ¬ 9223372036854775807 < (bs nm).size + 1 + (bs nl).size + 1 := by omega
    have s3 : ¬ 9223372036854775807 < (bs nm).size + 1 + (bs nl).size + 1 + (bs ts).size := by omega
    rw [← bs_size] at ltn
    have s4 : ¬ 9223372036854775807 < (bs nm).size + 1 + (bs nl).size + 1 + (bs ts).size + 1 := by omega
    have s5 : ¬ 9223372036854775807 < (bs nm).size + 1 + (bs nl).size + 1 + (bs ts).size + 1 + (bs tn).size := by omega
    have s6 : ¬ 9223372036854775807 < (bs nm).size + 1 + (bs nl).size + 1 + (bs ts).size + 1 + (bs tn).size + 2 := by omega
    have hres : bs nm ++ ⟨#[32]⟩ ++ bs nl ++ ⟨#[32]⟩ ++ bs ts ++ ⟨#[32]⟩ ++ bs tn ++ ⟨#[32, 42]⟩ = bs (joinL 32 [nm, nl, ts, tn, [42]]) := by
      simp only [show (⟨#[32]⟩ : ByteArray) = bs [32] from rfl, show (⟨#[32, 42]⟩ : ByteArray) = bs [32, 42] from rfl, bs_append, joinL_cons, joinL_one]
      try simp
    have HRES := Lib.hid hres
    clear hres n0
    go_enter Try.func45, Try.ntmps45
    go_wp2_with (first | (go_at_call 98; (with_reducible refine (HC.out _).mono ?_); rintro e w0 ⟨rfl, rfl⟩) | (go_at_call 99; (with_reducible refine (HP.out _).mono ?_); rintro e w0 ⟨rfl, rfl⟩) | (go_at_call 77; (with_reducible refine (Hts.out _).mono ?_); rintro e w2 ⟨rfl, b2⟩; obtain ⟨c2, f2⟩ := bcell b2; have z2 := b2.size; (try simp at z2); have d2a := fun o => c2 (w.heap.size) o (by first | omega | (simp; done) | (simp; omega)); clear c2 f2) | (go_at_call 77; (with_reducible refine (Htn.out _).mono ?_); rintro e w3 ⟨rfl, b3⟩; obtain ⟨c3, f3⟩ := bcell b3; have z3 := b3.size; (try simp at z3); have d3a := fun o => c3 (w.heap.size) o (by first | omega | (simp; done) | (simp; omega)); clear c3 f3))
    go_ret
    exact ⟨ret_str HRES.out, by (repeat (first | with_reducible assumption | with_reducible exact Below.refl _ _ | with_reducible refine Below.setCell ?_ (by first | omega | (simp; done) | (simp; omega)) _ | with_reducible refine Below.alloc ?_ (by first | omega | (simp; done) | (simp; omega)) _ | with_reducible refine Below.drew ?_ | (with_reducible refine Below.trans ?_ (Below.mono (by with_reducible assumption) (by first | omega | (simp; done) | (simp; omega)))) | (refine Below.trans ?_ (Below.mono (by assumption) (by first | omega | (simp; done) | (simp; omega))))))⟩
  · rw [locW6, storedW6]
    simp only [List.cons_append, List.nil_append, List.append_nil]
    have HC := Lib.hid (fun w => refOp_any 6 w)
    have n0 : nameAt opN 6 ≠ [] := by decide
    have m0 := nameOp_len 6
    generalize nameAt opN 6 = nm at *
    have HP := Lib.hid (fun w => refLoc_any 6 w)
    have m1 := nameLoc_len 6
    generalize nameAt locN 6 = nl at *
    have Hts := Lib.hid (fun w => refText_any ls hls.1 hls.2 w)
    have lts : (decText ls).length ≤ 2000 := Nat.le_trans (decText_len ls hls.1 hls.2) (by omega)
    generalize decText ls = ts at *
    have Htt := Lib.hid (fun w => refText_any lt hlt.1 hlt.2 w)
    have ltt : (decText lt).length ≤ 2000 := Nat.le_trans (decText_len lt hlt.1 hlt.2) (by omega)
    generalize decText lt = tt at *
    have Hte := Lib.hid (fun w => refEnText_any pe.en hpe w)
    have lte : (enText pe.en).length ≤ 2000 := enText_len pe.en hpe
    generalize enText pe.en = te at *
    have q0 : (bs nm).toList.isEmpty = false := by rw [bs_toL]; simpa using n0
    have q1 : ((bs nm).toList == []) = false := by rw [bs_toL]; simpa using n0
    rw [← bs_size] at m0
    rw [← bs_size] at m1
    have s0 : ¬ 9223372036854775807 < (bs nm).size + 1 := by omega
    have s1 : ¬ 9223372036854775807 < (bs nm).size + 1 + (bs nl).size := by omega
    rw [← bs_size] at lts
    have s2 : ¬ 9223372036854775807 < (bs nm).size + 1 + (bs nl).size + 1 := by omega
    have s3 : ¬ 9223372036854775807 < (bs nm).size + 1 + (bs nl).size + 1 + (bs ts).size := by omega
    rw [← bs_size] at ltt
    have s4 : ¬ 9223372036854775807 < (bs nm).size + 1 + (bs nl).size + 1 + (bs ts).size + 1 := by omega
    have s5 : ¬ 9223372036854775807 < (bs nm).size + 1 + (bs nl).size + 1 + (bs ts).size + 1 + (bs tt).size := by omega
    rw [← bs_size] at lte
    have s6 : ¬ 9223372036854775807 < (bs nm).size + 1 + (bs nl).size + 1 + (bs ts).size + 1 + (bs tt).size + 1 := by omega
    have s7 : ¬ 9223372036854775807 < (bs nm).size + 1 + (bs nl).size + 1 + (bs ts).size + 1 + (bs tt).size + 1 + (bs te).size := by omega
    have s8 : ¬ 9223372036854775807 < (bs nm).size + 1 + (bs nl).size + 1 + (bs ts).size + 1 + (bs tt).size + 1 + (bs te).size + 2 := by omega
    have hres : bs nm ++ ⟨#[32]⟩ ++ bs nl ++ ⟨#[32]⟩ ++ bs ts ++ ⟨#[32]⟩ ++ bs tt ++ ⟨#[32]⟩ ++ bs te ++ ⟨#[32, 42]⟩ = bs (joinL 32 [nm, nl, ts, tt, te, [42]]) := by
      simp only [show (⟨#[32]⟩ : ByteArray) = bs [32] from rfl, show (⟨#[32, 42]⟩ : ByteArray) = bs [32, 42] from rfl, bs_append, joinL_cons, joinL_one]
      try simp
    have HRES := Lib.hid hres
    clear hres n0
    go_enter Try.func45, Try.ntmps45
    go_wp2_with (first | (go_at_call 98; (with_reducible refine (HC.out _).mono ?_); rintro e w0 ⟨rfl, rfl⟩) | (go_at_call 99; (with_reducible refine (HP.out _).mono ?_); rintro e w0 ⟨rfl, rfl⟩) | (go_at_call 77; (with_reducible refine (Hts.out _).mono ?_); rintro e w2 ⟨rfl, b2⟩; obtain ⟨c2, f2⟩ := bcell b2; have z2 := b2.size; (try simp at z2); have d2a := fun o => c2 (w.heap.size) o (by first | omega | (simp; done) | (simp; omega)); clear c2 f2) | (go_at_call 77; (with_reducible refine (Htt.out _).mono ?_); rintro e w3 ⟨rfl, b3⟩; obtain ⟨c3, f3⟩ := bcell b3; have z3 := b3.size; (try simp at z3); have d3a := fun o => c3 (w.heap.size) o (by first | omega | (simp; done) | (simp; omega)); clear c3 f3) | (go_at_call 76; (with_reducible refine (Hte.out _).mono ?_); rintro e w4 ⟨rfl, b4⟩; obtain ⟨c4, f4⟩ := bcell b4; have z4 := b4.size; (try simp at z4); have d4a := fun o => c4 (w.heap.size) o (by first | omega | (simp; done) | (simp; omega)); clear c4 f4))
    go_ret
    exact ⟨ret_str HRES.out, by (repeat (first | with_reducible assumption | with_reducible exact Below.refl _ _ | with_reducible refine Below.setCell ?_ (by first | omega | (simp; done) | (simp; omega)) _ | with_reducible refine Below.alloc ?_ (by first | omega | (simp; done) | (simp; omega)) _ | with_reducible refine Below.drew ?_ | (with_reducible refine Below.trans ?_ (Below.mono (by with_reducible assumption) (by first | omega | (simp; done) | (simp; omega)))) | (refine Below.trans ?_ (Below.mono (by assumption) (by first | omega | (simp; done) | (simp; omega))))))⟩
  · rw [locWx (by omega), storedW3]
    simp only [List.cons_append, List.nil_append, List.append_nil]
    have HC := Lib.hid (fun w => refOp_any 6 w)
    have n0 : nameAt opN 6 ≠ [] := by decide
    have m0 := nameOp_len 6
    generalize nameAt opN 6 = nm at *
    have HP := Lib.hid (fun w => refLoc_any 3 w)
    have m1 := nameLoc_len 3
    generalize nameAt locN 3 = nl at *
    have Htb := Lib.hid (fun w => refText_any (bn : Int) (by omega) (by omega) w)
    have ltb : (decText (bn : Int)).length ≤ 2000 := Nat.le_trans (decText_len (bn : Int) (by omega) (by omega)) (by omega)
    generalize decText (bn : Int) = tb at *
    have q0 : (bs nm).toList.isEmpty = false := by rw [bs_toL]; simpa using n0
    have q1 : ((bs nm).toList == []) = false := by rw [bs_toL]; simpa using n0
    rw [← bs_size] at m0
    rw [← bs_size] at m1
    have s0 : ¬ 9223372036854775807 < (bs nm).size + 1 := by omega
    have s1 : ¬ 9223372036854775807 < (bs nm).size + 1 + (bs nl).size := by omega
    rw [← bs_size] at ltb
    have s2 : ¬ 9223372036854775807 < (bs nm).size + 1 + (bs nl).size + 1 := by omega
    have s3 : ¬ 9223372036854775807 < (bs nm).size + 1 + (bs nl).size + 1 + (bs tb).size := by omega
    have s4 : ¬ 9223372036854775807 < (bs nm).size + 1 + (bs nl).size + 1 + (bs tb).size + 2 := by omega
    have hres : bs nm ++ ⟨#[32]⟩ ++ bs nl ++ ⟨#[32]⟩ ++ bs tb ++ ⟨#[32, 42]⟩ = bs (joinL 32 [nm, nl, tb, [42]]) := by
      simp only [show (⟨#[32]⟩ : ByteArray) = bs [32] from rfl, show (⟨#[32, 42]⟩ : ByteArray) = bs [32, 42] from rfl, bs_append, joinL_cons, joinL_one]
      try simp
    have HRES := Lib.hid hres
    clear hres n0
    go_enter Try.func45, Try.ntmps45
    go_wp2_with (first | (go_at_call 98; (with_reducible refine (HC.out _).mono ?_); rintro e w0 ⟨rfl, rfl⟩) | (go_at_call 99; (with_reducible refine (HP.out _).mono ?_); rintro e w0 ⟨rfl, rfl⟩) | (go_at_call 77; (with_reducible refine (Htb.out _).mono ?_); rintro e w2 ⟨rfl, b2⟩; obtain ⟨c2, f2⟩ := bcell b2; have z2 := b2.size; (try simp at z2); have d2a := fun o => c2 (w.heap.size) o (by first | omega | (simp; done) | (simp; omega)); clear c2 f2))
    go_ret
    exact ⟨ret_str HRES.out, by (repeat (first | with_reducible assumption | with_reducible exact Below.refl _ _ | with_reducible refine Below.setCell ?_ (by first | omega | (simp; done) | (simp; omega)) _ | with_reducible refine Below.alloc ?_ (by first | omega | (simp; done) | (simp; omega)) _ | with_reducible refine Below.drew ?_ | (with_reducible refine Below.trans ?_ (Below.mono (by with_reducible assumption) (by first | omega | (simp; done) | (simp; omega)))) | (refine Below.trans ?_ (Below.mono (by assumption) (by first | omega | (simp; done) | (simp; omega))))))⟩
  · rw [locWx (by omega), storedW4]
    simp only [List.cons_append, List.nil_append, List.append_nil]
    have HC := Lib.hid (fun w => refOp_any 6 w)
    have n0 : nameAt opN 6 ≠ [] := by decide
    have m0 := nameOp_len 6
    generalize nameAt opN 6 = nm at *
    have HP := Lib.hid (fun w => refLoc_any 4 w)
    have m1 := nameLoc_len 4
    generalize nameAt locN 4 = nl at *
    have Hty := Lib.hid (fun w => refText_any (yn : Int) (by omega) (by omega) w)
    have lty : (decText (yn : Int)).length ≤ 2000 := Nat.le_trans (decText_len (yn : Int) (by omega) (by omega)) (by omega)
    generalize decText (yn : Int) = ty at *
    have q0 : (bs nm).toList.isEmpty = false := by rw [bs_toL]; simpa using n0
    have q1 : ((bs nm).toList == []) = false := by rw [bs_toL]; simpa using n0
    rw [← bs_size] at m0
    rw [← bs_size] at m1
    have s0 : ¬ 9223372036854775807 < (bs nm).size + 1 := by omega
    have s1 : ¬ 9223372036854775807 < (bs nm).size + 1 + (bs nl).size := by omega
    rw [← bs_size] at lty
    have s2 : ¬ 9223372036854775807 < (bs nm).size + 1 + (bs nl).size + 1 := by omega
    have s3 : ¬ 9223372036854775807 < (bs nm).size + 1 + (bs nl).size + 1 + (bs ty).size := by omega
    have s4 : ¬ 9223372036854775807 < (bs nm).size + 1 + (bs nl).size + 1 + (bs ty).size + 2 := by omega
    have hres : bs nm ++ ⟨#[32]⟩ ++ bs nl ++ ⟨#[32]⟩ ++ bs ty ++ ⟨#[32, 42]⟩ = bs (joinL 32 [nm, nl, ty, [42]]) := by
      simp only [show (⟨#[32]⟩ : ByteArray) = bs [32] from rfl, show (⟨#[32, 42]⟩ : ByteArray) = bs [32, 42] from rfl, bs_append, joinL_cons, joinL_one]
      try simp
    have HRES := Lib.hid hres
    clear hres n0
    go_enter Try.func45, Try.ntmps45
    go_wp2_with (first | (go_at_call 98; (with_reducible refine (HC.out _).mono ?_); rintro e w0 ⟨rfl, rfl⟩) | (go_at_call 99; (with_reducible refine (HP.out _).mono ?_); rintro e w0 ⟨rfl, rfl⟩) | (go_at_call 77; (with_reducible refine (Hty.out _).mono ?_); rintro e w2 ⟨rfl, b2⟩; obtain ⟨c2, f2⟩ := bcell b2; have z2 := b2.size; (try simp at z2); have d2a := fun o => c2 (w.heap.size) o (by first | omega | (simp; done) | (simp; omega)); clear c2 f2))
    go_ret
    exact ⟨ret_str HRES.out, by (repeat (first | with_reducible assumption | with_reducible exact Below.refl _ _ | with_reducible refine Below.setCell ?_ (by first | omega | (simp; done) | (simp; omega)) _ | with_reducible refine Below.alloc ?_ (by first | omega | (simp; done) | (simp; omega)) _ | with_reducible refine Below.drew ?_ | (with_reducible refine Below.trans ?_ (Below.mono (by with_reducible assumption) (by first | omega | (simp; done) | (simp; omega)))) | (refine Below.trans ?_ (Below.mono (by assumption) (by first | omega | (simp; done) | (simp; omega))))))⟩
  · rw [locWx ⟨h.1, h.2.1⟩, storedWx h]
    have q5 : (lk == 5) = false := by simpa using h.1
    have q6 : (lk == 6) = false := by simpa using h.2.1
    have q3 : (lk == 3) = false := by simpa using h.2.2.1
    have q4 : (lk == 4) = false := by simpa using h.2.2.2
    clear h
    simp only [List.cons_append, List.nil_append, List.append_nil]
    have HC := Lib.hid (fun w => refOp_any 6 w)
    have n0 : nameAt opN 6 ≠ [] := by decide
    have m0 := nameOp_len 6
    generalize nameAt opN 6 = nm at *
    have HP := Lib.hid (fun w => refLoc_any lk w)
    have m1 := nameLoc_len lk
    generalize nameAt locN lk = nl at *
    have q0 : (bs nm).toList.isEmpty = false := by rw [bs_toL]; simpa using n0
    have q1 : ((bs nm).toList == []) = false := by rw [bs_toL]; simpa using n0
    rw [← bs_size] at m0
    rw [← bs_size] at m1
    have s0 : ¬ 9223372036854775807 < (bs nm).size + 1 := by omega
    have s1 : ¬ 9223372036854775807 < (bs nm).size + 1 + (bs nl).size := by omega
    have s2 : ¬ 9223372036854775807 < (bs nm).size + 1 + (bs nl).size + 2 := by omega
    have hres : bs nm ++ ⟨#[32]⟩ ++ bs nl ++ ⟨#[32, 42]⟩ = bs (joinL 32 [nm, nl, [42]]) := by
      simp only [show (⟨#[32]⟩ : ByteArray) = bs [32] from rfl, show (⟨#[32, 42]⟩ : ByteArray) = bs [32, 42] from rfl, bs_append, joinL_cons, joinL_one]
      try simp
    have HRES := Lib.hid hres
    clear hres n0
    go_enter Try.func45, Try.ntmps45
    go_wp2_with (first | (go_at_call 98; (with_reducible refine (HC.out _).mono ?_); rintro e w0 ⟨rfl, rfl⟩) | (go_at_call 99; (with_reducible refine (HP.out _).mono ?_); rintro e w0 ⟨rfl, rfl⟩))
    go_ret
    exact ⟨ret_str HRES.out, by (repeat (first | with_reducible assumption | with_reducible exact Below.refl _ _ | with_reducible refine Below.setCell ?_ (by first | omega | (simp; done) | (simp; omega)) _ | with_reducible refine Below.alloc ?_ (by first | omega | (simp; done) | (simp; omega)) _ | with_reducible refine Below.drew ?_ | (with_reducible refine Below.trans ?_ (Below.mono (by with_reducible assumption) (by first | omega | (simp; done) | (simp; omega)))) | (refine Below.trans ?_ (Below.mono (by assumption) (by first | omega | (simp; done) | (simp; omega))))))⟩
set_option maxRecDepth 100000 in
set_option maxHeartbeats 16000000 in
theorem refText36_1 (lock lk ls lt old new vn : Int) (pe : Pe) (ba ya : Option Addr) (bn bc yn yc : Nat) (hlock : i64 lock) (hls : i64 ls) (hlt : i64 lt) (hold : i64 old) (hnew : i64 new) (hvn : i64 vn) (hpe : pe.en.ad.fits) (hbn : bn ≤ 1000000) (hyn : yn ≤ 1000000) (w : World) :
    Calls Try.prog 45 #[.agg #[.int .i64 1, .int .i64 lock, .int .i64 lk, .int .i64 ls, .int .i64 lt, .int .i64 old, .int .i64 new, .int .i64 vn, .bool pe.en.ad.v6, .int .u64 pe.en.ad.hi, .int .u64 pe.en.ad.lo, .int .i64 pe.en.port, .bool pe.came, .int .i64 pe.since, .int .i64 pe.pts, .int .i64 pe.at_, .int .i64 pe.ping, .int .i64 pe.work, .slice ba bn bc, .slice ya yn yc, .bool false]] w fun r w' => r = .returned (.string (bs (joinL 32 ([nameAt opN 1] ++ [decText lock])))) ∧ Below w.heap.size w w' := by
  simp only [List.cons_append, List.nil_append]
  have HC := Lib.hid (fun w => refOp_any 1 w)
  have n0 : nameAt opN 1 ≠ [] := by decide
  have m0 := nameOp_len 1
  generalize nameAt opN 1 = nm at *
  have Htk := Lib.hid (fun w => refText_any lock hlock.1 hlock.2 w)
  have ltk : (decText lock).length ≤ 2000 := Nat.le_trans (decText_len lock hlock.1 hlock.2) (by omega)
  generalize decText lock = tk at *
  have q0 : (bs nm).toList.isEmpty = false := by rw [bs_toL]; simpa using n0
  have q1 : ((bs nm).toList == []) = false := by rw [bs_toL]; simpa using n0
  rw [← bs_size] at m0
  rw [← bs_size] at ltk
  have s0 : ¬ 9223372036854775807 < (bs nm).size + 1 := by omega
  have s1 : ¬ 9223372036854775807 < (bs nm).size + 1 + (bs tk).size := by omega
  have hres : bs nm ++ ⟨#[32]⟩ ++ bs tk = bs (joinL 32 [nm, tk]) := by
    simp only [show (⟨#[32]⟩ : ByteArray) = bs [32] from rfl, show (⟨#[32, 42]⟩ : ByteArray) = bs [32, 42] from rfl, bs_append, joinL_cons, joinL_one]
    try simp
  have HRES := Lib.hid hres
  clear hres n0
  go_enter Try.func45, Try.ntmps45
  go_wp2_with (first | (go_at_call 98; (with_reducible refine (HC.out _).mono ?_); rintro e w0 ⟨rfl, rfl⟩) | (go_at_call 77; (with_reducible refine (Htk.out _).mono ?_); rintro e w1 ⟨rfl, b1⟩; obtain ⟨c1, f1⟩ := bcell b1; have z1 := b1.size; (try simp at z1); have d1a := fun o => c1 (w.heap.size) o (by first | omega | (simp; done) | (simp; omega)); clear c1 f1))
  go_ret
  exact ⟨ret_str HRES.out, by (repeat (first | with_reducible assumption | with_reducible exact Below.refl _ _ | with_reducible refine Below.setCell ?_ (by first | omega | (simp; done) | (simp; omega)) _ | with_reducible refine Below.alloc ?_ (by first | omega | (simp; done) | (simp; omega)) _ | with_reducible refine Below.drew ?_ | (with_reducible refine Below.trans ?_ (Below.mono (by with_reducible assumption) (by first | omega | (simp; done) | (simp; omega)))) | (refine Below.trans ?_ (Below.mono (by assumption) (by first | omega | (simp; done) | (simp; omega))))))⟩
set_option maxRecDepth 100000 in
set_option maxHeartbeats 16000000 in
theorem refText36_2 (lock lk ls lt old new vn : Int) (pe : Pe) (ba ya : Option Addr) (bn bc yn yc : Nat) (hlock : i64 lock) (hls : i64 ls) (hlt : i64 lt) (hold : i64 old) (hnew : i64 new) (hvn : i64 vn) (hpe : pe.en.ad.fits) (hbn : bn ≤ 1000000) (hyn : yn ≤ 1000000) (w : World) :
    Calls Try.prog 45 #[.agg #[.int .i64 2, .int .i64 lock, .int .i64 lk, .int .i64 ls, .int .i64 lt, .int .i64 old, .int .i64 new, .int .i64 vn, .bool pe.en.ad.v6, .int .u64 pe.en.ad.hi, .int .u64 pe.en.ad.lo, .int .i64 pe.en.port, .bool pe.came, .int .i64 pe.since, .int .i64 pe.pts, .int .i64 pe.at_, .int .i64 pe.ping, .int .i64 pe.work, .slice ba bn bc, .slice ya yn yc, .bool false]] w fun r w' => r = .returned (.string (bs (joinL 32 ([nameAt opN 2] ++ [decText lock])))) ∧ Below w.heap.size w w' := by
  simp only [List.cons_append, List.nil_append]
  have HC := Lib.hid (fun w => refOp_any 2 w)
  have n0 : nameAt opN 2 ≠ [] := by decide
  have m0 := nameOp_len 2
  generalize nameAt opN 2 = nm at *
  have Htk := Lib.hid (fun w => refText_any lock hlock.1 hlock.2 w)
  have ltk : (decText lock).length ≤ 2000 := Nat.le_trans (decText_len lock hlock.1 hlock.2) (by omega)
  generalize decText lock = tk at *
  have q0 : (bs nm).toList.isEmpty = false := by rw [bs_toL]; simpa using n0
  have q1 : ((bs nm).toList == []) = false := by rw [bs_toL]; simpa using n0
  rw [← bs_size] at m0
  rw [← bs_size] at ltk
  have s0 : ¬ 9223372036854775807 < (bs nm).size + 1 := by omega
  have s1 : ¬ 9223372036854775807 < (bs nm).size + 1 + (bs tk).size := by omega
  have hres : bs nm ++ ⟨#[32]⟩ ++ bs tk = bs (joinL 32 [nm, tk]) := by
    simp only [show (⟨#[32]⟩ : ByteArray) = bs [32] from rfl, show (⟨#[32, 42]⟩ : ByteArray) = bs [32, 42] from rfl, bs_append, joinL_cons, joinL_one]
    try simp
  have HRES := Lib.hid hres
  clear hres n0
  go_enter Try.func45, Try.ntmps45
  go_wp2_with (first | (go_at_call 98; (with_reducible refine (HC.out _).mono ?_); rintro e w0 ⟨rfl, rfl⟩) | (go_at_call 77; (with_reducible refine (Htk.out _).mono ?_); rintro e w1 ⟨rfl, b1⟩; obtain ⟨c1, f1⟩ := bcell b1; have z1 := b1.size; (try simp at z1); have d1a := fun o => c1 (w.heap.size) o (by first | omega | (simp; done) | (simp; omega)); clear c1 f1))
  go_ret
  exact ⟨ret_str HRES.out, by (repeat (first | with_reducible assumption | with_reducible exact Below.refl _ _ | with_reducible refine Below.setCell ?_ (by first | omega | (simp; done) | (simp; omega)) _ | with_reducible refine Below.alloc ?_ (by first | omega | (simp; done) | (simp; omega)) _ | with_reducible refine Below.drew ?_ | (with_reducible refine Below.trans ?_ (Below.mono (by with_reducible assumption) (by first | omega | (simp; done) | (simp; omega)))) | (refine Below.trans ?_ (Below.mono (by assumption) (by first | omega | (simp; done) | (simp; omega))))))⟩
set_option maxRecDepth 100000 in
set_option maxHeartbeats 16000000 in
theorem refText36_3 (lock lk ls lt old new vn : Int) (pe : Pe) (ba ya : Option Addr) (bn bc yn yc : Nat) (hlock : i64 lock) (hls : i64 ls) (hlt : i64 lt) (hold : i64 old) (hnew : i64 new) (hvn : i64 vn) (hpe : pe.en.ad.fits) (hbn : bn ≤ 1000000) (hyn : yn ≤ 1000000) (w : World) :
    Calls Try.prog 45 #[.agg #[.int .i64 3, .int .i64 lock, .int .i64 lk, .int .i64 ls, .int .i64 lt, .int .i64 old, .int .i64 new, .int .i64 vn, .bool pe.en.ad.v6, .int .u64 pe.en.ad.hi, .int .u64 pe.en.ad.lo, .int .i64 pe.en.port, .bool pe.came, .int .i64 pe.since, .int .i64 pe.pts, .int .i64 pe.at_, .int .i64 pe.ping, .int .i64 pe.work, .slice ba bn bc, .slice ya yn yc, .bool false]] w fun r w' => r = .returned (.string (bs (joinL 32 ([nameAt opN 3] ++ [decText lock])))) ∧ Below w.heap.size w w' := by
  simp only [List.cons_append, List.nil_append]
  have HC := Lib.hid (fun w => refOp_any 3 w)
  have n0 : nameAt opN 3 ≠ [] := by decide
  have m0 := nameOp_len 3
  generalize nameAt opN 3 = nm at *
  have Htk := Lib.hid (fun w => refText_any lock hlock.1 hlock.2 w)
  have ltk : (decText lock).length ≤ 2000 := Nat.le_trans (decText_len lock hlock.1 hlock.2) (by omega)
  generalize decText lock = tk at *
  have q0 : (bs nm).toList.isEmpty = false := by rw [bs_toL]; simpa using n0
  have q1 : ((bs nm).toList == []) = false := by rw [bs_toL]; simpa using n0
  rw [← bs_size] at m0
  rw [← bs_size] at ltk
  have s0 : ¬ 9223372036854775807 < (bs nm).size + 1 := by omega
  have s1 : ¬ 9223372036854775807 < (bs nm).size + 1 + (bs tk).size := by omega
  have hres : bs nm ++ ⟨#[32]⟩ ++ bs tk = bs (joinL 32 [nm, tk]) := by
    simp only [show (⟨#[32]⟩ : ByteArray) = bs [32] from rfl, show (⟨#[32, 42]⟩ : ByteArray) = bs [32, 42] from rfl, bs_append, joinL_cons, joinL_one]
    try simp
  have HRES := Lib.hid hres
  clear hres n0
  go_enter Try.func45, Try.ntmps45
  go_wp2_with (first | (go_at_call 98; (with_reducible refine (HC.out _).mono ?_); rintro e w0 ⟨rfl, rfl⟩) | (go_at_call 77; (with_reducible refine (Htk.out _).mono ?_); rintro e w1 ⟨rfl, b1⟩; obtain ⟨c1, f1⟩ := bcell b1; have z1 := b1.size; (try simp at z1); have d1a := fun o => c1 (w.heap.size) o (by first | omega | (simp; done) | (simp; omega)); clear c1 f1))
  go_ret
  exact ⟨ret_str HRES.out, by (repeat (first | with_reducible assumption | with_reducible exact Below.refl _ _ | with_reducible refine Below.setCell ?_ (by first | omega | (simp; done) | (simp; omega)) _ | with_reducible refine Below.alloc ?_ (by first | omega | (simp; done) | (simp; omega)) _ | with_reducible refine Below.drew ?_ | (with_reducible refine Below.trans ?_ (Below.mono (by with_reducible assumption) (by first | omega | (simp; done) | (simp; omega)))) | (refine Below.trans ?_ (Below.mono (by assumption) (by first | omega | (simp; done) | (simp; omega))))))⟩
set_option maxRecDepth 100000 in
set_option maxHeartbeats 16000000 in
theorem refText36_4 (lock lk ls lt old new vn : Int) (pe : Pe) (ba ya : Option Addr) (bn bc yn yc : Nat) (hlock : i64 lock) (hls : i64 ls) (hlt : i64 lt) (hold : i64 old) (hnew : i64 new) (hvn : i64 vn) (hpe : pe.en.ad.fits) (hbn : bn ≤ 1000000) (hyn : yn ≤ 1000000) (w : World) :
    Calls Try.prog 45 #[.agg #[.int .i64 4, .int .i64 lock, .int .i64 lk, .int .i64 ls, .int .i64 lt, .int .i64 old, .int .i64 new, .int .i64 vn, .bool pe.en.ad.v6, .int .u64 pe.en.ad.hi, .int .u64 pe.en.ad.lo, .int .i64 pe.en.port, .bool pe.came, .int .i64 pe.since, .int .i64 pe.pts, .int .i64 pe.at_, .int .i64 pe.ping, .int .i64 pe.work, .slice ba bn bc, .slice ya yn yc, .bool false]] w fun r w' => r = .returned (.string (bs (joinL 32 ([nameAt opN 4] ++ [decText lock])))) ∧ Below w.heap.size w w' := by
  simp only [List.cons_append, List.nil_append]
  have HC := Lib.hid (fun w => refOp_any 4 w)
  have n0 : nameAt opN 4 ≠ [] := by decide
  have m0 := nameOp_len 4
  generalize nameAt opN 4 = nm at *
  have Htk := Lib.hid (fun w => refText_any lock hlock.1 hlock.2 w)
  have ltk : (decText lock).length ≤ 2000 := Nat.le_trans (decText_len lock hlock.1 hlock.2) (by omega)
  generalize decText lock = tk at *
  have q0 : (bs nm).toList.isEmpty = false := by rw [bs_toL]; simpa using n0
  have q1 : ((bs nm).toList == []) = false := by rw [bs_toL]; simpa using n0
  rw [← bs_size] at m0
  rw [← bs_size] at ltk
  have s0 : ¬ 9223372036854775807 < (bs nm).size + 1 := by omega
  have s1 : ¬ 9223372036854775807 < (bs nm).size + 1 + (bs tk).size := by omega
  have hres : bs nm ++ ⟨#[32]⟩ ++ bs tk = bs (joinL 32 [nm, tk]) := by
    simp only [show (⟨#[32]⟩ : ByteArray) = bs [32] from rfl, show (⟨#[32, 42]⟩ : ByteArray) = bs [32, 42] from rfl, bs_append, joinL_cons, joinL_one]
    try simp
  have HRES := Lib.hid hres
  clear hres n0
  go_enter Try.func45, Try.ntmps45
  go_wp2_with (first | (go_at_call 98; (with_reducible refine (HC.out _).mono ?_); rintro e w0 ⟨rfl, rfl⟩) | (go_at_call 77; (with_reducible refine (Htk.out _).mono ?_); rintro e w1 ⟨rfl, b1⟩; obtain ⟨c1, f1⟩ := bcell b1; have z1 := b1.size; (try simp at z1); have d1a := fun o => c1 (w.heap.size) o (by first | omega | (simp; done) | (simp; omega)); clear c1 f1))
  go_ret
  exact ⟨ret_str HRES.out, by (repeat (first | with_reducible assumption | with_reducible exact Below.refl _ _ | with_reducible refine Below.setCell ?_ (by first | omega | (simp; done) | (simp; omega)) _ | with_reducible refine Below.alloc ?_ (by first | omega | (simp; done) | (simp; omega)) _ | with_reducible refine Below.drew ?_ | (with_reducible refine Below.trans ?_ (Below.mono (by with_reducible assumption) (by first | omega | (simp; done) | (simp; omega)))) | (refine Below.trans ?_ (Below.mono (by assumption) (by first | omega | (simp; done) | (simp; omega))))))⟩
set_option maxRecDepth 100000 in
set_option maxHeartbeats 16000000 in
theorem refText36_8 (lock lk ls lt old new vn : Int) (pe : Pe) (ba ya : Option Addr) (bn bc yn yc : Nat) (hlock : i64 lock) (hls : i64 ls) (hlt : i64 lt) (hold : i64 old) (hnew : i64 new) (hvn : i64 vn) (hpe : pe.en.ad.fits) (hbn : bn ≤ 1000000) (hyn : yn ≤ 1000000) (w : World) :
    Calls Try.prog 45 #[.agg #[.int .i64 8, .int .i64 lock, .int .i64 lk, .int .i64 ls, .int .i64 lt, .int .i64 old, .int .i64 new, .int .i64 vn, .bool pe.en.ad.v6, .int .u64 pe.en.ad.hi, .int .u64 pe.en.ad.lo, .int .i64 pe.en.port, .bool pe.came, .int .i64 pe.since, .int .i64 pe.pts, .int .i64 pe.at_, .int .i64 pe.ping, .int .i64 pe.work, .slice ba bn bc, .slice ya yn yc, .bool false]] w fun r w' => r = .returned (.string (bs (joinL 32 ([nameAt opN 8])))) ∧ Below w.heap.size w w' := by
  have HC := Lib.hid (fun w => refOp_any 8 w)
  have n0 : nameAt opN 8 ≠ [] := by decide
  have m0 := nameOp_len 8
  generalize nameAt opN 8 = nm at *
  have q0 : (bs nm).toList.isEmpty = false := by rw [bs_toL]; simpa using n0
  have q1 : ((bs nm).toList == []) = false := by rw [bs_toL]; simpa using n0
  rw [← bs_size] at m0
  have hres : bs nm = bs (joinL 32 [nm]) := by
    simp only [show (⟨#[32]⟩ : ByteArray) = bs [32] from rfl, show (⟨#[32, 42]⟩ : ByteArray) = bs [32, 42] from rfl, bs_append, joinL_cons, joinL_one]
    try simp
  have HRES := Lib.hid hres
  clear hres n0
  go_enter Try.func45, Try.ntmps45
  go_wp2_with (first | (go_at_call 98; (with_reducible refine (HC.out _).mono ?_); rintro e w0 ⟨rfl, rfl⟩))
  go_ret
  exact ⟨ret_str HRES.out, by (repeat (first | with_reducible assumption | with_reducible exact Below.refl _ _ | with_reducible refine Below.setCell ?_ (by first | omega | (simp; done) | (simp; omega)) _ | with_reducible refine Below.alloc ?_ (by first | omega | (simp; done) | (simp; omega)) _ | with_reducible refine Below.drew ?_ | (with_reducible refine Below.trans ?_ (Below.mono (by with_reducible assumption) (by first | omega | (simp; done) | (simp; omega)))) | (refine Below.trans ?_ (Below.mono (by assumption) (by first | omega | (simp; done) | (simp; omega))))))⟩
set_option maxRecDepth 100000 in
set_option maxHeartbeats 16000000 in
theorem refText36_5 (lock lk ls lt old new vn : Int) (pe : Pe) (ba ya : Option Addr) (bn bc yn yc : Nat) (hlock : i64 lock) (hls : i64 ls) (hlt : i64 lt) (hold : i64 old) (hnew : i64 new) (hvn : i64 vn) (hpe : pe.en.ad.fits) (hbn : bn ≤ 1000000) (hyn : yn ≤ 1000000) (w : World) :
    Calls Try.prog 45 #[.agg #[.int .i64 5, .int .i64 lock, .int .i64 lk, .int .i64 ls, .int .i64 lt, .int .i64 old, .int .i64 new, .int .i64 vn, .bool pe.en.ad.v6, .int .u64 pe.en.ad.hi, .int .u64 pe.en.ad.lo, .int .i64 pe.en.port, .bool pe.came, .int .i64 pe.since, .int .i64 pe.pts, .int .i64 pe.at_, .int .i64 pe.ping, .int .i64 pe.work, .slice ba bn bc, .slice ya yn yc, .bool false]] w fun r w' => r = .returned (.string (bs (joinL 32 ([nameAt opN 5] ++ locW lk ls lt)))) ∧ Below w.heap.size w w' := by
  rcases (show lk = 5 ∨ lk = 6 ∨ (lk ≠ 5 ∧ lk ≠ 6) by omega) with rfl | rfl | h
  · rw [locW5]
    simp only [List.cons_append, List.nil_append]
    have HC := Lib.hid (fun w => refOp_any 5 w)
    have n0 : nameAt opN 5 ≠ [] := by decide
    have m0 := nameOp_len 5
    generalize nameAt opN 5 = nm at *
    have HP := Lib.hid (fun w => refLoc_any 5 w)
    have m1 := nameLoc_len 5
    generalize nameAt locN 5 = nl at *
    have Hts := Lib.hid (fun w => refText_any ls hls.1 hls.2 w)
    have lts : (decText ls).length ≤ 2000 := Nat.le_trans (decText_len ls hls.1 hls.2) (by omega)
    generalize decText ls = ts at *
    have q0 : (bs nm).toList.isEmpty = false := by rw [bs_toL]; simpa using n0
    have q1 : ((bs nm).toList == []) = false := by rw [bs_toL]; simpa using n0
    rw [← bs_size] at m0
    rw [← bs_size] at m1
    have s0 : ¬ 9223372036854775807 < (bs nm).size + 1 := by omega
    have s1 : ¬ 9223372036854775807 < (bs nm).size + 1 + (bs nl).size := by omega
    rw [← bs_size] at lts
    have s2 : ¬ 9223372036854775807 < (bs nm).size + 1 + (bs nl).size + 1 := by omega
    have s3 : ¬ 9223372036854775807 < (bs nm).size + 1 + (bs nl).size + 1 + (bs ts).size := by omega
    have hres : bs nm ++ ⟨#[32]⟩ ++ bs nl ++ ⟨#[32]⟩ ++ bs ts = bs (joinL 32 [nm, nl, ts]) := by
      simp only [show (⟨#[32]⟩ : ByteArray) = bs [32] from rfl, show (⟨#[32, 42]⟩ : ByteArray) = bs [32, 42] from rfl, bs_append, joinL_cons, joinL_one]
      try simp
    have HRES := Lib.hid hres
    clear hres n0
    go_enter Try.func45, Try.ntmps45
    go_wp2_with (first | (go_at_call 98; (with_reducible refine (HC.out _).mono ?_); rintro e w0 ⟨rfl, rfl⟩) | (go_at_call 99; (with_reducible refine (HP.out _).mono ?_); rintro e w0 ⟨rfl, rfl⟩) | (go_at_call 77; (with_reducible refine (Hts.out _).mono ?_); rintro e w2 ⟨rfl, b2⟩; obtain ⟨c2, f2⟩ := bcell b2; have z2 := b2.size; (try simp at z2); have d2a := fun o => c2 (w.heap.size) o (by first | omega | (simp; done) | (simp; omega)); clear c2 f2))
    go_ret
    exact ⟨ret_str HRES.out, by (repeat (first | with_reducible assumption | with_reducible exact Below.refl _ _ | with_reducible refine Below.setCell ?_ (by first | omega | (simp; done) | (simp; omega)) _ | with_reducible refine Below.alloc ?_ (by first | omega | (simp; done) | (simp; omega)) _ | with_reducible refine Below.drew ?_ | (with_reducible refine Below.trans ?_ (Below.mono (by with_reducible assumption) (by first | omega | (simp; done) | (simp; omega)))) | (refine Below.trans ?_ (Below.mono (by assumption) (by first | omega | (simp; done) | (simp; omega))))))⟩
  · rw [locW6]
    simp only [List.cons_append, List.nil_append]
    have HC := Lib.hid (fun w => refOp_any 5 w)
    have n0 : nameAt opN 5 ≠ [] := by decide
    have m0 := nameOp_len 5
    generalize nameAt opN 5 = nm at *
    have HP := Lib.hid (fun w => refLoc_any 6 w)
    have m1 := nameLoc_len 6
    generalize nameAt locN 6 = nl at *
    have Hts := Lib.hid (fun w => refText_any ls hls.1 hls.2 w)
    have lts : (decText ls).length ≤ 2000 := Nat.le_trans (decText_len ls hls.1 hls.2) (by omega)
    generalize decText ls = ts at *
    have Htt := Lib.hid (fun w => refText_any lt hlt.1 hlt.2 w)
    have ltt : (decText lt).length ≤ 2000 := Nat.le_trans (decText_len lt hlt.1 hlt.2) (by omega)
    generalize decText lt = tt at *
    have q0 : (bs nm).toList.isEmpty = false := by rw [bs_toL]; simpa using n0
    have q1 : ((bs nm).toList == []) = false := by rw [bs_toL]; simpa using n0
    rw [← bs_size] at m0
    rw [← bs_size] at m1
    have s0 : ¬ 9223372036854775807 < (bs nm).size + 1 := by omega
    have s1 : ¬ 9223372036854775807 < (bs nm).size + 1 + (bs nl).size := by omega
    rw [← bs_size] at lts
    have s2 : ¬ 9223372036854775807 < (bs nm).size + 1 + (bs nl).size + 1 := by omega
    have s3 : ¬ 9223372036854775807 < (bs nm).size + 1 + (bs nl).size + 1 + (bs ts).size := by omega
    rw [← bs_size] at ltt
    have s4 : ¬ 9223372036854775807 < (bs nm).size + 1 + (bs nl).size + 1 + (bs ts).size + 1 := by omega
    have s5 : ¬ 9223372036854775807 < (bs nm).size + 1 + (bs nl).size + 1 + (bs ts).size + 1 + (bs tt).size := by omega
    have hres : bs nm ++ ⟨#[32]⟩ ++ bs nl ++ ⟨#[32]⟩ ++ bs ts ++ ⟨#[32]⟩ ++ bs tt = bs (joinL 32 [nm, nl, ts, tt]) := by
      simp only [show (⟨#[32]⟩ : ByteArray) = bs [32] from rfl, show (⟨#[32, 42]⟩ : ByteArray) = bs [32, 42] from rfl, bs_append, joinL_cons, joinL_one]
      try simp
    have HRES := Lib.hid hres
    clear hres n0
    go_enter Try.func45, Try.ntmps45
    go_wp2_with (first | (go_at_call 98; (with_reducible refine (HC.out _).mono ?_); rintro e w0 ⟨rfl, rfl⟩) | (go_at_call 99; (with_reducible refine (HP.out _).mono ?_); rintro e w0 ⟨rfl, rfl⟩) | (go_at_call 77; (with_reducible refine (Hts.out _).mono ?_); rintro e w2 ⟨rfl, b2⟩; obtain ⟨c2, f2⟩ := bcell b2; have z2 := b2.size; (try simp at z2); have d2a := fun o => c2 (w.heap.size) o (by first | omega | (simp; done) | (simp; omega)); clear c2 f2) | (go_at_call 77; (with_reducible refine (Htt.out _).mono ?_); rintro e w3 ⟨rfl, b3⟩; obtain ⟨c3, f3⟩ := bcell b3; have z3 := b3.size; (try simp at z3); have d3a := fun o => c3 (w.heap.size) o (by first | omega | (simp; done) | (simp; omega)); clear c3 f3))
    go_ret
    exact ⟨ret_str HRES.out, by (repeat (first | with_reducible assumption | with_reducible exact Below.refl _ _ | with_reducible refine Below.setCell ?_ (by first | omega | (simp; done) | (simp; omega)) _ | with_reducible refine Below.alloc ?_ (by first | omega | (simp; done) | (simp; omega)) _ | with_reducible refine Below.drew ?_ | (with_reducible refine Below.trans ?_ (Below.mono (by with_reducible assumption) (by first | omega | (simp; done) | (simp; omega)))) | (refine Below.trans ?_ (Below.mono (by assumption) (by first | omega | (simp; done) | (simp; omega))))))⟩
  · rw [locWx h]
    have q5 : (lk == 5) = false := by simpa using h.1
    have q6 : (lk == 6) = false := by simpa using h.2
    clear h
    simp only [List.cons_append, List.nil_append]
    have HC := Lib.hid (fun w => refOp_any 5 w)
    have n0 : nameAt opN 5 ≠ [] := by decide
    have m0 := nameOp_len 5
    generalize nameAt opN 5 = nm at *
    have HP := Lib.hid (fun w => refLoc_any lk w)
    have m1 := nameLoc_len lk
    generalize nameAt locN lk = nl at *
    have q0 : (bs nm).toList.isEmpty = false := by rw [bs_toL]; simpa using n0
    have q1 : ((bs nm).toList == []) = false := by rw [bs_toL]; simpa using n0
    rw [← bs_size] at m0
    rw [← bs_size] at m1
    have s0 : ¬ 9223372036854775807 < (bs nm).size + 1 := by omega
    have s1 : ¬ 9223372036854775807 < (bs nm).size + 1 + (bs nl).size := by omega
    have hres : bs nm ++ ⟨#[32]⟩ ++ bs nl = bs (joinL 32 [nm, nl]) := by
      simp only [show (⟨#[32]⟩ : ByteArray) = bs [32] from rfl, show (⟨#[32, 42]⟩ : ByteArray) = bs [32, 42] from rfl, bs_append, joinL_cons, joinL_one]
      try simp
    have HRES := Lib.hid hres
    clear hres n0
    go_enter Try.func45, Try.ntmps45
    go_wp2_with (first | (go_at_call 98; (with_reducible refine (HC.out _).mono ?_); rintro e w0 ⟨rfl, rfl⟩) | (go_at_call 99; (with_reducible refine (HP.out _).mono ?_); rintro e w0 ⟨rfl, rfl⟩))
    go_ret
    exact ⟨ret_str HRES.out, by (repeat (first | with_reducible assumption | with_reducible exact Below.refl _ _ | with_reducible refine Below.setCell ?_ (by first | omega | (simp; done) | (simp; omega)) _ | with_reducible refine Below.alloc ?_ (by first | omega | (simp; done) | (simp; omega)) _ | with_reducible refine Below.drew ?_ | (with_reducible refine Below.trans ?_ (Below.mono (by with_reducible assumption) (by first | omega | (simp; done) | (simp; omega)))) | (refine Below.trans ?_ (Below.mono (by assumption) (by first | omega | (simp; done) | (simp; omega))))))⟩
set_option maxRecDepth 100000 in
set_option maxHeartbeats 16000000 in
theorem refText36_7 (lock lk ls lt old new vn : Int) (pe : Pe) (ba ya : Option Addr) (bn bc yn yc : Nat) (hlock : i64 lock) (hls : i64 ls) (hlt : i64 lt) (hold : i64 old) (hnew : i64 new) (hvn : i64 vn) (hpe : pe.en.ad.fits) (hbn : bn ≤ 1000000) (hyn : yn ≤ 1000000) (w : World) :
    Calls Try.prog 45 #[.agg #[.int .i64 7, .int .i64 lock, .int .i64 lk, .int .i64 ls, .int .i64 lt, .int .i64 old, .int .i64 new, .int .i64 vn, .bool pe.en.ad.v6, .int .u64 pe.en.ad.hi, .int .u64 pe.en.ad.lo, .int .i64 pe.en.port, .bool pe.came, .int .i64 pe.since, .int .i64 pe.pts, .int .i64 pe.at_, .int .i64 pe.ping, .int .i64 pe.work, .slice ba bn bc, .slice ya yn yc, .bool false]] w fun r w' => r = .returned (.string (bs (joinL 32 ([nameAt opN 7] ++ locW lk ls lt ++ [decText old, decText new])))) ∧ Below w.heap.size w w' := by
  rcases (show lk = 5 ∨ lk = 6 ∨ (lk ≠ 5 ∧ lk ≠ 6) by omega) with rfl | rfl | h
  · rw [locW5]
    simp only [List.cons_append, List.nil_append]
    have HC := Lib.hid (fun w => refOp_any 7 w)
    have n0 : nameAt opN 7 ≠ [] := by decide
    have m0 := nameOp_len 7
    generalize nameAt opN 7 = nm at *
    have HP := Lib.hid (fun w => refLoc_any 5 w)
    have m1 := nameLoc_len 5
    generalize nameAt locN 5 = nl at *
    have Hts := Lib.hid (fun w => refText_any ls hls.1 hls.2 w)
    have lts : (decText ls).length ≤ 2000 := Nat.le_trans (decText_len ls hls.1 hls.2) (by omega)
    generalize decText ls = ts at *
    have Htd := Lib.hid (fun w => refText_any old hold.1 hold.2 w)
    have ltd : (decText old).length ≤ 2000 := Nat.le_trans (decText_len old hold.1 hold.2) (by omega)
    generalize decText old = td at *
    have Htw := Lib.hid (fun w => refText_any new hnew.1 hnew.2 w)
    have ltw : (decText new).length ≤ 2000 := Nat.le_trans (decText_len new hnew.1 hnew.2) (by omega)
    generalize decText new = tw at *
    have q0 : (bs nm).toList.isEmpty = false := by rw [bs_toL]; simpa using n0
    have q1 : ((bs nm).toList == []) = false := by rw [bs_toL]; simpa using n0
    rw [← bs_size] at m0
    rw [← bs_size] at m1
    have s0 : ¬ 9223372036854775807 < (bs nm).size + 1 := by omega
    have s1 : ¬ 9223372036854775807 < (bs nm).size + 1 + (bs nl).size := by omega
    rw [← bs_size] at lts
    have s2 : ¬ 9223372036854775807 < (bs nm).size + 1 + (bs nl).size + 1 := by omega
    have s3 : ¬ 9223372036854775807 < (bs nm).size + 1 + (bs nl).size + 1 + (bs ts).size := by omega
    rw [← bs_size] at ltd
    have s4 : ¬ 9223372036854775807 < (bs nm).size + 1 + (bs nl).size + 1 + (bs ts).size + 1 := by omega
    have s5 : ¬ 9223372036854775807 < (bs nm).size + 1 + (bs nl).size + 1 + (bs ts).size + 1 + (bs td).size := by omega
    rw [← bs_size] at ltw
    have s6 : ¬ 9223372036854775807 < (bs nm).size + 1 + (bs nl).size + 1 + (bs ts).size + 1 + (bs td).size + 1 := by omega
    have s7 : ¬ 9223372036854775807 < (bs nm).size + 1 + (bs nl).size + 1 + (bs ts).size + 1 + (bs td).size + 1 + (bs tw).size := by omega
    have hres : bs nm ++ ⟨#[32]⟩ ++ bs nl ++ ⟨#[32]⟩ ++ bs ts ++ ⟨#[32]⟩ ++ bs td ++ ⟨#[32]⟩ ++ bs tw = bs (joinL 32 [nm, nl, ts, td, tw]) := by
      simp only [show (⟨#[32]⟩ : ByteArray) = bs [32] from rfl, show (⟨#[32, 42]⟩ : ByteArray) = bs [32, 42] from rfl, bs_append, joinL_cons, joinL_one]
      try simp
    have HRES := Lib.hid hres
    clear hres n0
    go_enter Try.func45, Try.ntmps45
    go_upto_region 23 with (first | (go_at_call 98; (with_reducible refine (HC.out _).mono ?_); rintro e w0 ⟨rfl, rfl⟩) | (go_at_call 99; (with_reducible refine (HP.out _).mono ?_); rintro e w0 ⟨rfl, rfl⟩) | (go_at_call 77; (with_reducible refine (Hts.out _).mono ?_); rintro e w2 ⟨rfl, b2⟩; obtain ⟨c2, f2⟩ := bcell b2; have z2 := b2.size; (try simp at z2); have d2a := fun o => c2 (w.heap.size) o (by first | omega | (simp; done) | (simp; omega)); clear c2 f2))
    go_name_world WWx hWWx
    have hA : BlockIs WWx w.heap.size [.int .i64 7, .int .i64 lock, .int .i64 5, .int .i64 ls, .int .i64 lt, .int .i64 old, .int .i64 new, .int .i64 vn, .bool pe.en.ad.v6, .int .u64 pe.en.ad.hi, .int .u64 pe.en.ad.lo, .int .i64 pe.en.port, .bool pe.came, .int .i64 pe.since, .int .i64 pe.pts, .int .i64 pe.at_, .int .i64 pe.ping, .int .i64 pe.work, .slice ba bn bc, .slice ya yn yc, .bool false] 60 := by
      subst hWWx
      exact (BlockIs.new w [.int .i64 7, .int .i64 lock, .int .i64 5, .int .i64 ls, .int .i64 lt, .int .i64 old, .int .i64 new, .int .i64 vn, .bool pe.en.ad.v6, .int .u64 pe.en.ad.hi, .int .u64 pe.en.ad.lo, .int .i64 pe.en.port, .bool pe.came, .int .i64 pe.since, .int .i64 pe.pts, .int .i64 pe.at_, .int .i64 pe.ping, .int .i64 pe.work, .slice ba bn bc, .slice ya yn yc, .bool false] _).below b2
    have bWx : Below w.heap.size w WWx := by subst hWWx; (repeat (first | with_reducible assumption | with_reducible exact Below.refl _ _ | with_reducible refine Below.setCell ?_ (by first | omega | (simp; done) | (simp; omega)) _ | with_reducible refine Below.alloc ?_ (by first | omega | (simp; done) | (simp; omega)) _ | with_reducible refine Below.drew ?_ | (with_reducible refine Below.trans ?_ (Below.mono (by with_reducible assumption) (by first | omega | (simp; done) | (simp; omega)))) | (refine Below.trans ?_ (Below.mono (by assumption) (by first | omega | (simp; done) | (simp; omega))))))
    clear hWWx
    have hQ := BlockIs.ext hA
    have e15 := fun Y => (hQ _ ⟨Y, rfl⟩).cell (i := 5) rfl
    have e16 := fun Y => (hQ _ ⟨Y, rfl⟩).cell (i := 6) rfl
    have e30 := fun Y => (hQ _ ⟨Y, rfl⟩).cell (i := 20) rfl
    try simp only [List.append_eq, List.cons_append, List.nil_append]
    refine wp_region_ext (by kernel_rfl) (by kernel_rfl) ?_
    repeat (go_big_quiet_step ((first | (go_at_call 77; with_reducible exact qe (Htd.out _)) | (go_at_call 77; with_reducible exact qe (Htw.out _)))))
    refine wpQuiet_nil ?_
    first | (intro _ hw'; obtain ⟨x, hw''⟩ := hw'; subst hw'') | intro x
    have e40 := e30 x
    go_wp2_with fail
    go_ret
    exact ⟨ret_str HRES.out, bWx.trans ((ext_below _ _).mono bWx.size)⟩
  · rw [locW6]
    simp only [List.cons_append, List.nil_append]
    have HC := Lib.hid (fun w => refOp_any 7 w)
    have n0 : nameAt opN 7 ≠ [] := by decide
    have m0 := nameOp_len 7
    generalize nameAt opN 7 = nm at *
    have HP := Lib.hid (fun w => refLoc_any 6 w)
    have m1 := nameLoc_len 6
    generalize nameAt locN 6 = nl at *
    have Hts := Lib.hid (fun w => refText_any ls hls.1 hls.2 w)
    have lts : (decText ls).length ≤ 2000 := Nat.le_trans (decText_len ls hls.1 hls.2) (by omega)
    generalize decText ls = ts at *
    have Htt := Lib.hid (fun w => refText_any lt hlt.1 hlt.2 w)
    have ltt : (decText lt).length ≤ 2000 := Nat.le_trans (decText_len lt hlt.1 hlt.2) (by omega)
    generalize decText lt = tt at *
    have Htd := Lib.hid (fun w => refText_any old hold.1 hold.2 w)
    have ltd : (decText old).length ≤ 2000 := Nat.le_trans (decText_len old hold.1 hold.2) (by omega)
    generalize decText old = td at *
    have Htw := Lib.hid (fun w => refText_any new hnew.1 hnew.2 w)
    have ltw : (decText new).length ≤ 2000 := Nat.le_trans (decText_len new hnew.1 hnew.2) (by omega)
    generalize decText new = tw at *
    have q0 : (bs nm).toList.isEmpty = false := by rw [bs_toL]; simpa using n0
    have q1 : ((bs nm).toList == []) = false := by rw [bs_toL]; simpa using n0
    rw [← bs_size] at m0
    rw [← bs_size] at m1
    have s0 : ¬ 9223372036854775807 < (bs nm).size + 1 := by omega
    have s1 : ¬ 9223372036854775807 < (bs nm).size + 1 + (bs nl).size := by omega
    rw [← bs_size] at lts
    have s2 : ¬ 9223372036854775807 < (bs nm).size + 1 + (bs nl).size + 1 := by omega
    have s3 : ¬ 9223372036854775807 < (bs nm).size + 1 + (bs nl).size + 1 + (bs ts).size := by omega
    rw [← bs_size] at ltt
    have s4 : ¬ 9223372036854775807 < (bs nm).size + 1 + (bs nl).size + 1 + (bs ts).size + 1 := by omega
    have s5 : ¬ 9223372036854775807 < (bs nm).size + 1 + (bs nl).size + 1 + (bs ts).size + 1 + (bs tt).size := by omega
    rw [← bs_size] at ltd
    have s6 : ¬ 9223372036854775807 < (bs nm).size + 1 + (bs nl).size + 1 + (bs ts).size + 1 + (bs tt).size + 1 := by omega
    have s7 : ¬ 9223372036854775807 < (bs nm).size + 1 + (bs nl).size + 1 + (bs ts).size + 1 + (bs tt).size + 1 + (bs td).size := by omega
    rw [← bs_size] at ltw
    have s8 : ¬ 9223372036854775807 < (bs nm).size + 1 + (bs nl).size + 1 + (bs ts).size + 1 + (bs tt).size + 1 + (bs td).size + 1 := by omega
    have s9 : ¬ 9223372036854775807 < (bs nm).size + 1 + (bs nl).size + 1 + (bs ts).size + 1 + (bs tt).size + 1 + (bs td).size + 1 + (bs tw).size := by omega
    have hres : bs nm ++ ⟨#[32]⟩ ++ bs nl ++ ⟨#[32]⟩ ++ bs ts ++ ⟨#[32]⟩ ++ bs tt ++ ⟨#[32]⟩ ++ bs td ++ ⟨#[32]⟩ ++ bs tw = bs (joinL 32 [nm, nl, ts, tt, td, tw]) := by
      simp only [show (⟨#[32]⟩ : ByteArray) = bs [32] from rfl, show (⟨#[32, 42]⟩ : ByteArray) = bs [32, 42] from rfl, bs_append, joinL_cons, joinL_one]
      try simp
    have HRES := Lib.hid hres
    clear hres n0
    go_enter Try.func45, Try.ntmps45
    go_upto_region 23 with (first | (go_at_call 98; (with_reducible refine (HC.out _).mono ?_); rintro e w0 ⟨rfl, rfl⟩) | (go_at_call 99; (with_reducible refine (HP.out _).mono ?_); rintro e w0 ⟨rfl, rfl⟩) | (go_at_call 77; (with_reducible refine (Hts.out _).mono ?_); rintro e w2 ⟨rfl, b2⟩; obtain ⟨c2, f2⟩ := bcell b2; have z2 := b2.size; (try simp at z2); have d2a := fun o => c2 (w.heap.size) o (by first | omega | (simp; done) | (simp; omega)); clear c2 f2) | (go_at_call 77; (with_reducible refine (Htt.out _).mono ?_); rintro e w3 ⟨rfl, b3⟩; obtain ⟨c3, f3⟩ := bcell b3; have z3 := b3.size; (try simp at z3); have d3a := fun o => c3 (w.heap.size) o (by first | omega | (simp; done) | (simp; omega)); clear c3 f3))
    go_name_world WWx hWWx
    have hA : BlockIs WWx w.heap.size [.int .i64 7, .int .i64 lock, .int .i64 6, .int .i64 ls, .int .i64 lt, .int .i64 old, .int .i64 new, .int .i64 vn, .bool pe.en.ad.v6, .int .u64 pe.en.ad.hi, .int .u64 pe.en.ad.lo, .int .i64 pe.en.port, .bool pe.came, .int .i64 pe.since, .int .i64 pe.pts, .int .i64 pe.at_, .int .i64 pe.ping, .int .i64 pe.work, .slice ba bn bc, .slice ya yn yc, .bool false] 60 := by
      subst hWWx
      exact ((BlockIs.new w [.int .i64 7, .int .i64 lock, .int .i64 6, .int .i64 ls, .int .i64 lt, .int .i64 old, .int .i64 new, .int .i64 vn, .bool pe.en.ad.v6, .int .u64 pe.en.ad.hi, .int .u64 pe.en.ad.lo, .int .i64 pe.en.port, .bool pe.came, .int .i64 pe.since, .int .i64 pe.pts, .int .i64 pe.at_, .int .i64 pe.ping, .int .i64 pe.work, .slice ba bn bc, .slice ya yn yc, .bool false] _).below b2).below b3
    have bWx : Below w.heap.size w WWx := by subst hWWx; (repeat (first | with_reducible assumption | with_reducible exact Below.refl _ _ | with_reducible refine Below.setCell ?_ (by first | omega | (simp; done) | (simp; omega)) _ | with_reducible refine Below.alloc ?_ (by first | omega | (simp; done) | (simp; omega)) _ | with_reducible refine Below.drew ?_ | (with_reducible refine Below.trans ?_ (Below.mono (by with_reducible assumption) (by first | omega | (simp; done) | (simp; omega)))) | (refine Below.trans ?_ (Below.mono (by assumption) (by first | omega | (simp; done) | (simp; omega))))))
    clear hWWx
    have hQ := BlockIs.ext hA
    have e15 := fun Y => (hQ _ ⟨Y, rfl⟩).cell (i := 5) rfl
    have e16 := fun Y => (hQ _ ⟨Y, rfl⟩).cell (i := 6) rfl
    have e30 := fun Y => (hQ _ ⟨Y, rfl⟩).cell (i := 20) rfl
    try simp only [List.append_eq, List.cons_append, List.nil_append]
    refine wp_region_ext (by kernel_rfl) (by kernel_rfl) ?_
    repeat (go_big_quiet_step ((first | (go_at_call 77; with_reducible exact qe (Htd.out _)) | (go_at_call 77; with_reducible exact qe (Htw.out _)))))
    refine wpQuiet_nil ?_
    first | (intro _ hw'; obtain ⟨x, hw''⟩ := hw'; subst hw'') | intro x
    have e40 := e30 x
    go_wp2_with fail
    go_ret
    exact ⟨ret_str HRES.out, bWx.trans ((ext_below _ _).mono bWx.size)⟩
  · rw [locWx h]
    have q5 : (lk == 5) = false := by simpa using h.1
    have q6 : (lk == 6) = false := by simpa using h.2
    clear h
    simp only [List.cons_append, List.nil_append]
    have HC := Lib.hid (fun w => refOp_any 7 w)
    have n0 : nameAt opN 7 ≠ [] := by decide
    have m0 := nameOp_len 7
    generalize nameAt opN 7 = nm at *
    have HP := Lib.hid (fun w => refLoc_any lk w)
    have m1 := nameLoc_len lk
    generalize nameAt locN lk = nl at *
    have Htd := Lib.hid (fun w => refText_any old hold.1 hold.2 w)
    have ltd : (decText old).length ≤ 2000 := Nat.le_trans (decText_len old hold.1 hold.2) (by omega)
    generalize decText old = td at *
    have Htw := Lib.hid (fun w => refText_any new hnew.1 hnew.2 w)
    have ltw : (decText new).length ≤ 2000 := Nat.le_trans (decText_len new hnew.1 hnew.2) (by omega)
    generalize decText new = tw at *
    have q0 : (bs nm).toList.isEmpty = false := by rw [bs_toL]; simpa using n0
    have q1 : ((bs nm).toList == []) = false := by rw [bs_toL]; simpa using n0
    rw [← bs_size] at m0
    rw [← bs_size] at m1
    have s0 : ¬ 9223372036854775807 < (bs nm).size + 1 := by omega
    have s1 : ¬ 9223372036854775807 < (bs nm).size + 1 + (bs nl).size := by omega
    rw [← bs_size] at ltd
    have s2 : ¬ 9223372036854775807 < (bs nm).size + 1 + (bs nl).size + 1 := by omega
    have s3 : ¬ 9223372036854775807 < (bs nm).size + 1 + (bs nl).size + 1 + (bs td).size := by omega
    rw [← bs_size] at ltw
    have s4 : ¬ 9223372036854775807 < (bs nm).size + 1 + (bs nl).size + 1 + (bs td).size + 1 := by omega
    have s5 : ¬ 9223372036854775807 < (bs nm).size + 1 + (bs nl).size + 1 + (bs td).size + 1 + (bs tw).size := by omega
    have hres : bs nm ++ ⟨#[32]⟩ ++ bs nl ++ ⟨#[32]⟩ ++ bs td ++ ⟨#[32]⟩ ++ bs tw = bs (joinL 32 [nm, nl, td, tw]) := by
      simp only [show (⟨#[32]⟩ : ByteArray) = bs [32] from rfl, show (⟨#[32, 42]⟩ : ByteArray) = bs [32, 42] from rfl, bs_append, joinL_cons, joinL_one]
      try simp
    have HRES := Lib.hid hres
    clear hres n0
    go_enter Try.func45, Try.ntmps45
    go_upto_region 23 with (first | (go_at_call 98; (with_reducible refine (HC.out _).mono ?_); rintro e w0 ⟨rfl, rfl⟩) | (go_at_call 99; (with_reducible refine (HP.out _).mono ?_); rintro e w0 ⟨rfl, rfl⟩))
    go_name_world WWx hWWx
    have hA : BlockIs WWx w.heap.size [.int .i64 7, .int .i64 lock, .int .i64 lk, .int .i64 ls, .int .i64 lt, .int .i64 old, .int .i64 new, .int .i64 vn, .bool pe.en.ad.v6, .int .u64 pe.en.ad.hi, .int .u64 pe.en.ad.lo, .int .i64 pe.en.port, .bool pe.came, .int .i64 pe.since, .int .i64 pe.pts, .int .i64 pe.at_, .int .i64 pe.ping, .int .i64 pe.work, .slice ba bn bc, .slice ya yn yc, .bool false] 60 := by
      subst hWWx
      exact BlockIs.new w [.int .i64 7, .int .i64 lock, .int .i64 lk, .int .i64 ls, .int .i64 lt, .int .i64 old, .int .i64 new, .int .i64 vn, .bool pe.en.ad.v6, .int .u64 pe.en.ad.hi, .int .u64 pe.en.ad.lo, .int .i64 pe.en.port, .bool pe.came, .int .i64 pe.since, .int .i64 pe.pts, .int .i64 pe.at_, .int .i64 pe.ping, .int .i64 pe.work, .slice ba bn bc, .slice ya yn yc, .bool false] _
    have bWx : Below w.heap.size w WWx := by subst hWWx; (repeat (first | with_reducible assumption | with_reducible exact Below.refl _ _ | with_reducible refine Below.setCell ?_ (by first | omega | (simp; done) | (simp; omega)) _ | with_reducible refine Below.alloc ?_ (by first | omega | (simp; done) | (simp; omega)) _ | with_reducible refine Below.drew ?_ | (with_reducible refine Below.trans ?_ (Below.mono (by with_reducible assumption) (by first | omega | (simp; done) | (simp; omega)))) | (refine Below.trans ?_ (Below.mono (by assumption) (by first | omega | (simp; done) | (simp; omega))))))
    clear hWWx
    have hQ := BlockIs.ext hA
    have e15 := fun Y => (hQ _ ⟨Y, rfl⟩).cell (i := 5) rfl
    have e16 := fun Y => (hQ _ ⟨Y, rfl⟩).cell (i := 6) rfl
    have e30 := fun Y => (hQ _ ⟨Y, rfl⟩).cell (i := 20) rfl
    try simp only [List.append_eq, List.cons_append, List.nil_append]
    refine wp_region_ext (by kernel_rfl) (by kernel_rfl) ?_
    repeat (go_big_quiet_step ((first | (go_at_call 77; with_reducible exact qe (Htd.out _)) | (go_at_call 77; with_reducible exact qe (Htw.out _)))))
    refine wpQuiet_nil ?_
    first | (intro _ hw'; obtain ⟨x, hw''⟩ := hw'; subst hw'') | intro x
    have e40 := e30 x
    go_wp2_with fail
    go_ret
    exact ⟨ret_str HRES.out, bWx.trans ((ext_below _ _).mono bWx.size)⟩
set_option maxRecDepth 100000 in
set_option maxHeartbeats 16000000 in
theorem refText36_6 (lock lk ls lt old new vn : Int) (pe : Pe) (ba ya : Option Addr) (bn bc yn yc : Nat) (hlock : i64 lock) (hls : i64 ls) (hlt : i64 lt) (hold : i64 old) (hnew : i64 new) (hvn : i64 vn) (hpe : pe.en.ad.fits) (hbn : bn ≤ 1000000) (hyn : yn ≤ 1000000) (w : World) :
    Calls Try.prog 45 #[.agg #[.int .i64 6, .int .i64 lock, .int .i64 lk, .int .i64 ls, .int .i64 lt, .int .i64 old, .int .i64 new, .int .i64 vn, .bool pe.en.ad.v6, .int .u64 pe.en.ad.hi, .int .u64 pe.en.ad.lo, .int .i64 pe.en.port, .bool pe.came, .int .i64 pe.since, .int .i64 pe.pts, .int .i64 pe.at_, .int .i64 pe.ping, .int .i64 pe.work, .slice ba bn bc, .slice ya yn yc, .bool false]] w fun r w' => r = .returned (.string (bs (joinL 32 ([nameAt opN 6] ++ locW lk ls lt ++ storedW lk vn pe.en bn yn)))) ∧ Below w.heap.size w w' := by
  rcases (show lk = 5 ∨ lk = 6 ∨ lk = 3 ∨ lk = 4 ∨ (lk ≠ 5 ∧ lk ≠ 6 ∧ lk ≠ 3 ∧ lk ≠ 4) by omega) with rfl | rfl | rfl | rfl | h
  · rw [locW5, storedW5]
    simp only [List.cons_append, List.nil_append, List.append_nil]
    have HC := Lib.hid (fun w => refOp_any 6 w)
    have n0 : nameAt opN 6 ≠ [] := by decide
    have m0 := nameOp_len 6
    generalize nameAt opN 6 = nm at *
    have HP := Lib.hid (fun w => refLoc_any 5 w)
    have m1 := nameLoc_len 5
    generalize nameAt locN 5 = nl at *
    have Hts := Lib.hid (fun w => refText_any ls hls.1 hls.2 w)
    have lts : (decText ls).length ≤ 2000 := Nat.le_trans (decText_len ls hls.1 hls.2) (by omega)
    generalize decText ls = ts at *
    have Htn := Lib.hid (fun w => refText_any vn hvn.1 hvn.2 w)
    have ltn : (decText vn).length ≤ 2000 := Nat.le_trans (decText_len vn hvn.1 hvn.2) (by omega)
    generalize decText vn = tn at *
    have q0 : (bs nm).toList.isEmpty = false := by rw [bs_toL]; simpa using n0
    have q1 : ((bs nm).toList == []) = false := by rw [bs_toL]; simpa using n0
    rw [← bs_size] at m0
    rw [← bs_size] at m1
    have s0 : ¬ 9223372036854775807 < (bs nm).size + 1 := by omega
    have s1 : ¬ 9223372036854775807 < (bs nm).size + 1 + (bs nl).size := by omega
    rw [← bs_size] at lts
    have s2 : ¬ 9223372036854775807 < (bs nm).size + 1 + (bs nl).size + 1 := by omega
    have s3 : ¬ 9223372036854775807 < (bs nm).size + 1 + (bs nl).size + 1 + (bs ts).size := by omega
    rw [← bs_size] at ltn
    have s4 : ¬ 9223372036854775807 < (bs nm).size + 1 + (bs nl).size + 1 + (bs ts).size + 1 := by omega
    have s5 : ¬ 9223372036854775807 < (bs nm).size + 1 + (bs nl).size + 1 + (bs ts).size + 1 + (bs tn).size := by omega
    have hres : bs nm ++ ⟨#[32]⟩ ++ bs nl ++ ⟨#[32]⟩ ++ bs ts ++ ⟨#[32]⟩ ++ bs tn = bs (joinL 32 [nm, nl, ts, tn]) := by
      simp only [show (⟨#[32]⟩ : ByteArray) = bs [32] from rfl, show (⟨#[32, 42]⟩ : ByteArray) = bs [32, 42] from rfl, bs_append, joinL_cons, joinL_one]
      try simp
    have HRES := Lib.hid hres
    clear hres n0
    go_enter Try.func45, Try.ntmps45
    go_wp2_with (first | (go_at_call 98; (with_reducible refine (HC.out _).mono ?_); rintro e w0 ⟨rfl, rfl⟩) | (go_at_call 99; (with_reducible refine (HP.out _).mono ?_); rintro e w0 ⟨rfl, rfl⟩) | (go_at_call 77; (with_reducible refine (Hts.out _).mono ?_); rintro e w2 ⟨rfl, b2⟩; obtain ⟨c2, f2⟩ := bcell b2; have z2 := b2.size; (try simp at z2); have d2a := fun o => c2 (w.heap.size) o (by first | omega | (simp; done) | (simp; omega)); clear c2 f2) | (go_at_call 77; (with_reducible refine (Htn.out _).mono ?_); rintro e w3 ⟨rfl, b3⟩; obtain ⟨c3, f3⟩ := bcell b3; have z3 := b3.size; (try simp at z3); have d3a := fun o => c3 (w.heap.size) o (by first | omega | (simp; done) | (simp; omega)); clear c3 f3))
    go_ret
    exact ⟨ret_str HRES.out, by (repeat (first | with_reducible assumption | with_reducible exact Below.refl _ _ | with_reducible refine Below.setCell ?_ (by first | omega | (simp; done) | (simp; omega)) _ | with_reducible refine Below.alloc ?_ (by first | omega | (simp; done) | (simp; omega)) _ | with_reducible refine Below.drew ?_ | (with_reducible refine Below.trans ?_ (Below.mono (by with_reducible assumption) (by first | omega | (simp; done) | (simp; omega)))) | (refine Below.trans ?_ (Below.mono (by assumption) (by first | omega | (simp; done) | (simp; omega))))))⟩
  · rw [locW6, storedW6]
    simp only [List.cons_append, List.nil_append, List.append_nil]
    have HC := Lib.hid (fun w => refOp_any 6 w)
    have n0 : nameAt opN 6 ≠ [] := by decide
    have m0 := nameOp_len 6
    generalize nameAt opN 6 = nm at *
    have HP := Lib.hid (fun w => refLoc_any 6 w)
    have m1 := nameLoc_len 6
    generalize nameAt locN 6 = nl at *
    have Hts := Lib.hid (fun w => refText_any ls hls.1 hls.2 w)
    have lts : (decText ls).length ≤ 2000 := Nat.le_trans (decText_len ls hls.1 hls.2) (by omega)
    generalize decText ls = ts at *
    have Htt := Lib.hid (fun w => refText_any lt hlt.1 hlt.2 w)
    have ltt : (decText lt).length ≤ 2000 := Nat.le_trans (decText_len lt hlt.1 hlt.2) (by omega)
    generalize decText lt = tt at *
    have Hte := Lib.hid (fun w => refEnText_any pe.en hpe w)
    have lte : (enText pe.en).length ≤ 2000 := enText_len pe.en hpe
    generalize enText pe.en = te at *
    have q0 : (bs nm).toList.isEmpty = false := by rw [bs_toL]; simpa using n0
    have q1 : ((bs nm).toList == []) = false := by rw [bs_toL]; simpa using n0
    rw [← bs_size] at m0
    rw [← bs_size] at m1
    have s0 : ¬ 9223372036854775807 < (bs nm).size + 1 := by omega
    have s1 : ¬ 9223372036854775807 < (bs nm).size + 1 + (bs nl).size := by omega
    rw [← bs_size] at lts
    have s2 : ¬ 9223372036854775807 < (bs nm).size + 1 + (bs nl).size + 1 := by omega
    have s3 : ¬ 9223372036854775807 < (bs nm).size + 1 + (bs nl).size + 1 + (bs ts).size := by omega
    rw [← bs_size] at ltt
    have s4 : ¬ 9223372036854775807 < (bs nm).size + 1 + (bs nl).size + 1 + (bs ts).size + 1 := by omega
    have s5 : ¬ 9223372036854775807 < (bs nm).size + 1 + (bs nl).size + 1 + (bs ts).size + 1 + (bs tt).size := by omega
    rw [← bs_size] at lte
    have s6 : ¬ 9223372036854775807 < (bs nm).size + 1 + (bs nl).size + 1 + (bs ts).size + 1 + (bs tt).size + 1 := by omega
    have s7 : ¬ 9223372036854775807 < (bs nm).size + 1 + (bs nl).size + 1 + (bs ts).size + 1 + (bs tt).size + 1 + (bs te).size := by omega
    have hres : bs nm ++ ⟨#[32]⟩ ++ bs nl ++ ⟨#[32]⟩ ++ bs ts ++ ⟨#[32]⟩ ++ bs tt ++ ⟨#[32]⟩ ++ bs te = bs (joinL 32 [nm, nl, ts, tt, te]) := by
      simp only [show (⟨#[32]⟩ : ByteArray) = bs [32] from rfl, show (⟨#[32, 42]⟩ : ByteArray) = bs [32, 42] from rfl, bs_append, joinL_cons, joinL_one]
      try simp
    have HRES := Lib.hid hres
    clear hres n0
    go_enter Try.func45, Try.ntmps45
    go_wp2_with (first | (go_at_call 98; (with_reducible refine (HC.out _).mono ?_); rintro e w0 ⟨rfl, rfl⟩) | (go_at_call 99; (with_reducible refine (HP.out _).mono ?_); rintro e w0 ⟨rfl, rfl⟩) | (go_at_call 77; (with_reducible refine (Hts.out _).mono ?_); rintro e w2 ⟨rfl, b2⟩; obtain ⟨c2, f2⟩ := bcell b2; have z2 := b2.size; (try simp at z2); have d2a := fun o => c2 (w.heap.size) o (by first | omega | (simp; done) | (simp; omega)); clear c2 f2) | (go_at_call 77; (with_reducible refine (Htt.out _).mono ?_); rintro e w3 ⟨rfl, b3⟩; obtain ⟨c3, f3⟩ := bcell b3; have z3 := b3.size; (try simp at z3); have d3a := fun o => c3 (w.heap.size) o (by first | omega | (simp; done) | (simp; omega)); clear c3 f3) | (go_at_call 76; (with_reducible refine (Hte.out _).mono ?_); rintro e w4 ⟨rfl, b4⟩; obtain ⟨c4, f4⟩ := bcell b4; have z4 := b4.size; (try simp at z4); have d4a := fun o => c4 (w.heap.size) o (by first | omega | (simp; done) | (simp; omega)); clear c4 f4))
    go_ret
    exact ⟨ret_str HRES.out, by (repeat (first | with_reducible assumption | with_reducible exact Below.refl _ _ | with_reducible refine Below.setCell ?_ (by first | omega | (simp; done) | (simp; omega)) _ | with_reducible refine Below.alloc ?_ (by first | omega | (simp; done) | (simp; omega)) _ | with_reducible refine Below.drew ?_ | (with_reducible refine Below.trans ?_ (Below.mono (by with_reducible assumption) (by first | omega | (simp; done) | (simp; omega)))) | (refine Below.trans ?_ (Below.mono (by assumption) (by first | omega | (simp; done) | (simp; omega))))))⟩
  · rw [locWx (by omega), storedW3]
    simp only [List.cons_append, List.nil_append, List.append_nil]
    have HC := Lib.hid (fun w => refOp_any 6 w)
    have n0 : nameAt opN 6 ≠ [] := by decide
    have m0 := nameOp_len 6
    generalize nameAt opN 6 = nm at *
    have HP := Lib.hid (fun w => refLoc_any 3 w)
    have m1 := nameLoc_len 3
    generalize nameAt locN 3 = nl at *
    have Htb := Lib.hid (fun w => refText_any (bn : Int) (by omega) (by omega) w)
    have ltb : (decText (bn : Int)).length ≤ 2000 := Nat.le_trans (decText_len (bn : Int) (by omega) (by omega)) (by omega)
    generalize decText (bn : Int) = tb at *
    have q0 : (bs nm).toList.isEmpty = false := by rw [bs_toL]; simpa using n0
    have q1 : ((bs nm).toList == []) = false := by rw [bs_toL]; simpa using n0
    rw [← bs_size] at m0
    rw [← bs_size] at m1
    have s0 : ¬ 9223372036854775807 < (bs nm).size + 1 := by omega
    have s1 : ¬ 9223372036854775807 < (bs nm).size + 1 + (bs nl).size := by omega
    rw [← bs_size] at ltb
    have s2 : ¬ 9223372036854775807 < (bs nm).size + 1 + (bs nl).size + 1 := by omega
    have s3 : ¬ 9223372036854775807 < (bs nm).size + 1 + (bs nl).size + 1 + (bs tb).size := by omega
    have hres : bs nm ++ ⟨#[32]⟩ ++ bs nl ++ ⟨#[32]⟩ ++ bs tb = bs (joinL 32 [nm, nl, tb]) := by
      simp only [show (⟨#[32]⟩ : ByteArray) = bs [32] from rfl, show (⟨#[32, 42]⟩ : ByteArray) = bs [32, 42] from rfl, bs_append, joinL_cons, joinL_one]
      try simp
    have HRES := Lib.hid hres
    clear hres n0
    go_enter Try.func45, Try.ntmps45
    go_wp2_with (first | (go_at_call 98; (with_reducible refine (HC.out _).mono ?_); rintro e w0 ⟨rfl, rfl⟩) | (go_at_call 99; (with_reducible refine (HP.out _).mono ?_); rintro e w0 ⟨rfl, rfl⟩) | (go_at_call 77; (with_reducible refine (Htb.out _).mono ?_); rintro e w2 ⟨rfl, b2⟩; obtain ⟨c2, f2⟩ := bcell b2; have z2 := b2.size; (try simp at z2); have d2a := fun o => c2 (w.heap.size) o (by first | omega | (simp; done) | (simp; omega)); clear c2 f2))
    go_ret
    exact ⟨ret_str HRES.out, by (repeat (first | with_reducible assumption | with_reducible exact Below.refl _ _ | with_reducible refine Below.setCell ?_ (by first | omega | (simp; done) | (simp; omega)) _ | with_reducible refine Below.alloc ?_ (by first | omega | (simp; done) | (simp; omega)) _ | with_reducible refine Below.drew ?_ | (with_reducible refine Below.trans ?_ (Below.mono (by with_reducible assumption) (by first | omega | (simp; done) | (simp; omega)))) | (refine Below.trans ?_ (Below.mono (by assumption) (by first | omega | (simp; done) | (simp; omega))))))⟩
  · rw [locWx (by omega), storedW4]
    simp only [List.cons_append, List.nil_append, List.append_nil]
    have HC := Lib.hid (fun w => refOp_any 6 w)
    have n0 : nameAt opN 6 ≠ [] := by decide
    have m0 := nameOp_len 6
    generalize nameAt opN 6 = nm at *
    have HP := Lib.hid (fun w => refLoc_any 4 w)
    have m1 := nameLoc_len 4
    generalize nameAt locN 4 = nl at *
    have Hty := Lib.hid (fun w => refText_any (yn : Int) (by omega) (by omega) w)
    have lty : (decText (yn : Int)).length ≤ 2000 := Nat.le_trans (decText_len (yn : Int) (by omega) (by omega)) (by omega)
    generalize decText (yn : Int) = ty at *
    have q0 : (bs nm).toList.isEmpty = false := by rw [bs_toL]; simpa using n0
    have q1 : ((bs nm).toList == []) = false := by rw [bs_toL]; simpa using n0
    rw [← bs_size] at m0
    rw [← bs_size] at m1
    have s0 : ¬ 9223372036854775807 < (bs nm).size + 1 := by omega
    have s1 : ¬ 9223372036854775807 < (bs nm).size + 1 + (bs nl).size := by omega
    rw [← bs_size] at lty
    have s2 : ¬ 9223372036854775807 < (bs nm).size + 1 + (bs nl).size + 1 := by omega
    have s3 : ¬ 9223372036854775807 < (bs nm).size + 1 + (bs nl).size + 1 + (bs ty).size := by omega
    have hres : bs nm ++ ⟨#[32]⟩ ++ bs nl ++ ⟨#[32]⟩ ++ bs ty = bs (joinL 32 [nm, nl, ty]) := by
      simp only [show (⟨#[32]⟩ : ByteArray) = bs [32] from rfl, show (⟨#[32, 42]⟩ : ByteArray) = bs [32, 42] from rfl, bs_append, joinL_cons, joinL_one]
      try simp
    have HRES := Lib.hid hres
    clear hres n0
    go_enter Try.func45, Try.ntmps45
    go_wp2_with (first | (go_at_call 98; (with_reducible refine (HC.out _).mono ?_); rintro e w0 ⟨rfl, rfl⟩) | (go_at_call 99; (with_reducible refine (HP.out _).mono ?_); rintro e w0 ⟨rfl, rfl⟩) | (go_at_call 77; (with_reducible refine (Hty.out _).mono ?_); rintro e w2 ⟨rfl, b2⟩; obtain ⟨c2, f2⟩ := bcell b2; have z2 := b2.size; (try simp at z2); have d2a := fun o => c2 (w.heap.size) o (by first | omega | (simp; done) | (simp; omega)); clear c2 f2))
    go_ret
    exact ⟨ret_str HRES.out, by (repeat (first | with_reducible assumption | with_reducible exact Below.refl _ _ | with_reducible refine Below.setCell ?_ (by first | omega | (simp; done) | (simp; omega)) _ | with_reducible refine Below.alloc ?_ (by first | omega | (simp; done) | (simp; omega)) _ | with_reducible refine Below.drew ?_ | (with_reducible refine Below.trans ?_ (Below.mono (by with_reducible assumption) (by first | omega | (simp; done) | (simp; omega)))) | (refine Below.trans ?_ (Below.mono (by assumption) (by first | omega | (simp; done) | (simp; omega))))))⟩
  · rw [locWx ⟨h.1, h.2.1⟩, storedWx h]
    have q5 : (lk == 5) = false := by simpa using h.1
    have q6 : (lk == 6) = false := by simpa using h.2.1
    have q3 : (lk == 3) = false := by simpa using h.2.2.1
    have q4 : (lk == 4) = false := by simpa using h.2.2.2
    clear h
    simp only [List.cons_append, List.nil_append, List.append_nil]
    have HC := Lib.hid (fun w => refOp_any 6 w)
    have n0 : nameAt opN 6 ≠ [] := by decide
    have m0 := nameOp_len 6
    generalize nameAt opN 6 = nm at *
    have HP := Lib.hid (fun w => refLoc_any lk w)
    have m1 := nameLoc_len lk
    generalize nameAt locN lk = nl at *
    have q0 : (bs nm).toList.isEmpty = false := by rw [bs_toL]; simpa using n0
    have q1 : ((bs nm).toList == []) = false := by rw [bs_toL]; simpa using n0
    rw [← bs_size] at m0
    rw [← bs_size] at m1
    have s0 : ¬ 9223372036854775807 < (bs nm).size + 1 := by omega
    have s1 : ¬ 9223372036854775807 < (bs nm).size + 1 + (bs nl).size := by omega
    have hres : bs nm ++ ⟨#[32]⟩ ++ bs nl = bs (joinL 32 [nm, nl]) := by
      simp only [show (⟨#[32]⟩ : ByteArray) = bs [32] from rfl, show (⟨#[32, 42]⟩ : ByteArray) = bs [32, 42] from rfl, bs_append, joinL_cons, joinL_one]
      try simp
    have HRES := Lib.hid hres
    clear hres n0
    go_enter Try.func45, Try.ntmps45
    go_wp2_with (first | (go_at_call 98; (with_reducible refine (HC.out _).mono ?_); rintro e w0 ⟨rfl, rfl⟩) | (go_at_call 99; (with_reducible refine (HP.out _).mono ?_); rintro e w0 ⟨rfl, rfl⟩))
    go_ret
    exact ⟨ret_str HRES.out, by (repeat (first | with_reducible assumption | with_reducible exact Below.refl _ _ | with_reducible refine Below.setCell ?_ (by first | omega | (simp; done) | (simp; omega)) _ | with_reducible refine Below.alloc ?_ (by first | omega | (simp; done) | (simp; omega)) _ | with_reducible refine Below.drew ?_ | (with_reducible refine Below.trans ?_ (Below.mono (by with_reducible assumption) (by first | omega | (simp; done) | (simp; omega)))) | (refine Below.trans ?_ (Below.mono (by assumption) (by first | omega | (simp; done) | (simp; omega))))))⟩
end Go.Proofs.Ytnohkfbapibmdaa
