/- Texts put together: Rank, RankB, RankC. No condition. -/
import Derived.Test.YtppmjbnhghaffaaMix
import Derived.Test.YtppmjbnhghaffaaQ768469ebvdfs
import Derived.Test.YtppmjbnhghaffaaOrd
import Derived.Test.YtppmjbnhghaffaaQ957634qrlkoj
import Derived.Test.YtppmjbnhghaffaaQ668131zdrcan
import Derived.Test.YtppmjbnhghaffaaQa02d1egtjqlk
import Derived.Test.YtppmjbnhghaffaaQba21a9snclba
/- The contracts of rank and of its reference: who counts, who stands ahead of whom. Conditions: numbers are 64 bits. -/
namespace Go.Proofs.Ytppmjbnhghaffaa
open Go.RowKit
set_option linter.unusedSimpArgs false
set_option linter.unusedVariables false

def rkCounts (p : Pe) (by_ : Int) : Bool := if by_ = 1 then true else if by_ = 4 then true else if by_ = 2 then decide (0 < p.ping) else if by_ = 3 then decide (0 < p.work) else false
def rkKey (p : Pe) (s : Nat) : Nat := mixNet s (grOf p.en.ad)
def rkCmp (a b : Pe) (by_ : Int) (s : Nat) : Int := if by_ = 1 then cmpI (rkKey b s) (rkKey a s) else if by_ = 2 then cmpI a.ping b.ping else if by_ = 3 then cmpI b.work a.work else if by_ = 4 then cmpI a.since b.since else 0
def rkFull (a b : Pe) (by_ : Int) (s : Nat) : Int := orI [rkCmp a b by_ s, enCmp a.en b.en]
def rkAhead (a b : Pe) (by_ : Int) (s : Nat) : Bool := decide (1 ≤ by_) && (decide (by_ ≤ 4) && decide (rkFull a b by_ s < 0))
theorem rkKey_of {p : Pe} {s : Nat} : mixNet s (grOf p.en.ad) = rkKey p s := rfl
theorem rk_counts_any (p : Pe) (q : Int) (w : World) : Calls Try.prog 119 #[.agg #[.bool p.en.ad.v6, .int .u64 p.en.ad.hi, .int .u64 p.en.ad.lo, .int .i64 p.en.port, .bool p.came, .int .i64 p.since, .int .i64 p.pts, .int .i64 p.at_, .int .i64 p.ping, .int .i64 p.work], .int .i64 q] w fun e w' => e = .returned (.bool (rkCounts p q)) ∧ Below w.heap.size w w' := by
  unfold rkCounts
  by_cases h1 : q = 1
  · subst h1
    go_enter Try.func119, Try.ntmps119
    go_wp2_with fail
    go_ret
    refine ⟨rfl, ?_⟩
    (repeat (first | with_reducible assumption | with_reducible exact Below.refl _ _ | with_reducible refine Below.setCell ?_ (by first | omega | (simp; done) | (simp; omega)) _ | with_reducible refine Below.alloc ?_ (by first | omega | (simp; done) | (simp; omega)) _ | with_reducible refine Below.drew ?_ | (with_reducible refine Below.trans ?_ (Below.mono (by with_reducible assumption) (by first | omega | (simp; done) | (simp; omega)))) | (refine Below.trans ?_ (Below.mono (by assumption) (by first | omega | (simp; done) | (simp; omega))))))
  by_cases h4 : q = 4
  · subst h4
    go_enter Try.func119, Try.ntmps119
    go_wp2_with fail
    go_ret
    refine ⟨rfl, ?_⟩
    (repeat (first | with_reducible assumption | with_reducible exact Below.refl _ _ | with_reducible refine Below.setCell ?_ (by first | omega | (simp; done) | (simp; omega)) _ | with_reducible refine Below.alloc ?_ (by first | omega | (simp; done) | (simp; omega)) _ | with_reducible refine Below.drew ?_ | (with_reducible refine Below.trans ?_ (Below.mono (by with_reducible assumption) (by first | omega | (simp; done) | (simp; omega)))) | (refine Below.trans ?_ (Below.mono (by assumption) (by first | omega | (simp; done) | (simp; omega))))))
  by_cases h2 : q = 2
  · subst h2
    go_enter Try.func119, Try.ntmps119
    go_wp2_with fail
    go_ret
    refine ⟨rfl, ?_⟩
    (repeat (first | with_reducible assumption | with_reducible exact Below.refl _ _ | with_reducible refine Below.setCell ?_ (by first | omega | (simp; done) | (simp; omega)) _ | with_reducible refine Below.alloc ?_ (by first | omega | (simp; done) | (simp; omega)) _ | with_reducible refine Below.drew ?_ | (with_reducible refine Below.trans ?_ (Below.mono (by with_reducible assumption) (by first | omega | (simp; done) | (simp; omega)))) | (refine Below.trans ?_ (Below.mono (by assumption) (by first | omega | (simp; done) | (simp; omega))))))
  by_cases h3 : q = 3
  · subst h3
    go_enter Try.func119, Try.ntmps119
    go_wp2_with fail
    go_ret
    refine ⟨rfl, ?_⟩
    (repeat (first | with_reducible assumption | with_reducible exact Below.refl _ _ | with_reducible refine Below.setCell ?_ (by first | omega | (simp; done) | (simp; omega)) _ | with_reducible refine Below.alloc ?_ (by first | omega | (simp; done) | (simp; omega)) _ | with_reducible refine Below.drew ?_ | (with_reducible refine Below.trans ?_ (Below.mono (by with_reducible assumption) (by first | omega | (simp; done) | (simp; omega)))) | (refine Below.trans ?_ (Below.mono (by assumption) (by first | omega | (simp; done) | (simp; omega))))))
  · have e1 : (q == 1) = false := beq_eq_false_iff_ne.2 h1
    have e2 : (q == 2) = false := beq_eq_false_iff_ne.2 h2
    have e3 : (q == 3) = false := beq_eq_false_iff_ne.2 h3
    have e4 : (q == 4) = false := beq_eq_false_iff_ne.2 h4
    rw [if_neg h1, if_neg h4, if_neg h2, if_neg h3]
    clear h1 h2 h3 h4
    go_enter Try.func119, Try.ntmps119
    go_wp2_with fail
    go_ret
    refine ⟨rfl, ?_⟩
    (repeat (first | with_reducible assumption | with_reducible exact Below.refl _ _ | with_reducible refine Below.setCell ?_ (by first | omega | (simp; done) | (simp; omega)) _ | with_reducible refine Below.alloc ?_ (by first | omega | (simp; done) | (simp; omega)) _ | with_reducible refine Below.drew ?_ | (with_reducible refine Below.trans ?_ (Below.mono (by with_reducible assumption) (by first | omega | (simp; done) | (simp; omega)))) | (refine Below.trans ?_ (Below.mono (by assumption) (by first | omega | (simp; done) | (simp; omega))))))
theorem ref_counts_any (p : Pe) (q : Int) (w : World) : Calls Try.prog 122 #[.agg #[.bool p.en.ad.v6, .int .u64 p.en.ad.hi, .int .u64 p.en.ad.lo, .int .i64 p.en.port, .bool p.came, .int .i64 p.since, .int .i64 p.pts, .int .i64 p.at_, .int .i64 p.ping, .int .i64 p.work], .int .i64 q] w fun e w' => e = .returned (.bool (rkCounts p q)) ∧ Below w.heap.size w w' := by
  unfold rkCounts
  by_cases h1 : q = 1
  · subst h1
    go_enter Try.func122, Try.ntmps122
    go_wp2_with fail
    go_ret
    refine ⟨rfl, ?_⟩
    (repeat (first | with_reducible assumption | with_reducible exact Below.refl _ _ | with_reducible refine Below.setCell ?_ (by first | omega | (simp; done) | (simp; omega)) _ | with_reducible refine Below.alloc ?_ (by first | omega | (simp; done) | (simp; omega)) _ | with_reducible refine Below.drew ?_ | (with_reducible refine Below.trans ?_ (Below.mono (by with_reducible assumption) (by first | omega | (simp; done) | (simp; omega)))) | (refine Below.trans ?_ (Below.mono (by assumption) (by first | omega | (simp; done) | (simp; omega))))))
  by_cases h4 : q = 4
  · subst h4
    go_enter Try.func122, Try.ntmps122
    go_wp2_with fail
    go_ret
    refine ⟨rfl, ?_⟩
    (repeat (first | with_reducible assumption | with_reducible exact Below.refl _ _ | with_reducible refine Below.setCell ?_ (by first | omega | (simp; done) | (simp; omega)) _ | with_reducible refine Below.alloc ?_ (by first | omega | (simp; done) | (simp; omega)) _ | with_reducible refine Below.drew ?_ | (with_reducible refine Below.trans ?_ (Below.mono (by with_reducible assumption) (by first | omega | (simp; done) | (simp; omega)))) | (refine Below.trans ?_ (Below.mono (by assumption) (by first | omega | (simp; done) | (simp; omega))))))
  by_cases h2 : q = 2
  · subst h2
    cases hd : decide (0 < p.ping) with
    | true =>
      go_enter Try.func122, Try.ntmps122
      go_wp2_with fail
      go_ret
      refine ⟨rfl, ?_⟩
      (repeat (first | with_reducible assumption | with_reducible exact Below.refl _ _ | with_reducible refine Below.setCell ?_ (by first | omega | (simp; done) | (simp; omega)) _ | with_reducible refine Below.alloc ?_ (by first | omega | (simp; done) | (simp; omega)) _ | with_reducible refine Below.drew ?_ | (with_reducible refine Below.trans ?_ (Below.mono (by with_reducible assumption) (by first | omega | (simp; done) | (simp; omega)))) | (refine Below.trans ?_ (Below.mono (by assumption) (by first | omega | (simp; done) | (simp; omega))))))
    | false =>
      go_enter Try.func122, Try.ntmps122
      go_wp2_with fail
      go_ret
      refine ⟨rfl, ?_⟩
      (repeat (first | with_reducible assumption | with_reducible exact Below.refl _ _ | with_reducible refine Below.setCell ?_ (by first | omega | (simp; done) | (simp; omega)) _ | with_reducible refine Below.alloc ?_ (by first | omega | (simp; done) | (simp; omega)) _ | with_reducible refine Below.drew ?_ | (with_reducible refine Below.trans ?_ (Below.mono (by with_reducible assumption) (by first | omega | (simp; done) | (simp; omega)))) | (refine Below.trans ?_ (Below.mono (by assumption) (by first | omega | (simp; done) | (simp; omega))))))
  by_cases h3 : q = 3
  · subst h3
    go_enter Try.func122, Try.ntmps122
    go_wp2_with fail
    go_ret
    refine ⟨rfl, ?_⟩
    (repeat (first | with_reducible assumption | with_reducible exact Below.refl _ _ | with_reducible refine Below.setCell ?_ (by first | omega | (simp; done) | (simp; omega)) _ | with_reducible refine Below.alloc ?_ (by first | omega | (simp; done) | (simp; omega)) _ | with_reducible refine Below.drew ?_ | (with_reducible refine Below.trans ?_ (Below.mono (by with_reducible assumption) (by first | omega | (simp; done) | (simp; omega)))) | (refine Below.trans ?_ (Below.mono (by assumption) (by first | omega | (simp; done) | (simp; omega))))))
  · have e1 : (q == 1) = false := beq_eq_false_iff_ne.2 h1
    have e2 : (q == 2) = false := beq_eq_false_iff_ne.2 h2
    have e3 : (q == 3) = false := beq_eq_false_iff_ne.2 h3
    have e4 : (q == 4) = false := beq_eq_false_iff_ne.2 h4
    rw [if_neg h1, if_neg h4, if_neg h2, if_neg h3]
    clear h1 h2 h3 h4
    go_enter Try.func122, Try.ntmps122
    go_wp2_with fail
    go_ret
    refine ⟨rfl, ?_⟩
    (repeat (first | with_reducible assumption | with_reducible exact Below.refl _ _ | with_reducible refine Below.setCell ?_ (by first | omega | (simp; done) | (simp; omega)) _ | with_reducible refine Below.alloc ?_ (by first | omega | (simp; done) | (simp; omega)) _ | with_reducible refine Below.drew ?_ | (with_reducible refine Below.trans ?_ (Below.mono (by with_reducible assumption) (by first | omega | (simp; done) | (simp; omega)))) | (refine Below.trans ?_ (Below.mono (by assumption) (by first | omega | (simp; done) | (simp; omega))))))
theorem rk_key_any (p : Pe) (hf : p.fits) (s : Nat) (hs : s < 18446744073709551616) (w : World) : Calls Try.prog 188 #[.agg #[.bool p.en.ad.v6, .int .u64 p.en.ad.hi, .int .u64 p.en.ad.lo, .int .i64 p.en.port, .bool p.came, .int .i64 p.since, .int .i64 p.pts, .int .i64 p.at_, .int .i64 p.ping, .int .i64 p.work], .int .u64 s] w fun e w' => e = .returned (.int .u64 (rkKey p s)) ∧ Below w.heap.size w w' := by
  have h1 := fun w => grOf_any p.en.ad hf.1.1 w
  have h2 := fun w => mixNet_any s hs (grOf p.en.ad) (grOf_fits p.en.ad hf.1.1) w
  simp only [rkKey_of] at h2
  generalize grOf p.en.ad = gr at *
  have H1 := Lib.hid h1; have H2 := Lib.hid h2; clear h1 h2 hf
  go_enter Try.func188, Try.ntmps188
  go_wp2_with (first | (go_at_call 177; (with_reducible refine (H1.out _).mono ?_); rintro e w1 ⟨rfl, b1⟩; obtain ⟨c1, f1⟩ := bcell b1; have z1 := b1.size; (try simp at z1); have d1a := fun o => c1 (w.heap.size) o (by first | omega | (simp; done) | (simp; omega)); clear c1 f1) | (go_at_call 93; (with_reducible refine (H2.out _).mono ?_); rintro e w2 ⟨rfl, b2⟩; obtain ⟨c2, f2⟩ := bcell b2; have z2 := b2.size; (try simp at z2); have d2a := fun o => c2 (w.heap.size) o (by first | omega | (simp; done) | (simp; omega)); clear c2 f2))
  go_ret
  refine ⟨rfl, ?_⟩
  (repeat (first | with_reducible assumption | with_reducible exact Below.refl _ _ | with_reducible refine Below.setCell ?_ (by first | omega | (simp; done) | (simp; omega)) _ | with_reducible refine Below.alloc ?_ (by first | omega | (simp; done) | (simp; omega)) _ | with_reducible refine Below.drew ?_ | (with_reducible refine Below.trans ?_ (Below.mono (by with_reducible assumption) (by first | omega | (simp; done) | (simp; omega)))) | (refine Below.trans ?_ (Below.mono (by assumption) (by first | omega | (simp; done) | (simp; omega))))))
set_option maxRecDepth 100000 in
set_option maxHeartbeats 4000000 in
theorem rk_compare_any (a b : Pe) (fa : a.fits) (fb : b.fits) (q : Int) (s : Nat) (hs : s < 18446744073709551616) (w : World) :
    Calls Try.prog 172 #[.agg #[.bool a.en.ad.v6, .int .u64 a.en.ad.hi, .int .u64 a.en.ad.lo, .int .i64 a.en.port, .bool a.came, .int .i64 a.since, .int .i64 a.pts, .int .i64 a.at_, .int .i64 a.ping, .int .i64 a.work], .agg #[.bool b.en.ad.v6, .int .u64 b.en.ad.hi, .int .u64 b.en.ad.lo, .int .i64 b.en.port, .bool b.came, .int .i64 b.since, .int .i64 b.pts, .int .i64 b.at_, .int .i64 b.ping, .int .i64 b.work], .int .i64 q, .int .u64 s] w fun e w' => e = .returned (.int .i64 (rkCmp a b q s)) ∧ Below w.heap.size w w' := by
  unfold rkCmp
  by_cases h1 : q = 1
  · subst h1
    have k1 := Lib.hid (fun w => rk_key_any a fa s hs w)
    have k2 := Lib.hid (fun w => rk_key_any b fb s hs w)
    go_enter Try.func172, Try.ntmps172
    go_wp2_with fail
    go_name_world WWx hWWx
    have ex0 : ∀ Y, (ext WWx Y).cell? ⟨w.heap.size, 0, none⟩ = some (.bool a.en.ad.v6) := by subst hWWx; intro Y; exact (ext_cell _ Y (by first | omega | (simp; done) | (simp; omega))).trans (by first | (simp (disch := first | omega | (simp; omega)) [World.cell?_alloc_past, *]; done) | (simp (disch := first | omega | (simp; omega)) [World.cell?_setCell_far, World.cell?_alloc_past, *]; done) | (simp (disch := first | omega | (simp; omega)) [World.cell?_alloc_past, *]; rfl) | (simp (disch := first | omega | (simp; omega)) [World.cell?_setCell_far, World.cell?_alloc_past, *]; rfl) | (simp [go_sem, *]; done) | (simp (disch := first | omega | (simp; omega) | (simp [go_sem, *]; done)) [go_sem, World.cell?_setCell_far, World.cell?_alloc_past, *]; done))
    have ex1 : ∀ Y, (ext WWx Y).cell? ⟨w.heap.size, 1, none⟩ = some (.int .u64 a.en.ad.hi) := by subst hWWx; intro Y; exact (ext_cell _ Y (by first | omega | (simp; done) | (simp; omega))).trans (by first | (simp (disch := first | omega | (simp; omega)) [World.cell?_alloc_past, *]; done) | (simp (disch := first | omega | (simp; omega)) [World.cell?_setCell_far, World.cell?_alloc_past, *]; done) | (simp (disch := first | omega | (simp; omega)) [World.cell?_alloc_past, *]; rfl) | (simp (disch := first | omega | (simp; omega)) [World.cell?_setCell_far, World.cell?_alloc_past, *]; rfl) | (simp [go_sem, *]; done) | (simp (disch := first | omega | (simp; omega) | (simp [go_sem, *]; done)) [go_sem, World.cell?_setCell_far, World.cell?_alloc_past, *]; done))
    have ex2 : ∀ Y, (ext WWx Y).cell? ⟨w.heap.size, 2, none⟩ = some (.int .u64 a.en.ad.lo) := by subst hWWx; intro Y; exact (ext_cell _ Y (by first | omega | (simp; done) | (simp; omega))).trans (by first | (simp (disch := first | omega | (simp; omega)) [World.cell?_alloc_past, *]; done) | (simp (disch := first | omega | (simp; omega)) [World.cell?_setCell_far, World.cell?_alloc_past, *]; done) | (simp (disch := first | omega | (simp; omega)) [World.cell?_alloc_past, *]; rfl) | (simp (disch := first | omega | (simp; omega)) [World.cell?_setCell_far, World.cell?_alloc_past, *]; rfl) | (simp [go_sem, *]; done) | (simp (disch := first | omega | (simp; omega) | (simp [go_sem, *]; done)) [go_sem, World.cell?_setCell_far, World.cell?_alloc_past, *]; done))
    have ex3 : ∀ Y, (ext WWx Y).cell? ⟨w.heap.size, 3, none⟩ = some (.int .i64 a.en.port) := by subst hWWx; intro Y; exact (ext_cell _ Y (by first | omega | (simp; done) | (simp; omega))).trans (by first | (simp (disch := first | omega | (simp; omega)) [World.cell?_alloc_past, *]; done) | (simp (disch := first | omega | (simp; omega)) [World.cell?_setCell_far, World.cell?_alloc_past, *]; done) | (simp (disch := first | omega | (simp; omega)) [World.cell?_alloc_past, *]; rfl) | (simp (disch := first | omega | (simp; omega)) [World.cell?_setCell_far, World.cell?_alloc_past, *]; rfl) | (simp [go_sem, *]; done) | (simp (disch := first | omega | (simp; omega) | (simp [go_sem, *]; done)) [go_sem, World.cell?_setCell_far, World.cell?_alloc_past, *]; done))
    have ex4 : ∀ Y, (ext WWx Y).cell? ⟨w.heap.size, 4, none⟩ = some (.bool a.came) := by subst hWWx; intro Y; exact (ext_cell _ Y (by first | omega | (simp; done) | (simp; omega))).trans (by first | (simp (disch := first | omega | (simp; omega)) [World.cell?_alloc_past, *]; done) | (simp (disch := first | omega | (simp; omega)) [World.cell?_setCell_far, World.cell?_alloc_past, *]; done) | (simp (disch := first | omega | (simp; omega)) [World.cell?_alloc_past, *]; rfl) | (simp (disch := first | omega | (simp; omega)) [World.cell?_setCell_far, World.cell?_alloc_past, *]; rfl) | (simp [go_sem, *]; done) | (simp (disch := first | omega | (simp; omega) | (simp [go_sem, *]; done)) [go_sem, World.cell?_setCell_far, World.cell?_alloc_past, *]; done))
    have ex5 : ∀ Y, (ext WWx Y).cell? ⟨w.heap.size, 5, none⟩ = some (.int .i64 a.since) := by subst hWWx; intro Y; exact (ext_cell _ Y (by first | omega | (simp; done) | (simp; omega))).trans (by first | (simp (disch := first | omega | (simp; omega)) [World.cell?_alloc_past, *]; done) | (simp (disch := first | omega | (simp; omega)) [World.cell?_setCell_far, World.cell?_alloc_past, *]; done) | (simp (disch := first | omega | (simp; omega)) [World.cell?_alloc_past, *]; rfl) | (simp (disch := first | omega | (simp; omega)) [World.cell?_setCell_far, World.cell?_alloc_past, *]; rfl) | (simp [go_sem, *]; done) | (simp (disch := first | omega | (simp; omega) | (simp [go_sem, *]; done)) [go_sem, World.cell?_setCell_far, World.cell?_alloc_past, *]; done))
    have ex6 : ∀ Y, (ext WWx Y).cell? ⟨w.heap.size, 6, none⟩ = some (.int .i64 a.pts) := by subst hWWx; intro Y; exact (ext_cell _ Y (by first | omega | (simp; done) | (simp; omega))).trans (by first | (simp (disch := first | omega | (simp; omega)) [World.cell?_alloc_past, *]; done) | (simp (disch := first | omega | (simp; omega)) [World.cell?_setCell_far, World.cell?_alloc_past, *]; done) | (simp (disch := first | omega | (simp; omega)) [World.cell?_alloc_past, *]; rfl) | (simp (disch := first | omega | (simp; omega)) [World.cell?_setCell_far, World.cell?_alloc_past, *]; rfl) | (simp [go_sem, *]; done) | (simp (disch := first | omega | (simp; omega) | (simp [go_sem, *]; done)) [go_sem, World.cell?_setCell_far, World.cell?_alloc_past, *]; done))
    have ex7 : ∀ Y, (ext WWx Y).cell? ⟨w.heap.size, 7, none⟩ = some (.int .i64 a.at_) := by subst hWWx; intro Y; exact (ext_cell _ Y (by first | omega | (simp; done) | (simp; omega))).trans (by first | (simp (disch := first | omega | (simp; omega)) [World.cell?_alloc_past, *]; done) | (simp (disch := first | omega | (simp; omega)) [World.cell?_setCell_far, World.cell?_alloc_past, *]; done) | (simp (disch := first | omega | (simp; omega)) [World.cell?_alloc_past, *]; rfl) | (simp (disch := first | omega | (simp; omega)) [World.cell?_setCell_far, World.cell?_alloc_past, *]; rfl) | (simp [go_sem, *]; done) | (simp (disch := first | omega | (simp; omega) | (simp [go_sem, *]; done)) [go_sem, World.cell?_setCell_far, World.cell?_alloc_past, *]; done))
    have ex8 : ∀ Y, (ext WWx Y).cell? ⟨w.heap.size, 8, none⟩ = some (.int .i64 a.ping) := by subst hWWx; intro Y; exact (ext_cell _ Y (by first | omega | (simp; done) | (simp; omega))).trans (by first | (simp (disch := first | omega | (simp; omega)) [World.cell?_alloc_past, *]; done) | (simp (disch := first | omega | (simp; omega)) [World.cell?_setCell_far, World.cell?_alloc_past, *]; done) | (simp (disch := first | omega | (simp; omega)) [World.cell?_alloc_past, *]; rfl) | (simp (disch := first | omega | (simp; omega)) [World.cell?_setCell_far, World.cell?_alloc_past, *]; rfl) | (simp [go_sem, *]; done) | (simp (disch := first | omega | (simp; omega) | (simp [go_sem, *]; done)) [go_sem, World.cell?_setCell_far, World.cell?_alloc_past, *]; done))
    have ex9 : ∀ Y, (ext WWx Y).cell? ⟨w.heap.size, 9, none⟩ = some (.int .i64 a.work) := by subst hWWx; intro Y; exact (ext_cell _ Y (by first | omega | (simp; done) | (simp; omega))).trans (by first | (simp (disch := first | omega | (simp; omega)) [World.cell?_alloc_past, *]; done) | (simp (disch := first | omega | (simp; omega)) [World.cell?_setCell_far, World.cell?_alloc_past, *]; done) | (simp (disch := first | omega | (simp; omega)) [World.cell?_alloc_past, *]; rfl) | (simp (disch := first | omega | (simp; omega)) [World.cell?_setCell_far, World.cell?_alloc_past, *]; rfl) | (simp [go_sem, *]; done) | (simp (disch := first | omega | (simp; omega) | (simp [go_sem, *]; done)) [go_sem, World.cell?_setCell_far, World.cell?_alloc_past, *]; done))
    have ex10 : ∀ Y, (ext WWx Y).cell? ⟨w.heap.size + 1, 0, none⟩ = some (.bool b.en.ad.v6) := by subst hWWx; intro Y; exact (ext_cell _ Y (by first | omega | (simp; done) | (simp; omega))).trans (by first | (simp (disch := first | omega | (simp; omega)) [World.cell?_alloc_past, *]; done) | (simp (disch := first | omega | (simp; omega)) [World.cell?_setCell_far, World.cell?_alloc_past, *]; done) | (simp (disch := first | omega | (simp; omega)) [World.cell?_alloc_past, *]; rfl) | (simp (disch := first | omega | (simp; omega)) [World.cell?_setCell_far, World.cell?_alloc_past, *]; rfl) | (simp [go_sem, *]; done) | (simp (disch := first | omega | (simp; omega) | (simp [go_sem, *]; done)) [go_sem, World.cell?_setCell_far, World.cell?_alloc_past, *]; done))
    have ex11 : ∀ Y, (ext WWx Y).cell? ⟨w.heap.size + 1, 1, none⟩ = some (.int .u64 b.en.ad.hi) := by subst hWWx; intro Y; exact (ext_cell _ Y (by first | omega | (simp; done) | (simp; omega))).trans (by first | (simp (disch := first | omega | (simp; omega)) [World.cell?_alloc_past, *]; done) | (simp (disch := first | omega | (simp; omega)) [World.cell?_setCell_far, World.cell?_alloc_past, *]; done) | (simp (disch := first | omega | (simp; omega)) [World.cell?_alloc_past, *]; rfl) | (simp (disch := first | omega | (simp; omega)) [World.cell?_setCell_far, World.cell?_alloc_past, *]; rfl) | (simp [go_sem, *]; done) | (simp (disch := first | omega | (simp; omega) | (simp [go_sem, *]; done)) [go_sem, World.cell?_setCell_far, World.cell?_alloc_past, *]; done))
    have ex12 : ∀ Y, (ext WWx Y).cell? ⟨w.heap.size + 1, 2, none⟩ = some (.int .u64 b.en.ad.lo) := by subst hWWx; intro Y; exact (ext_cell _ Y (by first | omega | (simp; done) | (simp; omega))).trans (by first | (simp (disch := first | omega | (simp; omega)) [World.cell?_alloc_past, *]; done) | (simp (disch := first | omega | (simp; omega)) [World.cell?_setCell_far, World.cell?_alloc_past, *]; done) | (simp (disch := first | omega | (simp; omega)) [World.cell?_alloc_past, *]; rfl) | (simp (disch := first | omega | (simp; omega)) [World.cell?_setCell_far, World.cell?_alloc_past, *]; rfl) | (simp [go_sem, *]; done) | (simp (disch := first | omega | (simp; omega) | (simp [go_sem, *]; done)) [go_sem, World.cell?_setCell_far, World.cell?_alloc_past, *]; done))
    have ex13 : ∀ Y, (ext WWx Y).cell? ⟨w.heap.size + 1, 3, none⟩ = some (.int .i64 b.en.port) := by subst hWWx; intro Y; exact (ext_cell _ Y (by first | omega | (simp; done) | (simp; omega))).trans (by first | (simp (disch := first | omega | (simp; omega)) [World.cell?_alloc_past, *]; done) | (simp (disch := first | omega | (simp; omega)) [World.cell?_setCell_far, World.cell?_alloc_past, *]; done) | (simp (disch := first | omega | (simp; omega)) [World.cell?_alloc_past, *]; rfl) | (simp (disch := first | omega | (simp; omega)) [World.cell?_setCell_far, World.cell?_alloc_past, *]; rfl) | (simp [go_sem, *]; done) | (simp (disch := first | omega | (simp; omega) | (simp [go_sem, *]; done)) [go_sem, World.cell?_setCell_far, World.cell?_alloc_past, *]; done))
    have ex14 : ∀ Y, (ext WWx Y).cell? ⟨w.heap.size + 1, 4, none⟩ = some (.bool b.came) := by subst hWWx; intro Y; exact (ext_cell _ Y (by first | omega | (simp; done) | (simp; omega))).trans (by first | (simp (disch := first | omega | (simp; omega)) [World.cell?_alloc_past, *]; done) | (simp (disch := first | omega | (simp; omega)) [World.cell?_setCell_far, World.cell?_alloc_past, *]; done) | (simp (disch := first | omega | (simp; omega)) [World.cell?_alloc_past, *]; rfl) | (simp (disch := first | omega | (simp; omega)) [World.cell?_setCell_far, World.cell?_alloc_past, *]; rfl) | (simp [go_sem, *]; done) | (simp (disch := first | omega | (simp; omega) | (simp [go_sem, *]; done)) [go_sem, World.cell?_setCell_far, World.cell?_alloc_past, *]; done))
    have ex15 : ∀ Y, (ext WWx Y).cell? ⟨w.heap.size + 1, 5, none⟩ = some (.int .i64 b.since) := by subst hWWx; intro Y; exact (ext_cell _ Y (by first | omega | (simp; done) | (simp; omega))).trans (by first | (simp (disch := first | omega | (simp; omega)) [World.cell?_alloc_past, *]; done) | (simp (disch := first | omega | (simp; omega)) [World.cell?_setCell_far, World.cell?_alloc_past, *]; done) | (simp (disch := first | omega | (simp; omega)) [World.cell?_alloc_past, *]; rfl) | (simp (disch := first | omega | (simp; omega)) [World.cell?_setCell_far, World.cell?_alloc_past, *]; rfl) | (simp [go_sem, *]; done) | (simp (disch := first | omega | (simp; omega) | (simp [go_sem, *]; done)) [go_sem, World.cell?_setCell_far, World.cell?_alloc_past, *]; done))
    have ex16 : ∀ Y, (ext WWx Y).cell? ⟨w.heap.size + 1, 6, none⟩ = some (.int .i64 b.pts) := by subst hWWx; intro Y; exact (ext_cell _ Y (by first | omega | (simp; done) | (simp; omega))).trans (by first | (simp (disch := first | omega | (simp; omega)) [World.cell?_alloc_past, *]; done) | (simp (disch := first | omega | (simp; omega)) [World.cell?_setCell_far, World.cell?_alloc_past, *]; done) | (simp (disch := first | omega | (simp; omega)) [World.cell?_alloc_past, *]; rfl) | (simp (disch := first | omega | (simp; omega)) [World.cell?_setCell_far, World.cell?_alloc_past, *]; rfl) | (simp [go_sem, *]; done) | (simp (disch := first | omega | (simp; omega) | (simp [go_sem, *]; done)) [go_sem, World.cell?_setCell_far, World.cell?_alloc_past, *]; done))
    have ex17 : ∀ Y, (ext WWx Y).cell? ⟨w.heap.size + 1, 7, none⟩ = some (.int .i64 b.at_) := by subst hWWx; intro Y; exact (ext_cell _ Y (by first | omega | (simp; done) | (simp; omega))).trans (by first | (simp (disch := first | omega | (simp; omega)) [World.cell?_alloc_past, *]; done) | (simp (disch := first | omega | (simp; omega)) [World.cell?_setCell_far, World.cell?_alloc_past, *]; done) | (simp (disch := first | omega | (simp; omega)) [World.cell?_alloc_past, *]; rfl) | (simp (disch := first | omega | (simp; omega)) [World.cell?_setCell_far, World.cell?_alloc_past, *]; rfl) | (simp [go_sem, *]; done) | (simp (disch := first | omega | (simp; omega) | (simp [go_sem, *]; done)) [go_sem, World.cell?_setCell_far, World.cell?_alloc_past, *]; done))
    have ex18 : ∀ Y, (ext WWx Y).cell? ⟨w.heap.size + 1, 8, none⟩ = some (.int .i64 b.ping) := by subst hWWx; intro Y; exact (ext_cell _ Y (by first | omega | (simp; done) | (simp; omega))).trans (by first | (simp (disch := first | omega | (simp; omega)) [World.cell?_alloc_past, *]; done) | (simp (disch := first | omega | (simp; omega)) [World.cell?_setCell_far, World.cell?_alloc_past, *]; done) | (simp (disch := first | omega | (simp; omega)) [World.cell?_alloc_past, *]; rfl) | (simp (disch := first | omega | (simp; omega)) [World.cell?_setCell_far, World.cell?_alloc_past, *]; rfl) | (simp [go_sem, *]; done) | (simp (disch := first | omega | (simp; omega) | (simp [go_sem, *]; done)) [go_sem, World.cell?_setCell_far, World.cell?_alloc_past, *]; done))
    have ex19 : ∀ Y, (ext WWx Y).cell? ⟨w.heap.size + 1, 9, none⟩ = some (.int .i64 b.work) := by subst hWWx; intro Y; exact (ext_cell _ Y (by first | omega | (simp; done) | (simp; omega))).trans (by first | (simp (disch := first | omega | (simp; omega)) [World.cell?_alloc_past, *]; done) | (simp (disch := first | omega | (simp; omega)) [World.cell?_setCell_far, World.cell?_alloc_past, *]; done) | (simp (disch := first | omega | (simp; omega)) [World.cell?_alloc_past, *]; rfl) | (simp (disch := first | omega | (simp; omega)) [World.cell?_setCell_far, World.cell?_alloc_past, *]; rfl) | (simp [go_sem, *]; done) | (simp (disch := first | omega | (simp; omega) | (simp [go_sem, *]; done)) [go_sem, World.cell?_setCell_far, World.cell?_alloc_past, *]; done))
    have bWx : Below w.heap.size w WWx := by subst hWWx; (repeat (first | assumption | exact Below.refl _ _ | refine Below.setCell ?_ (by first | omega | (simp; done) | (simp; omega)) _ | refine Below.alloc ?_ (by first | omega | (simp; done) | (simp; omega)) _ | refine Below.drew ?_ | (refine Below.trans ?_ (Below.mono (by assumption) (by first | omega | (simp; done) | (simp; omega))))))
    have lWx0 : w.heap.size < WWx.heap.size := by subst hWWx; first | omega | (simp; done) | (simp; omega)
    have lWx1 : w.heap.size + 1 < WWx.heap.size := by subst hWWx; first | omega | (simp; done) | (simp; omega)
    clear hWWx
    try simp only [List.append_eq, List.cons_append, List.nil_append]
    refine wp_region_ext (by kernel_rfl) (by kernel_rfl) ?_
    repeat (go_big_quiet_step ((first | (go_at_call 188; with_reducible exact qe (k1.out _)) | (go_at_call 188; with_reducible exact qe (k2.out _)) | (go_at_call 183; with_reducible exact qs (cmpU64_any _ _ _)))))
    refine wpQuiet_nil ?_
    intro _ hw'
    obtain ⟨x, hw''⟩ := hw'
    subst hw''
    have px0 := ex0 x
    have px1 := ex1 x
    have px2 := ex2 x
    have px3 := ex3 x
    have px4 := ex4 x
    have px5 := ex5 x
    have px6 := ex6 x
    have px7 := ex7 x
    have px8 := ex8 x
    have px9 := ex9 x
    have px10 := ex10 x
    have px11 := ex11 x
    have px12 := ex12 x
    have px13 := ex13 x
    have px14 := ex14 x
    have px15 := ex15 x
    have px16 := ex16 x
    have px17 := ex17 x
    have px18 := ex18 x
    have px19 := ex19 x
    clear ex0 ex1 ex2 ex3 ex4 ex5 ex6 ex7 ex8 ex9 ex10 ex11 ex12 ex13 ex14 ex15 ex16 ex17 ex18 ex19
    have bwx := bWx.trans ((ext_below WWx x).mono bWx.size)
    have zwx := bwx.size
    have zex := (ext_below WWx x).size
    go_wp2_with fail
    go_ret
    exact ⟨rfl, bwx⟩
  by_cases h2 : q = 2
  · subst h2
    go_enter Try.func172, Try.ntmps172
    go_wp2_with (go_at_call 130; with_reducible refine (cmpInt_any _ _ _).mono ?_; rintro e w' ⟨rfl, rfl⟩)
    go_ret
    refine ⟨rfl, ?_⟩
    (repeat (first | with_reducible assumption | with_reducible exact Below.refl _ _ | with_reducible refine Below.setCell ?_ (by first | omega | (simp; done) | (simp; omega)) _ | with_reducible refine Below.alloc ?_ (by first | omega | (simp; done) | (simp; omega)) _ | with_reducible refine Below.drew ?_ | (with_reducible refine Below.trans ?_ (Below.mono (by with_reducible assumption) (by first | omega | (simp; done) | (simp; omega)))) | (refine Below.trans ?_ (Below.mono (by assumption) (by first | omega | (simp; done) | (simp; omega))))))
  by_cases h3 : q = 3
  · subst h3
    go_enter Try.func172, Try.ntmps172
    go_wp2_with (go_at_call 130; with_reducible refine (cmpInt_any _ _ _).mono ?_; rintro e w' ⟨rfl, rfl⟩)
    go_ret
    refine ⟨rfl, ?_⟩
    (repeat (first | with_reducible assumption | with_reducible exact Below.refl _ _ | with_reducible refine Below.setCell ?_ (by first | omega | (simp; done) | (simp; omega)) _ | with_reducible refine Below.alloc ?_ (by first | omega | (simp; done) | (simp; omega)) _ | with_reducible refine Below.drew ?_ | (with_reducible refine Below.trans ?_ (Below.mono (by with_reducible assumption) (by first | omega | (simp; done) | (simp; omega)))) | (refine Below.trans ?_ (Below.mono (by assumption) (by first | omega | (simp; done) | (simp; omega))))))
  by_cases h4 : q = 4
  · subst h4
    go_enter Try.func172, Try.ntmps172
    go_wp2_with (go_at_call 130; with_reducible refine (cmpInt_any _ _ _).mono ?_; rintro e w' ⟨rfl, rfl⟩)
    go_ret
    refine ⟨rfl, ?_⟩
    (repeat (first | with_reducible assumption | with_reducible exact Below.refl _ _ | with_reducible refine Below.setCell ?_ (by first | omega | (simp; done) | (simp; omega)) _ | with_reducible refine Below.alloc ?_ (by first | omega | (simp; done) | (simp; omega)) _ | with_reducible refine Below.drew ?_ | (with_reducible refine Below.trans ?_ (Below.mono (by with_reducible assumption) (by first | omega | (simp; done) | (simp; omega)))) | (refine Below.trans ?_ (Below.mono (by assumption) (by first | omega | (simp; done) | (simp; omega))))))
  · have e1 : (q == 1) = false := beq_eq_false_iff_ne.2 h1
    have e2 : (q == 2) = false := beq_eq_false_iff_ne.2 h2
    have e3 : (q == 3) = false := beq_eq_false_iff_ne.2 h3
    have e4 : (q == 4) = false := beq_eq_false_iff_ne.2 h4
    rw [if_neg h1, if_neg h2, if_neg h3, if_neg h4]
    clear h1 h2 h3 h4
    go_enter Try.func172, Try.ntmps172
    go_wp2_with fail
    go_ret
    refine ⟨rfl, ?_⟩
    (repeat (first | with_reducible assumption | with_reducible exact Below.refl _ _ | with_reducible refine Below.setCell ?_ (by first | omega | (simp; done) | (simp; omega)) _ | with_reducible refine Below.alloc ?_ (by first | omega | (simp; done) | (simp; omega)) _ | with_reducible refine Below.drew ?_ | (with_reducible refine Below.trans ?_ (Below.mono (by with_reducible assumption) (by first | omega | (simp; done) | (simp; omega)))) | (refine Below.trans ?_ (Below.mono (by assumption) (by first | omega | (simp; done) | (simp; omega))))))
set_option maxRecDepth 100000 in
set_option maxHeartbeats 8000000 in
theorem rk_full_any (a b : Pe) (fa : a.fits) (fb : b.fits) (q : Int) (s : Nat) (hs : s < 18446744073709551616) (w : World) :
    Calls Try.prog 152 #[.agg #[.bool a.en.ad.v6, .int .u64 a.en.ad.hi, .int .u64 a.en.ad.lo, .int .i64 a.en.port, .bool a.came, .int .i64 a.since, .int .i64 a.pts, .int .i64 a.at_, .int .i64 a.ping, .int .i64 a.work], .agg #[.bool b.en.ad.v6, .int .u64 b.en.ad.hi, .int .u64 b.en.ad.lo, .int .i64 b.en.port, .bool b.came, .int .i64 b.since, .int .i64 b.pts, .int .i64 b.at_, .int .i64 b.ping, .int .i64 b.work], .int .i64 q, .int .u64 s] w fun e w' => e = .returned (.int .i64 (rkFull a b q s)) ∧ Below w.heap.size w w' := by
  have hc := fun w => rk_compare_any a b fa fb q s hs w
  unfold rkFull
  generalize rkCmp a b q s = c at *
  have HC := Lib.hid hc
  clear hc
  have ho := Lib.hid (fun (w : World) => or_any (.slice (some ⟨w.heap.size, 0, none⟩) 2 2) [c, enCmp a.en b.en] (w.alloc (.cells #[.int .i64 c, .int .i64 (enCmp a.en b.en)] 3)) ((BlockIs.new w [.int .i64 c, .int .i64 (enCmp a.en b.en)] 3).reads rfl (by decide)))
  have z0 : w.heap.size < w.heap.size + 1 + 1 := by omega
  go_enter Try.func152, Try.ntmps152
  go_wp2_with fail
  go_region_held3 (fun w' => w'.cell? ⟨w.heap.size, 0, none⟩ = some (.bool a.en.ad.v6) ∧ w'.cell? ⟨w.heap.size, 1, none⟩ = some (.int .u64 a.en.ad.hi) ∧ w'.cell? ⟨w.heap.size, 2, none⟩ = some (.int .u64 a.en.ad.lo) ∧ w'.cell? ⟨w.heap.size, 3, none⟩ = some (.int .i64 a.en.port) ∧ w'.cell? ⟨w.heap.size, 4, none⟩ = some (.bool a.came) ∧ w'.cell? ⟨w.heap.size, 5, none⟩ = some (.int .i64 a.since) ∧ w'.cell? ⟨w.heap.size, 6, none⟩ = some (.int .i64 a.pts) ∧ w'.cell? ⟨w.heap.size, 7, none⟩ = some (.int .i64 a.at_) ∧ w'.cell? ⟨w.heap.size, 8, none⟩ = some (.int .i64 a.ping) ∧ w'.cell? ⟨w.heap.size, 9, none⟩ = some (.int .i64 a.work) ∧ w'.cell? ⟨w.heap.size + 1, 0, none⟩ = some (.bool b.en.ad.v6) ∧ w'.cell? ⟨w.heap.size + 1, 1, none⟩ = some (.int .u64 b.en.ad.hi) ∧ w'.cell? ⟨w.heap.size + 1, 2, none⟩ = some (.int .u64 b.en.ad.lo) ∧ w'.cell? ⟨w.heap.size + 1, 3, none⟩ = some (.int .i64 b.en.port) ∧ w'.cell? ⟨w.heap.size + 1, 4, none⟩ = some (.bool b.came) ∧ w'.cell? ⟨w.heap.size + 1, 5, none⟩ = some (.int .i64 b.since) ∧ w'.cell? ⟨w.heap.size + 1, 6, none⟩ = some (.int .i64 b.pts) ∧ w'.cell? ⟨w.heap.size + 1, 7, none⟩ = some (.int .i64 b.at_) ∧ w'.cell? ⟨w.heap.size + 1, 8, none⟩ = some (.int .i64 b.ping) ∧ w'.cell? ⟨w.heap.size + 1, 9, none⟩ = some (.int .i64 b.work)) (first | go_keep | (simp (disch := omega) [*])) (first | (go_at_call 172; refine (HC.out _).mono ?_; rintro e w2 ⟨rfl, b2⟩; obtain ⟨c2, f2⟩ := bcell b2; have z2 := b2.size; (try simp at z2)) | (go_at_call 131; refine (enCmp_any a.en b.en _).mono ?_; rintro e w1 ⟨rfl, b1⟩; obtain ⟨c1, f1⟩ := bcell b1; have z1 := b1.size; (try simp at z1)) | (go_at_call 129; refine (ho.out _).mono ?_; rintro e w' ⟨rfl, rfl⟩))
  go_wp2_with fail
  go_ret
  refine ⟨rfl, ?_⟩
  (repeat (first | with_reducible assumption | with_reducible exact Below.refl _ _ | with_reducible refine Below.setCell ?_ (by first | omega | (simp; done) | (simp; omega)) _ | with_reducible refine Below.alloc ?_ (by first | omega | (simp; done) | (simp; omega)) _ | with_reducible refine Below.drew ?_ | (with_reducible refine Below.trans ?_ (Below.mono (by with_reducible assumption) (by first | omega | (simp; done) | (simp; omega)))) | (refine Below.trans ?_ (Below.mono (by assumption) (by first | omega | (simp; done) | (simp; omega))))))
set_option maxRecDepth 100000 in
set_option maxHeartbeats 8000000 in
theorem rk_ahead_any (a b : Pe) (fa : a.fits) (fb : b.fits) (q : Int) (s : Nat) (hs : s < 18446744073709551616) (w : World) :
    Calls Try.prog 120 #[.agg #[.bool a.en.ad.v6, .int .u64 a.en.ad.hi, .int .u64 a.en.ad.lo, .int .i64 a.en.port, .bool a.came, .int .i64 a.since, .int .i64 a.pts, .int .i64 a.at_, .int .i64 a.ping, .int .i64 a.work], .agg #[.bool b.en.ad.v6, .int .u64 b.en.ad.hi, .int .u64 b.en.ad.lo, .int .i64 b.en.port, .bool b.came, .int .i64 b.since, .int .i64 b.pts, .int .i64 b.at_, .int .i64 b.ping, .int .i64 b.work], .int .i64 q, .int .u64 s] w fun e w' => e = .returned (.bool (rkAhead a b q s)) ∧ Below w.heap.size w w' := by
  have hc := fun w => rk_full_any a b fa fb q s hs w
  unfold rkAhead
  generalize rkFull a b q s = c at *
  have HC := Lib.hid hc
  clear hc
  by_cases h1 : 1 ≤ q
  · have d1 : decide (1 ≤ q) = true := decide_eq_true h1
    by_cases h4 : q ≤ 4
    · have d4 : decide (q ≤ 4) = true := decide_eq_true h4
      rw [d1, d4]
      go_enter Try.func120, Try.ntmps120
      go_wp2_with (go_at_call 152; (with_reducible refine (HC.out _).mono ?_); rintro e w1 ⟨rfl, b1⟩; obtain ⟨c1, f1⟩ := bcell b1; have z1 := b1.size; (try simp at z1); have d1a := fun o => c1 (w.heap.size) o (by first | omega | (simp; done) | (simp; omega)); have d1b := fun o => c1 (w.heap.size + 1) o (by first | omega | (simp; done) | (simp; omega)); clear c1 f1)
      go_ret
      refine ⟨rfl, ?_⟩
      (repeat (first | with_reducible assumption | with_reducible exact Below.refl _ _ | with_reducible refine Below.setCell ?_ (by first | omega | (simp; done) | (simp; omega)) _ | with_reducible refine Below.alloc ?_ (by first | omega | (simp; done) | (simp; omega)) _ | with_reducible refine Below.drew ?_ | (with_reducible refine Below.trans ?_ (Below.mono (by with_reducible assumption) (by first | omega | (simp; done) | (simp; omega)))) | (refine Below.trans ?_ (Below.mono (by assumption) (by first | omega | (simp; done) | (simp; omega))))))
    · have d4 : decide (q ≤ 4) = false := decide_eq_false h4
      rw [d1, d4]
      go_enter Try.func120, Try.ntmps120
      go_wp2_with fail
      go_ret
      refine ⟨rfl, ?_⟩
      (repeat (first | with_reducible assumption | with_reducible exact Below.refl _ _ | with_reducible refine Below.setCell ?_ (by first | omega | (simp; done) | (simp; omega)) _ | with_reducible refine Below.alloc ?_ (by first | omega | (simp; done) | (simp; omega)) _ | with_reducible refine Below.drew ?_ | (with_reducible refine Below.trans ?_ (Below.mono (by with_reducible assumption) (by first | omega | (simp; done) | (simp; omega)))) | (refine Below.trans ?_ (Below.mono (by assumption) (by first | omega | (simp; done) | (simp; omega))))))
  · have d1 : decide (1 ≤ q) = false := decide_eq_false h1
    rw [d1]
    go_enter Try.func120, Try.ntmps120
    go_wp2_with fail
    go_ret
    refine ⟨rfl, ?_⟩
    (repeat (first | with_reducible assumption | with_reducible exact Below.refl _ _ | with_reducible refine Below.setCell ?_ (by first | omega | (simp; done) | (simp; omega)) _ | with_reducible refine Below.alloc ?_ (by first | omega | (simp; done) | (simp; omega)) _ | with_reducible refine Below.drew ?_ | (with_reducible refine Below.trans ?_ (Below.mono (by with_reducible assumption) (by first | omega | (simp; done) | (simp; omega)))) | (refine Below.trans ?_ (Below.mono (by assumption) (by first | omega | (simp; done) | (simp; omega))))))
theorem rkFull_ne {a b : Pe} {q : Int} {s : Nat} (h : rkCmp a b q s ≠ 0) : rkFull a b q s = rkCmp a b q s := by unfold rkFull; rw [orI_two, if_neg h]
theorem rkFull_eq {a b : Pe} {q : Int} {s : Nat} (h : rkCmp a b q s = 0) : rkFull a b q s = enCmp a.en b.en := by unfold rkFull; rw [orI_two, if_pos h]
theorem cmpI_ne {x y : Int} (h : ¬ x = y) : cmpI x y ≠ 0 := fun e => h (cmpI_zero e)
theorem rkAhead_in {a b : Pe} {q : Int} {s : Nat} (h1 : 1 ≤ q) (h4 : q ≤ 4) : rkAhead a b q s = decide (rkFull a b q s < 0) := by unfold rkAhead; rw [decide_eq_true h1, decide_eq_true h4]; rfl
theorem rkAhead_out {a b : Pe} {q : Int} {s : Nat} (h1 : ¬ q = 1) (h2 : ¬ q = 2) (h3 : ¬ q = 3) (h4 : ¬ q = 4) : rkAhead a b q s = false := by
  unfold rkAhead
  by_cases h : 1 ≤ q
  · rw [decide_eq_false (show ¬ q ≤ 4 by omega)]; simp
  · rw [decide_eq_false h]; rfl
end Go.Proofs.Ytppmjbnhghaffaa
/- The contract of rank's reference: who stands ahead of whom. Conditions: numbers are 64 bits. -/
namespace Go.Proofs.Ytppmjbnhghaffaa
open Go.RowKit
set_option linter.unusedSimpArgs false
set_option linter.unusedVariables false

set_option maxRecDepth 100000 in
set_option maxHeartbeats 8000000 in
theorem ref_ahead_1 (a b : Pe) (fa : a.fits) (fb : b.fits) (s : Nat) (hs : s < 18446744073709551616) (w : World) :
    Calls Try.prog 153 #[.agg #[.bool a.en.ad.v6, .int .u64 a.en.ad.hi, .int .u64 a.en.ad.lo, .int .i64 a.en.port, .bool a.came, .int .i64 a.since, .int .i64 a.pts, .int .i64 a.at_, .int .i64 a.ping, .int .i64 a.work], .agg #[.bool b.en.ad.v6, .int .u64 b.en.ad.hi, .int .u64 b.en.ad.lo, .int .i64 b.en.port, .bool b.came, .int .i64 b.since, .int .i64 b.pts, .int .i64 b.at_, .int .i64 b.ping, .int .i64 b.work], .int .i64 1, .int .u64 s] w fun e w' => e = .returned (.bool (rkAhead a b 1 s)) ∧ Below w.heap.size w w' := by
  have g1 := fun w => refGrOf_any a.en.ad fa.1.1 w
  have g2 := fun w => refMixNet_any s hs (grOf a.en.ad) (grOf_fits a.en.ad fa.1.1) w
  have g3 := fun w => refGrOf_any b.en.ad fb.1.1 w
  have g4 := fun w => refMixNet_any s hs (grOf b.en.ad) (grOf_fits b.en.ad fb.1.1) w
  simp only [rkKey_of] at g2 g4
  have HK : Hid (∀ z, rkCmp a b 1 z = cmpI (rkKey b z) (rkKey a z)) := fun z => by unfold rkCmp; rw [if_pos rfl]
  generalize hra : rkKey a s = ka at *
  generalize hrb : rkKey b s = kb at *
  have HA := Lib.hid hra; have HB := Lib.hid hrb; clear hra hrb
  generalize grOf a.en.ad = ga at *
  generalize grOf b.en.ad = gb at *
  have G1 := Lib.hid g1; have G2 := Lib.hid g2; have G3 := Lib.hid g3; have G4 := Lib.hid g4
  clear g1 g2 g3 g4
  have hA := @rkAhead_in a b 1 s (by omega) (by omega)
  have HAA := Lib.hid hA
  clear hA
  go_enter Try.func153, Try.ntmps153
  go_upto_region 1 with fail
  go_name_world W0 hW0
  have hA0 : BlockIs W0 w.heap.size [.bool a.en.ad.v6, .int .u64 a.en.ad.hi, .int .u64 a.en.ad.lo, .int .i64 a.en.port, .bool a.came, .int .i64 a.since, .int .i64 a.pts, .int .i64 a.at_, .int .i64 a.ping, .int .i64 a.work] 66 := by subst hW0; exact (BlockIs.new w [.bool a.en.ad.v6, .int .u64 a.en.ad.hi, .int .u64 a.en.ad.lo, .int .i64 a.en.port, .bool a.came, .int .i64 a.since, .int .i64 a.pts, .int .i64 a.at_, .int .i64 a.ping, .int .i64 a.work] _).alloc' _
  have hB0 : BlockIs W0 (w.heap.size + 1) [.bool b.en.ad.v6, .int .u64 b.en.ad.hi, .int .u64 b.en.ad.lo, .int .i64 b.en.port, .bool b.came, .int .i64 b.since, .int .i64 b.pts, .int .i64 b.at_, .int .i64 b.ping, .int .i64 b.work] 66 := by subst hW0; exact BlockIs.newAt' _ [.bool b.en.ad.v6, .int .u64 b.en.ad.hi, .int .u64 b.en.ad.lo, .int .i64 b.en.port, .bool b.came, .int .i64 b.since, .int .i64 b.pts, .int .i64 b.at_, .int .i64 b.ping, .int .i64 b.work] _ (by simp)
  have b0 : Below w.heap.size w W0 := by subst hW0; (repeat (first | with_reducible assumption | with_reducible exact Below.refl _ _ | with_reducible refine Below.setCell ?_ (by first | omega | (simp; done) | (simp; omega)) _ | with_reducible refine Below.alloc ?_ (by first | omega | (simp; done) | (simp; omega)) _ | with_reducible refine Below.drew ?_ | (with_reducible refine Below.trans ?_ (Below.mono (by with_reducible assumption) (by first | omega | (simp; done) | (simp; omega)))) | (refine Below.trans ?_ (Below.mono (by assumption) (by first | omega | (simp; done) | (simp; omega))))))
  clear hW0
  have p0 := hA0.cell (i := 0) rfl
  have p1 := hA0.cell (i := 1) rfl
  have p2 := hA0.cell (i := 2) rfl
  have pf := hA0.frozen
  have pl := hA0.lt
  go_upto_region 6 with (first | (go_at_call 173; (with_reducible refine (G1.out _).mono ?_); rintro e w1 ⟨rfl, b1⟩) | (go_at_call 97; (with_reducible refine (G2.out _).mono ?_); rintro e w2 ⟨rfl, b2⟩))
  have hA2 := (hA0.below b1).below b2
  have hB2 := (hB0.below b1).below b2
  have b3 := below2 (below2 b0 b1) b2
  clear p0 p1 p2 pf pl b0 b1 b2 hA0 hB0
  have q0 := hB2.cell (i := 0) rfl
  have q1 := hB2.cell (i := 1) rfl
  have q2 := hB2.cell (i := 2) rfl
  have qf := hB2.frozen
  have ql := hB2.lt
  go_upto_region 7 with (first | (go_at_call 173; (with_reducible refine (G3.out _).mono ?_); rintro e w3 ⟨rfl, b4⟩) | (go_at_call 97; (with_reducible refine (G4.out _).mono ?_); rintro e w4 ⟨rfl, b5⟩))
  have hA4 := (hA2.below b4).below b5
  have hB4 := (hB2.below b4).below b5
  have b6 := below2 (below2 b3 b4) b5
  clear q0 q1 q2 qf ql b3 b4 b5 hA2 hB2
  have p0 := hA4.cell (i := 0) rfl
  have p1 := hA4.cell (i := 1) rfl
  have p2 := hA4.cell (i := 2) rfl
  have p3 := hA4.cell (i := 3) rfl
  have pf := hA4.frozen
  have pl := hA4.lt
  have q0 := hB4.cell (i := 0) rfl
  have q1 := hB4.cell (i := 1) rfl
  have q2 := hB4.cell (i := 2) rfl
  have q3 := hB4.cell (i := 3) rfl
  have qf := hB4.frozen
  have ql := hB4.lt
  have zb := b6.size
  by_cases he : (kb : Int) = (ka : Int)
  · have hz : rkCmp a b 1 s = 0 := by rw [HK.out, HA.out, HB.out, he]; exact cmpI_self _
    have HR : Hid (rkAhead a b 1 s = decide (enCmp a.en b.en < 0)) := by show _ = _; rw [HAA.out, rkFull_eq hz]
    have e0 : (((ka : Nat) : Int) != ((kb : Nat) : Int)) = false := by simp [he]
    have e1 : ka = kb := by omega
    clear hz
    go_wp2_with (go_at_call 88; (with_reducible refine (refEnCmp_any a.en b.en _).mono ?_); rintro e w5 ⟨rfl, b7⟩)
    go_ret
    refine ⟨by (try rw [HR.out]); first | rfl | (simp; done) | (simp; rfl), ?_⟩
    (repeat (first | with_reducible assumption | with_reducible exact Below.refl _ _ | with_reducible refine Below.setCell ?_ (by first | omega | (simp; done) | (simp; omega)) _ | with_reducible refine Below.alloc ?_ (by first | omega | (simp; done) | (simp; omega)) _ | with_reducible refine Below.drew ?_ | (with_reducible refine Below.trans ?_ (Below.mono (by with_reducible assumption) (by first | omega | (simp; done) | (simp; omega)))) | (refine Below.trans ?_ (Below.mono (by assumption) (by first | omega | (simp; done) | (simp; omega))))))
  · have hz : rkCmp a b 1 s ≠ 0 := by rw [HK.out, HA.out, HB.out]; exact cmpI_ne he
    have HR : Hid (rkAhead a b 1 s = decide ((kb : Int) < (ka : Int))) := by show _ = _; rw [HAA.out, rkFull_ne hz, HK.out, HA.out, HB.out, decide_eq_decide]; exact cmp_lt_iff _ _
    have he' : ¬ ((ka : Int) = (kb : Int)) := by omega
    have e0 : (((ka : Nat) : Int) != ((kb : Nat) : Int)) = true := by simp [he']
    clear hz
    go_wp2_with fail
    go_ret
    refine ⟨by (try rw [HR.out]); first | rfl | (simp; done) | (simp; rfl), ?_⟩
    (repeat (first | with_reducible assumption | with_reducible exact Below.refl _ _ | with_reducible refine Below.setCell ?_ (by first | omega | (simp; done) | (simp; omega)) _ | with_reducible refine Below.alloc ?_ (by first | omega | (simp; done) | (simp; omega)) _ | with_reducible refine Below.drew ?_ | (with_reducible refine Below.trans ?_ (Below.mono (by with_reducible assumption) (by first | omega | (simp; done) | (simp; omega)))) | (refine Below.trans ?_ (Below.mono (by assumption) (by first | omega | (simp; done) | (simp; omega))))))
set_option maxRecDepth 100000 in
set_option maxHeartbeats 8000000 in
theorem ref_ahead_2 (a b : Pe) (fa : a.fits) (fb : b.fits) (s : Nat) (hs : s < 18446744073709551616) (w : World) :
    Calls Try.prog 153 #[.agg #[.bool a.en.ad.v6, .int .u64 a.en.ad.hi, .int .u64 a.en.ad.lo, .int .i64 a.en.port, .bool a.came, .int .i64 a.since, .int .i64 a.pts, .int .i64 a.at_, .int .i64 a.ping, .int .i64 a.work], .agg #[.bool b.en.ad.v6, .int .u64 b.en.ad.hi, .int .u64 b.en.ad.lo, .int .i64 b.en.port, .bool b.came, .int .i64 b.since, .int .i64 b.pts, .int .i64 b.at_, .int .i64 b.ping, .int .i64 b.work], .int .i64 2, .int .u64 s] w fun e w' => e = .returned (.bool (rkAhead a b 2 s)) ∧ Below w.heap.size w w' := by
  have hA := @rkAhead_in a b 2 s (by omega) (by omega)
  by_cases he : a.ping = b.ping
  · have hz : rkCmp a b 2 s = 0 := by rw [show rkCmp a b 2 s = cmpI (a.ping) (b.ping) from by unfold rkCmp; rw [if_neg (by decide), if_pos rfl]]; rw [he]; exact cmpI_self _
    have HR : Hid (rkAhead a b 2 s = decide (enCmp a.en b.en < 0)) := by show _ = _; rw [hA, rkFull_eq hz]
    have e0 : ((a.ping) != (b.ping)) = false := by simp [he]
    have e0' : ((a.ping) == (b.ping)) = true := by simp [he]
    clear hA hz
    rw [HR.out]
    go_enter Try.func153, Try.ntmps153
    go_wp2_with (first |  (go_at_call 88; (with_reducible refine (refEnCmp_any a.en b.en _).mono ?_); rintro e w3 ⟨rfl, b3⟩; obtain ⟨c3, f3⟩ := bcell b3; have z3 := b3.size; (try simp at z3); have d3a := fun o => c3 (w.heap.size) o (by first | omega | (simp; done) | (simp; omega)); have d3b := fun o => c3 (w.heap.size + 1) o (by first | omega | (simp; done) | (simp; omega)); clear c3 f3))
    go_ret
    refine ⟨by (try rw [HR.out]); first | rfl | (simp; done) | (simp; rfl), ?_⟩
    (repeat (first | with_reducible assumption | with_reducible exact Below.refl _ _ | with_reducible refine Below.setCell ?_ (by first | omega | (simp; done) | (simp; omega)) _ | with_reducible refine Below.alloc ?_ (by first | omega | (simp; done) | (simp; omega)) _ | with_reducible refine Below.drew ?_ | (with_reducible refine Below.trans ?_ (Below.mono (by with_reducible assumption) (by first | omega | (simp; done) | (simp; omega)))) | (refine Below.trans ?_ (Below.mono (by assumption) (by first | omega | (simp; done) | (simp; omega))))))
  · have hz : rkCmp a b 2 s ≠ 0 := by rw [show rkCmp a b 2 s = cmpI (a.ping) (b.ping) from by unfold rkCmp; rw [if_neg (by decide), if_pos rfl]]; exact cmpI_ne he
    have HR : Hid (rkAhead a b 2 s = decide (a.ping < b.ping)) := by show _ = _; rw [hA, rkFull_ne hz]; rw [show rkCmp a b 2 s = cmpI (a.ping) (b.ping) from by unfold rkCmp; rw [if_neg (by decide), if_pos rfl]]; rw [decide_eq_decide]; exact cmp_lt_iff _ _
    have e0 : ((a.ping) != (b.ping)) = true := by simp [he]
    have e0' : ((a.ping) == (b.ping)) = false := by simp [he]
    clear hA hz
    rw [HR.out]
    go_enter Try.func153, Try.ntmps153
    go_wp2_with (first |  (go_at_call 88; (with_reducible refine (refEnCmp_any a.en b.en _).mono ?_); rintro e w3 ⟨rfl, b3⟩; obtain ⟨c3, f3⟩ := bcell b3; have z3 := b3.size; (try simp at z3); have d3a := fun o => c3 (w.heap.size) o (by first | omega | (simp; done) | (simp; omega)); have d3b := fun o => c3 (w.heap.size + 1) o (by first | omega | (simp; done) | (simp; omega)); clear c3 f3))
    go_ret
    refine ⟨by (try rw [HR.out]); first | rfl | (simp; done) | (simp; rfl), ?_⟩
    (repeat (first | with_reducible assumption | with_reducible exact Below.refl _ _ | with_reducible refine Below.setCell ?_ (by first | omega | (simp; done) | (simp; omega)) _ | with_reducible refine Below.alloc ?_ (by first | omega | (simp; done) | (simp; omega)) _ | with_reducible refine Below.drew ?_ | (with_reducible refine Below.trans ?_ (Below.mono (by with_reducible assumption) (by first | omega | (simp; done) | (simp; omega)))) | (refine Below.trans ?_ (Below.mono (by assumption) (by first | omega | (simp; done) | (simp; omega))))))
set_option maxRecDepth 100000 in
set_option maxHeartbeats 8000000 in
theorem ref_ahead_3 (a b : Pe) (fa : a.fits) (fb : b.fits) (s : Nat) (hs : s < 18446744073709551616) (w : World) :
    Calls Try.prog 153 #[.agg #[.bool a.en.ad.v6, .int .u64 a.en.ad.hi, .int .u64 a.en.ad.lo, .int .i64 a.en.port, .bool a.came, .int .i64 a.since, .int .i64 a.pts, .int .i64 a.at_, .int .i64 a.ping, .int .i64 a.work], .agg #[.bool b.en.ad.v6, .int .u64 b.en.ad.hi, .int .u64 b.en.ad.lo, .int .i64 b.en.port, .bool b.came, .int .i64 b.since, .int .i64 b.pts, .int .i64 b.at_, .int .i64 b.ping, .int .i64 b.work], .int .i64 3, .int .u64 s] w fun e w' => e = .returned (.bool (rkAhead a b 3 s)) ∧ Below w.heap.size w w' := by
  have hA := @rkAhead_in a b 3 s (by omega) (by omega)
  by_cases he : b.work = a.work
  · have hz : rkCmp a b 3 s = 0 := by rw [show rkCmp a b 3 s = cmpI (b.work) (a.work) from by unfold rkCmp; rw [if_neg (by decide), if_neg (by decide), if_pos rfl]]; rw [he]; exact cmpI_self _
    have HR : Hid (rkAhead a b 3 s = decide (enCmp a.en b.en < 0)) := by show _ = _; rw [hA, rkFull_eq hz]
    have e0 : ((b.work) != (a.work)) = false := by simp [he]
    have e0' : ((b.work) == (a.work)) = true := by simp [he]
    clear hA hz
    rw [HR.out]
    go_enter Try.func153, Try.ntmps153
    go_wp2_with (first |  (go_at_call 88; (with_reducible refine (refEnCmp_any a.en b.en _).mono ?_); rintro e w3 ⟨rfl, b3⟩; obtain ⟨c3, f3⟩ := bcell b3; have z3 := b3.size; (try simp at z3); have d3a := fun o => c3 (w.heap.size) o (by first | omega | (simp; done) | (simp; omega)); have d3b := fun o => c3 (w.heap.size + 1) o (by first | omega | (simp; done) | (simp; omega)); clear c3 f3))
    go_ret
    refine ⟨by (try rw [HR.out]); first | rfl | (simp; done) | (simp; rfl), ?_⟩
    (repeat (first | with_reducible assumption | with_reducible exact Below.refl _ _ | with_reducible refine Below.setCell ?_ (by first | omega | (simp; done) | (simp; omega)) _ | with_reducible refine Below.alloc ?_ (by first | omega | (simp; done) | (simp; omega)) _ | with_reducible refine Below.drew ?_ | (with_reducible refine Below.trans ?_ (Below.mono (by with_reducible assumption) (by first | omega | (simp; done) | (simp; omega)))) | (refine Below.trans ?_ (Below.mono (by assumption) (by first | omega | (simp; done) | (simp; omega))))))
  · have hz : rkCmp a b 3 s ≠ 0 := by rw [show rkCmp a b 3 s = cmpI (b.work) (a.work) from by unfold rkCmp; rw [if_neg (by decide), if_neg (by decide), if_pos rfl]]; exact cmpI_ne he
    have HR : Hid (rkAhead a b 3 s = decide (b.work < a.work)) := by show _ = _; rw [hA, rkFull_ne hz]; rw [show rkCmp a b 3 s = cmpI (b.work) (a.work) from by unfold rkCmp; rw [if_neg (by decide), if_neg (by decide), if_pos rfl]]; rw [decide_eq_decide]; exact cmp_lt_iff _ _
    have e0 : ((b.work) != (a.work)) = true := by simp [he]
    have e0' : ((b.work) == (a.work)) = false := by simp [he]
    clear hA hz
    rw [HR.out]
    go_enter Try.func153, Try.ntmps153
    go_wp2_with (first |  (go_at_call 88; (with_reducible refine (refEnCmp_any a.en b.en _).mono ?_); rintro e w3 ⟨rfl, b3⟩; obtain ⟨c3, f3⟩ := bcell b3; have z3 := b3.size; (try simp at z3); have d3a := fun o => c3 (w.heap.size) o (by first | omega | (simp; done) | (simp; omega)); have d3b := fun o => c3 (w.heap.size + 1) o (by first | omega | (simp; done) | (simp; omega)); clear c3 f3))
    go_ret
    refine ⟨by (try rw [HR.out]); first | rfl | (simp; done) | (simp; rfl), ?_⟩
    (repeat (first | with_reducible assumption | with_reducible exact Below.refl _ _ | with_reducible refine Below.setCell ?_ (by first | omega | (simp; done) | (simp; omega)) _ | with_reducible refine Below.alloc ?_ (by first | omega | (simp; done) | (simp; omega)) _ | with_reducible refine Below.drew ?_ | (with_reducible refine Below.trans ?_ (Below.mono (by with_reducible assumption) (by first | omega | (simp; done) | (simp; omega)))) | (refine Below.trans ?_ (Below.mono (by assumption) (by first | omega | (simp; done) | (simp; omega))))))
set_option maxRecDepth 100000 in
set_option maxHeartbeats 8000000 in
theorem ref_ahead_4 (a b : Pe) (fa : a.fits) (fb : b.fits) (s : Nat) (hs : s < 18446744073709551616) (w : World) :
    Calls Try.prog 153 #[.agg #[.bool a.en.ad.v6, .int .u64 a.en.ad.hi, .int .u64 a.en.ad.lo, .int .i64 a.en.port, .bool a.came, .int .i64 a.since, .int .i64 a.pts, .int .i64 a.at_, .int .i64 a.ping, .int .i64 a.work], .agg #[.bool b.en.ad.v6, .int .u64 b.en.ad.hi, .int .u64 b.en.ad.lo, .int .i64 b.en.port, .bool b.came, .int .i64 b.since, .int .i64 b.pts, .int .i64 b.at_, .int .i64 b.ping, .int .i64 b.work], .int .i64 4, .int .u64 s] w fun e w' => e = .returned (.bool (rkAhead a b 4 s)) ∧ Below w.heap.size w w' := by
  have hA := @rkAhead_in a b 4 s (by omega) (by omega)
  by_cases he : a.since = b.since
  · have hz : rkCmp a b 4 s = 0 := by rw [show rkCmp a b 4 s = cmpI (a.since) (b.since) from by unfold rkCmp; rw [if_neg (by decide), if_neg (by decide), if_neg (by decide), if_pos rfl]]; rw [he]; exact cmpI_self _
    have HR : Hid (rkAhead a b 4 s = decide (enCmp a.en b.en < 0)) := by show _ = _; rw [hA, rkFull_eq hz]
    have e0 : ((a.since) != (b.since)) = false := by simp [he]
    have e0' : ((a.since) == (b.since)) = true := by simp [he]
    clear hA hz
    rw [HR.out]
    go_enter Try.func153, Try.ntmps153
    go_wp2_with (first |  (go_at_call 88; (with_reducible refine (refEnCmp_any a.en b.en _).mono ?_); rintro e w3 ⟨rfl, b3⟩; obtain ⟨c3, f3⟩ := bcell b3; have z3 := b3.size; (try simp at z3); have d3a := fun o => c3 (w.heap.size) o (by first | omega | (simp; done) | (simp; omega)); have d3b := fun o => c3 (w.heap.size + 1) o (by first | omega | (simp; done) | (simp; omega)); clear c3 f3))
    go_ret
    refine ⟨by (try rw [HR.out]); first | rfl | (simp; done) | (simp; rfl), ?_⟩
    (repeat (first | with_reducible assumption | with_reducible exact Below.refl _ _ | with_reducible refine Below.setCell ?_ (by first | omega | (simp; done) | (simp; omega)) _ | with_reducible refine Below.alloc ?_ (by first | omega | (simp; done) | (simp; omega)) _ | with_reducible refine Below.drew ?_ | (with_reducible refine Below.trans ?_ (Below.mono (by with_reducible assumption) (by first | omega | (simp; done) | (simp; omega)))) | (refine Below.trans ?_ (Below.mono (by assumption) (by first | omega | (simp; done) | (simp; omega))))))
  · have hz : rkCmp a b 4 s ≠ 0 := by rw [show rkCmp a b 4 s = cmpI (a.since) (b.since) from by unfold rkCmp; rw [if_neg (by decide), if_neg (by decide), if_neg (by decide), if_pos rfl]]; exact cmpI_ne he
    have HR : Hid (rkAhead a b 4 s = decide (a.since < b.since)) := by show _ = _; rw [hA, rkFull_ne hz]; rw [show rkCmp a b 4 s = cmpI (a.since) (b.since) from by unfold rkCmp; rw [if_neg (by decide), if_neg (by decide), if_neg (by decide), if_pos rfl]]; rw [decide_eq_decide]; exact cmp_lt_iff _ _
    have e0 : ((a.since) != (b.since)) = true := by simp [he]
    have e0' : ((a.since) == (b.since)) = false := by simp [he]
    clear hA hz
    rw [HR.out]
    go_enter Try.func153, Try.ntmps153
    go_wp2_with (first |  (go_at_call 88; (with_reducible refine (refEnCmp_any a.en b.en _).mono ?_); rintro e w3 ⟨rfl, b3⟩; obtain ⟨c3, f3⟩ := bcell b3; have z3 := b3.size; (try simp at z3); have d3a := fun o => c3 (w.heap.size) o (by first | omega | (simp; done) | (simp; omega)); have d3b := fun o => c3 (w.heap.size + 1) o (by first | omega | (simp; done) | (simp; omega)); clear c3 f3))
    go_ret
    refine ⟨by (try rw [HR.out]); first | rfl | (simp; done) | (simp; rfl), ?_⟩
    (repeat (first | with_reducible assumption | with_reducible exact Below.refl _ _ | with_reducible refine Below.setCell ?_ (by first | omega | (simp; done) | (simp; omega)) _ | with_reducible refine Below.alloc ?_ (by first | omega | (simp; done) | (simp; omega)) _ | with_reducible refine Below.drew ?_ | (with_reducible refine Below.trans ?_ (Below.mono (by with_reducible assumption) (by first | omega | (simp; done) | (simp; omega)))) | (refine Below.trans ?_ (Below.mono (by assumption) (by first | omega | (simp; done) | (simp; omega))))))
set_option maxRecDepth 100000 in
set_option maxHeartbeats 8000000 in
theorem ref_ahead_any (a b : Pe) (fa : a.fits) (fb : b.fits) (q : Int) (s : Nat) (hs : s < 18446744073709551616) (w : World) :
    Calls Try.prog 153 #[.agg #[.bool a.en.ad.v6, .int .u64 a.en.ad.hi, .int .u64 a.en.ad.lo, .int .i64 a.en.port, .bool a.came, .int .i64 a.since, .int .i64 a.pts, .int .i64 a.at_, .int .i64 a.ping, .int .i64 a.work], .agg #[.bool b.en.ad.v6, .int .u64 b.en.ad.hi, .int .u64 b.en.ad.lo, .int .i64 b.en.port, .bool b.came, .int .i64 b.since, .int .i64 b.pts, .int .i64 b.at_, .int .i64 b.ping, .int .i64 b.work], .int .i64 q, .int .u64 s] w fun e w' => e = .returned (.bool (rkAhead a b q s)) ∧ Below w.heap.size w w' := by
  by_cases h1 : q = 1
  · subst h1; exact ref_ahead_1 a b fa fb s hs w
  by_cases h2 : q = 2
  · subst h2; exact ref_ahead_2 a b fa fb s hs w
  by_cases h3 : q = 3
  · subst h3; exact ref_ahead_3 a b fa fb s hs w
  by_cases h4 : q = 4
  · subst h4; exact ref_ahead_4 a b fa fb s hs w
  · rw [rkAhead_out h1 h2 h3 h4]
    have e1 : (q == 1) = false := beq_eq_false_iff_ne.2 h1
    have e2 : (q == 2) = false := beq_eq_false_iff_ne.2 h2
    have e3 : (q == 3) = false := beq_eq_false_iff_ne.2 h3
    have e4 : (q == 4) = false := beq_eq_false_iff_ne.2 h4
    clear h1 h2 h3 h4
    go_enter Try.func153, Try.ntmps153
    go_wp2_with fail
    go_ret
    refine ⟨rfl, ?_⟩
    (repeat (first | with_reducible assumption | with_reducible exact Below.refl _ _ | with_reducible refine Below.setCell ?_ (by first | omega | (simp; done) | (simp; omega)) _ | with_reducible refine Below.alloc ?_ (by first | omega | (simp; done) | (simp; omega)) _ | with_reducible refine Below.drew ?_ | (with_reducible refine Below.trans ?_ (Below.mono (by with_reducible assumption) (by first | omega | (simp; done) | (simp; omega)))) | (refine Below.trans ?_ (Below.mono (by assumption) (by first | omega | (simp; done) | (simp; omega))))))
end Go.Proofs.Ytppmjbnhghaffaa
/- The contracts of rank.First's order, and of Rank. Conditions: numbers are 64 bits. -/
namespace Go.Proofs.Ytppmjbnhghaffaa
open Go.RowKit
set_option linter.unusedSimpArgs false
set_option linter.unusedVariables false

set_option maxRecDepth 100000 in
set_option maxHeartbeats 4000000 in
theorem rk_closure (v : Value) (l : List Pe) (hl : ∀ x ∈ l, x.fits) (q : Int) (s : Nat) (hs : s < 18446744073709551616) (B1 B2 B3 : Nat) (i k : Nat) (a b : Pe) (ha : l[i]? = some a) (hb : l[k]? = some b)
    (w : World) (h : ReadsL peV 10 w v l) (c1 : w.cell? ⟨B1, 0, none⟩ = some v) (c2 : w.cell? ⟨B2, 0, none⟩ = some (.int .i64 q)) (c3 : w.cell? ⟨B3, 0, none⟩ = some (.int .u64 s)) (l1 : B1 < w.heap.size) (l2 : B2 < w.heap.size) (l3 : B3 < w.heap.size) :
    Calls Try.prog 198 #[.int .i64 i, .int .i64 k, .pointer (some ⟨B1, 0, none⟩), .pointer (some ⟨B2, 0, none⟩), .pointer (some ⟨B3, 0, none⟩)] w fun e w' => e = .returned (.int .i64 (rkFull a b q s)) ∧ Below w.heap.size w w' := by
  have hi := (List.getElem?_eq_some_iff.1 ha).1
  have hk := (List.getElem?_eq_some_iff.1 hb).1
  have hf := Lib.hid (fun w => rk_full_any a b (hl a (List.mem_of_getElem? ha)) (hl b (List.mem_of_getElem? hb)) q s hs w)
  obtain ⟨hm, p, c, rfl, h3⟩ := pes_open h
  obtain ⟨B, o, rfl, h4, h5, h6⟩ := h3 (by omega)
  have X := (h6 i a ha).ext h5
  have Y := (h6 k b hb).ext h5
  have e1 := fun y => (ext_cell w y (p := ⟨B1, 0, none⟩) l1).trans c1
  have e2 := fun y => (ext_cell w y (p := ⟨B2, 0, none⟩) l2).trans c2
  have e3 := fun y => (ext_cell w y (p := ⟨B3, 0, none⟩) l3).trans c3
  have x0 := fun y => (X y).1; have x1 := fun y => (X y).2.1; have x2 := fun y => (X y).2.2.1; have x3 := fun y => (X y).2.2.2.1; have x4 := fun y => (X y).2.2.2.2.1; have x5 := fun y => (X y).2.2.2.2.2.1; have x6 := fun y => (X y).2.2.2.2.2.2.1; have x7 := fun y => (X y).2.2.2.2.2.2.2.1; have x8 := fun y => (X y).2.2.2.2.2.2.2.2.1; have x9 := fun y => (X y).2.2.2.2.2.2.2.2.2
  have y0 := fun y => (Y y).1; have y1 := fun y => (Y y).2.1; have y2 := fun y => (Y y).2.2.1; have y3 := fun y => (Y y).2.2.2.1; have y4 := fun y => (Y y).2.2.2.2.1; have y5 := fun y => (Y y).2.2.2.2.2.1; have y6 := fun y => (Y y).2.2.2.2.2.2.1; have y7 := fun y => (Y y).2.2.2.2.2.2.2.1; have y8 := fun y => (Y y).2.2.2.2.2.2.2.2.1; have y9 := fun y => (Y y).2.2.2.2.2.2.2.2.2
  have q1 : (0 : Int) ≤ (i : Int) := by omega
  have q2 : (i : Int) < (l.length : Int) := by omega
  have q3 : (0 : Int) ≤ (k : Int) := by omega
  have q4 : (k : Int) < (l.length : Int) := by omega
  clear X Y h3 h6 ha hb hl c1 c2 c3 h
  go_enter Try.func198, Try.ntmps198
  go_wp2_with fail
  refine wp_region_ext (by kernel_rfl) (by kernel_rfl) ?_
  repeat (go_big_quiet_step ((first | (go_at_call 152; with_reducible exact qe (hf.out _)))))
  refine wpQuiet_nil ?_
  intro _ hw'
  obtain ⟨x, hw''⟩ := hw'
  subst hw''
  go_wp2_with fail
  go_ret
  exact ⟨rfl, ext_below w x⟩
/-- how many of the first k count and stand ahead of a -/
def rkN (l : List Pe) (a : Pe) (q : Int) (s : Nat) (k : Nat) : Nat := ((l.take k).filter fun p => rkCounts p q && rkAhead p a q s).length
def rkRank (l : List Pe) (i : Int) (q : Int) (s : Nat) : Int := if i < 0 ∨ (l.length : Int) ≤ i then -1 else ((rkN l (l[i.toNat]?.getD ⟨⟨⟨false, 0, 0⟩, 0⟩, false, 0, 0, 0, 0, 0⟩) q s l.length : Nat) : Int)
theorem rkN_succ (l : List Pe) (a : Pe) (q : Int) (s : Nat) (k : Nat) (p : Pe) (h : l[k]? = some p) : rkN l a q s (k + 1) = rkN l a q s k + (if (rkCounts p q && rkAhead p a q s) = true then 1 else 0) := by
  unfold rkN
  rw [List.take_add_one, h, List.filter_append, List.length_append]
  congr 1
  simp only [Option.toList_some, List.filter_cons, List.filter_nil]
  split <;> rfl
theorem rkN_le (l : List Pe) (a : Pe) (q : Int) (s : Nat) (k : Nat) : rkN l a q s k ≤ l.length := by
  unfold rkN
  exact Nat.le_trans (List.length_filter_le _ _) (by rw [List.length_take]; omega)
set_option maxRecDepth 100000 in
set_option maxHeartbeats 8000000 in
theorem ref_rank_any (v : Value) (l : List Pe) (hl : ∀ x ∈ l, x.fits) (i q : Int) (s : Nat) (hs : s < 18446744073709551616) (w : World) (h : ReadsL peV 10 w v l) (hn : l.length ≤ 1000000) :
    Calls Try.prog 123 #[v, .int .i64 i, .int .i64 q, .int .u64 s] w fun e w' => e = .returned (.int .i64 (rkRank l i q s)) ∧ Below w.heap.size w w' := by
  obtain ⟨hm, p, c, rfl, h3⟩ := pes_open h
  clear h
  unfold rkRank
  by_cases h1 : i < 0
  · rw [if_pos (Or.inl h1)]
    go_enter Try.func123, Try.ntmps123
    go_wp2_with fail
    go_ret
    exact ⟨rfl, Below.refl _ _⟩
  by_cases h2 : (l.length : Int) ≤ i
  · rw [if_pos (Or.inr h2)]
    go_enter Try.func123, Try.ntmps123
    go_wp2_with fail
    go_ret
    exact ⟨rfl, Below.refl _ _⟩
  rw [if_neg (by omega)]
  obtain ⟨j, rfl⟩ : ∃ j : Nat, i = j := ⟨i.toNat, by omega⟩
  have hj : j < l.length := by omega
  have hja : l[j]? = some l[j] := List.getElem?_eq_getElem hj
  rw [show ((j : Int)).toNat = j from by omega, hja]
  have hf : l[j].fits := hl _ (List.getElem_mem _)
  generalize l[j] = a at *
  simp only [Option.getD_some]
  obtain ⟨b, o, rfl, h4, h5, h6⟩ := h3 (by omega)
  have HA := h6 j a hja
  clear h3 hja
  go_enter Try.func123, Try.ntmps123
  go_wp2_with fail
  go_loopw [9, 10] (fun n' i' wr => ∃ k : Nat, k ≤ l.length ∧ i' = .int .i64 k ∧ n' = .int .i64 ((rkN l a q s k : Nat) : Int) ∧ Below w.heap.size w wr) (fun _ i' _ => l.length - (intOf i').toNat)
  case atStart => exact ⟨0, by omega, rfl, rfl, Below.refl _ _⟩
  case round =>
    obtain ⟨k, hk, rfl, rfl, hb⟩ := hrel
    have hzb := hb.size
    by_cases hlt : k < l.length
    · obtain ⟨p, hp⟩ : ∃ p, l[k]? = some p := ⟨_, List.getElem?_eq_getElem hlt⟩
      have hN := rkN_succ l a q s k p hp
      have hNl := rkN_le l a q s k
      have fp : p.fits := hl p (List.mem_of_getElem? hp)
      have hc := fun w => ref_counts_any p q w
      have ha := fun w => ref_ahead_any p a fp hf q s hs w
      have K := (h6 k p hp).below hb h5
      have q1 : (0 : Int) ≤ (k : Int) := by omega
      have q2 : (k : Int) < (l.length : Int) := by omega
      have q3 : (0 : Int) ≤ (j : Int) := by omega
      have q4 : (j : Int) < (l.length : Int) := by omega
      generalize rkCounts p q = cc at *
      generalize rkAhead p a q s = aa at *
      generalize hg : rkN l a q s k = g at *
      have HN := Lib.hid hN; have HH := Lib.hid hc; have HAA := Lib.hid ha; have HP := Lib.hid hp; have HG := Lib.hid hg
      clear hN hc ha hp hg
      go_upto_region 7 with fail
      have Y := (HA.below hb h5).ext (Nat.lt_of_lt_of_le h5 hb.size)
      have X := K.ext (Nat.lt_of_lt_of_le h5 hb.size)
      have y0 := fun y => (Y y).1; have y1 := fun y => (Y y).2.1; have y2 := fun y => (Y y).2.2.1; have y3 := fun y => (Y y).2.2.2.1; have y4 := fun y => (Y y).2.2.2.2.1; have y5 := fun y => (Y y).2.2.2.2.2.1; have y6 := fun y => (Y y).2.2.2.2.2.2.1; have y7 := fun y => (Y y).2.2.2.2.2.2.2.1; have y8 := fun y => (Y y).2.2.2.2.2.2.2.2.1; have y9 := fun y => (Y y).2.2.2.2.2.2.2.2.2
      have x0 := fun y => (X y).1; have x1 := fun y => (X y).2.1; have x2 := fun y => (X y).2.2.1; have x3 := fun y => (X y).2.2.2.1; have x4 := fun y => (X y).2.2.2.2.1; have x5 := fun y => (X y).2.2.2.2.2.1; have x6 := fun y => (X y).2.2.2.2.2.2.1; have x7 := fun y => (X y).2.2.2.2.2.2.2.1; have x8 := fun y => (X y).2.2.2.2.2.2.2.2.1; have x9 := fun y => (X y).2.2.2.2.2.2.2.2.2
      clear X Y K
      cases cc with
      | false =>
        refine wp_region_ext (by kernel_rfl) (by kernel_rfl) ?_
        repeat (go_big_quiet_step ((first | (go_at_call 122; with_reducible exact qe (HH.out _)) | (go_at_call 153; with_reducible exact qe (HAA.out _)))))
        refine wpQuiet_nil ?_
        intro _ hw'
        obtain ⟨gx, hw''⟩ := hw'
        subst hw''
        clear x0 x1 x2 x3 x4 x5 x6 x7 x8 x9 y0 y1 y2 y3 y4 y5 y6 y7 y8 y9
        have b8 := below2 hb (ext_below wr gx)
        go_wp2_with fail
        go_roundw
        case rel => exact ⟨k + 1, by omega, by go_num, by rw [HN.out]; simp [], b8⟩
        case measure => simp [intOf]; omega
      | true =>
        cases aa with
        | false =>
          refine wp_region_ext (by kernel_rfl) (by kernel_rfl) ?_
          repeat (go_big_quiet_step ((first | (go_at_call 122; with_reducible exact qe (HH.out _)) | (go_at_call 153; with_reducible exact qe (HAA.out _)))))
          refine wpQuiet_nil ?_
          intro _ hw'
          obtain ⟨gx, hw''⟩ := hw'
          subst hw''
          clear x0 x1 x2 x3 x4 x5 x6 x7 x8 x9 y0 y1 y2 y3 y4 y5 y6 y7 y8 y9
          have b8 := below2 hb (ext_below wr gx)
          go_wp2_with fail
          go_roundw
          case rel => exact ⟨k + 1, by omega, by go_num, by rw [HN.out]; simp [], b8⟩
          case measure => simp [intOf]; omega
        | true =>
          refine wp_region_ext (by kernel_rfl) (by kernel_rfl) ?_
          repeat (go_big_quiet_step ((first | (go_at_call 122; with_reducible exact qe (HH.out _)) | (go_at_call 153; with_reducible exact qe (HAA.out _)))))
          refine wpQuiet_nil ?_
          intro _ hw'
          obtain ⟨gx, hw''⟩ := hw'
          subst hw''
          clear x0 x1 x2 x3 x4 x5 x6 x7 x8 x9 y0 y1 y2 y3 y4 y5 y6 y7 y8 y9
          have b8 := below2 hb (ext_below wr gx)
          go_wp2_with fail
          go_roundw
          case rel => exact ⟨k + 1, by omega, by go_num, by rw [HN.out]; simp [], b8⟩
          case measure => simp [intOf]; omega
    · obtain rfl : k = l.length := by omega
      go_wp2_with fail
      go_ret
      exact ⟨rfl, hb⟩
end Go.Proofs.Ytppmjbnhghaffaa
