/- The laws of rank. No condition. -/
import Derived.Test.YtdjmejdfcceknaaRankF
namespace Go.Proofs.Ytdjmejdfcceknaa
open Go.RowKit
set_option linter.unusedSimpArgs false
set_option linter.unusedVariables false

theorem ints_same (v u : Value) (L : List Nat) (w : World) (hv : Reads w v L.length 1 (L.map natV)) (hu : Reads w u L.length 1 (L.map natV)) :
    Calls Try.prog 42 #[v, u] w fun e w' => e = .returned (.bool true) ∧ Below w.heap.size w w' := by
  obtain ⟨_, hn, a, cap, rfl, ho⟩ := hv.open
  obtain ⟨_, _, a2, cap2, rfl, ho2⟩ := hu.open
  clear hv hu
  go_enter Try.func42, Try.ntmps42
  go_wp2_with fail
  go_loopw [5] (fun i wr => ∃ (k : Nat), k ≤ L.length ∧ i = .int .i64 k ∧ Below w.heap.size w wr) (fun i _ => L.length - (intOf i).toNat)
  case atStart => exact ⟨0, Nat.zero_le _, rfl, Below.refl _ _⟩
  case round =>
    obtain ⟨k, hk, rfl, hb⟩ := hrel
    by_cases hk2 : k < L.length
    · obtain ⟨b, o, rfl, hc, hlt, hx⟩ := ho (by omega)
      obtain ⟨b2, o2, rfl, hc2, hlt2, hx2⟩ := ho2 (by omega)
      have g1 := hx k (natV L[k]) (by rw [List.getElem?_map, List.getElem?_eq_getElem hk2]; rfl)
      have g2 := hx2 k (natV L[k]) (by rw [List.getElem?_map, List.getElem?_eq_getElem hk2]; rfl)
      generalize L[k] = x at g1 g2
      unfold natV at g1 g2
      have hz := hb.size
      have f1 := fun y => (ext_cell wr y (p := ⟨b, o + k, none⟩) (by show b < _; omega)).trans (keep hb hlt g1)
      have f2 := fun y => (ext_cell wr y (p := ⟨b2, o2 + k, none⟩) (by show b2 < _; omega)).trans (keep hb hlt2 g2)
      have q1 : (0 : Int) ≤ (k : Int) := by omega
      have q2 : (k : Int) < (L.length : Int) := by omega
      clear ho ho2 hx hx2 g1 g2
      go_wp2_with fail
      refine wp_region_ext (by kernel_rfl) (by kernel_rfl) ?_
      repeat (go_big_quiet_step (fail))
      refine wpQuiet_nil ?_
      intro _ hw'
      obtain ⟨gx, hw''⟩ := hw'
      subst hw''
      clear f1 f2
      have b8 := below2 hb (ext_below wr gx)
      go_wp2_with fail
      go_roundw
      case rel => exact ⟨k + 1, by omega, by go_num, b8⟩
      case measure => simp [intOf]; omega
    · go_wp2_with fail
      go_ret
      exact ⟨rfl, hb⟩
theorem at18_any (port ping : Int) (w : World) : Calls Try.prog 87 #[.int .i64 port, .int .i64 ping] w fun e w' => e = .returned (.agg #[.bool ((⟨⟨⟨false, 0, 1⟩, port⟩, true, 0, 0, 0, ping, 0⟩ : Pe)).en.ad.v6, .int .u64 ((⟨⟨⟨false, 0, 1⟩, port⟩, true, 0, 0, 0, ping, 0⟩ : Pe)).en.ad.hi, .int .u64 ((⟨⟨⟨false, 0, 1⟩, port⟩, true, 0, 0, 0, ping, 0⟩ : Pe)).en.ad.lo, .int .i64 ((⟨⟨⟨false, 0, 1⟩, port⟩, true, 0, 0, 0, ping, 0⟩ : Pe)).en.port, .bool ((⟨⟨⟨false, 0, 1⟩, port⟩, true, 0, 0, 0, ping, 0⟩ : Pe)).came, .int .i64 ((⟨⟨⟨false, 0, 1⟩, port⟩, true, 0, 0, 0, ping, 0⟩ : Pe)).since, .int .i64 ((⟨⟨⟨false, 0, 1⟩, port⟩, true, 0, 0, 0, ping, 0⟩ : Pe)).pts, .int .i64 ((⟨⟨⟨false, 0, 1⟩, port⟩, true, 0, 0, 0, ping, 0⟩ : Pe)).at_, .int .i64 ((⟨⟨⟨false, 0, 1⟩, port⟩, true, 0, 0, 0, ping, 0⟩ : Pe)).ping, .int .i64 ((⟨⟨⟨false, 0, 1⟩, port⟩, true, 0, 0, 0, ping, 0⟩ : Pe)).work]) ∧ Below w.heap.size w w' := by
  go_enter Try.func87, Try.ntmps87
  go_wp2_with fail
  refine bodyPost_ret (v := .agg #[.bool ((⟨⟨⟨false, 0, 1⟩, port⟩, true, 0, 0, 0, ping, 0⟩ : Pe)).en.ad.v6, .int .u64 ((⟨⟨⟨false, 0, 1⟩, port⟩, true, 0, 0, 0, ping, 0⟩ : Pe)).en.ad.hi, .int .u64 ((⟨⟨⟨false, 0, 1⟩, port⟩, true, 0, 0, 0, ping, 0⟩ : Pe)).en.ad.lo, .int .i64 ((⟨⟨⟨false, 0, 1⟩, port⟩, true, 0, 0, 0, ping, 0⟩ : Pe)).en.port, .bool ((⟨⟨⟨false, 0, 1⟩, port⟩, true, 0, 0, 0, ping, 0⟩ : Pe)).came, .int .i64 ((⟨⟨⟨false, 0, 1⟩, port⟩, true, 0, 0, 0, ping, 0⟩ : Pe)).since, .int .i64 ((⟨⟨⟨false, 0, 1⟩, port⟩, true, 0, 0, 0, ping, 0⟩ : Pe)).pts, .int .i64 ((⟨⟨⟨false, 0, 1⟩, port⟩, true, 0, 0, 0, ping, 0⟩ : Pe)).at_, .int .i64 ((⟨⟨⟨false, 0, 1⟩, port⟩, true, 0, 0, 0, ping, 0⟩ : Pe)).ping, .int .i64 ((⟨⟨⟨false, 0, 1⟩, port⟩, true, 0, 0, 0, ping, 0⟩ : Pe)).work]) (by simp [results, Try.results87, go_sem, *]) rfl ⟨rfl, ?_⟩
  (repeat (first | with_reducible assumption | with_reducible exact Below.refl _ _ | with_reducible refine Below.setCell ?_ (by first | omega | (simp; done) | (simp; omega)) _ | with_reducible refine Below.alloc ?_ (by first | omega | (simp; done) | (simp; omega)) _ | with_reducible refine Below.drew ?_ | (with_reducible refine Below.trans ?_ (Below.mono (by with_reducible assumption) (by first | omega | (simp; done) | (simp; omega)))) | (refine Below.trans ?_ (Below.mono (by assumption) (by first | omega | (simp; done) | (simp; omega))))))
def a18 : List Pe := [⟨⟨⟨false, 0, 1⟩, 1⟩, true, 0, 0, 0, 0, 0⟩, ⟨⟨⟨false, 0, 1⟩, 2⟩, true, 0, 0, 0, 5, 0⟩, ⟨⟨⟨false, 0, 1⟩, 3⟩, true, 0, 0, 0, 3, 0⟩]
theorem a18_fits : ∀ x ∈ a18, x.fits := by
  intro x hx
  unfold a18 at hx
  simp only [List.mem_cons, List.not_mem_nil, or_false] at hx
  rcases hx with rfl | rfl | rfl <;> (unfold Pe.fits Ad.fits; decide)
theorem a18_first : rkFirst a18 2 9 7 = [2, 1] := by decide +kernel
theorem a18_rank : rkRank a18 1 2 7 = 1 := by decide +kernel
theorem reads_blk {α : Type} {f : α → List Value} {n : Nat} {w : World} {B : Nat} {T : TypeId} {l : List α} (hB : BlockIs w B (l.flatMap f) T) (hl : 0 < l.length) (hm : l.length ≤ 9223372036854775807) (hn : (l.flatMap f).length = l.length * n) : ReadsL f n w (.slice (some ⟨B, 0, none⟩) l.length l.length) l :=
  ⟨hn, hm, Or.inr ⟨hl, B, 0, l.length, rfl, Nat.le_refl _, hB.lt, fun j x hj => by rw [Nat.zero_add]; exact hB.cell hj⟩⟩
set_option maxRecDepth 100000 in
set_option maxHeartbeats 8000000 in
theorem awake18_any (w : World) : Calls Try.prog 37 #[] w fun e w' => e = .returned (.bool true) ∧ Below w.heap.size w w' := by
  have A1 := Lib.hid (fun w => at18_any 1 0 w)
  have A2 := Lib.hid (fun w => at18_any 2 5 w)
  have A3 := Lib.hid (fun w => at18_any 3 3 w)
  go_enter Try.func37, Try.ntmps37
  go_upto_region 2 with (first | (go_at_call 87; (with_reducible refine (A1.out _).mono ?_); rintro e w1 ⟨rfl, b1⟩) | (go_at_call 87; (with_reducible refine (A2.out _).mono ?_); rintro e w2 ⟨rfl, b2⟩) | (go_at_call 87; (with_reducible refine (A3.out _).mono ?_); rintro e w3 ⟨rfl, b3⟩))
  go_name_world W4 hW4
  have hB : BlockIs W4 w3.heap.size (a18.flatMap peV) 34 := by subst hW4; exact BlockIs.new w3 (a18.flatMap peV) _
  have b123 := below2 (below2 b1 b2) b3
  have b4 : Below w.heap.size w W4 := by subst hW4; exact b123.alloc b123.size _
  clear hW4 b1 b2 b3 b123
  have hR : ReadsL peV 10 W4 (.slice (some ⟨w3.heap.size, 0, none⟩) 3 3) a18 := reads_blk hB (by decide) (by decide) (by decide)
  have hF := rk_first_any _ a18 a18_fits 2 9 (by omega) 7 (by omega) W4 hR (by decide)
  rw [a18_first, show ((7 : Nat) : Int) = 7 from rfl] at hF
  have HF := Lib.hid hF
  clear hF
  go_upto_region 3 with (go_at_call 43; (with_reducible refine (HF.out).mono ?_); rintro e w5 ⟨r, rfl, hr, b5⟩)
  obtain ⟨_, _, a, c, rfl, ho⟩ := hr.open
  obtain ⟨b, o, rfl, hc, hlt, hx⟩ := ho (by decide)
  have g1 : w5.cell? ⟨b, o, none⟩ = some (.int .i64 2) := hx 0 (natV 2) rfl
  have g2 : w5.cell? ⟨b, o + 1, none⟩ = some (.int .i64 1) := hx 1 (natV 1) rfl
  have hc : 2 ≤ c := hc
  simp only [List.length_cons, List.length_nil]
  have hR5 := Reads.below hR b5
  have hB5 := hB.below b5
  have hK := rk_rank_any _ a18 a18_fits 1 2 7 (by omega) w5 hR5 (by decide)
  rw [a18_rank, show ((7 : Nat) : Int) = 7 from rfl] at hK
  have HK := Lib.hid hK
  have HC : Hid (∀ w, Calls Try.prog 38 #[.agg #[.bool false, .int .u64 0, .int .u64 1, .int .i64 1, .bool true, .int .i64 0, .int .i64 0, .int .i64 0, .int .i64 0, .int .i64 0], .int .i64 2] w fun e w' => e = .returned (.bool false) ∧ Below w.heap.size w w') := fun w => rk_counts_any ⟨⟨⟨false, 0, 1⟩, 1⟩, true, 0, 0, 0, 0, 0⟩ 2 w
  have b5' := below2 b4 b5
  clear hK hr ho hx hR hR5 b5 b4 hB HF A1 A2 A3
  go_wp2_with (first | (go_at_call 45; (with_reducible refine (HK.out).mono ?_); rintro e w6 ⟨rfl, b6⟩; have hB6 := hB5.below b6; have x0 : w6.cell? ⟨w3.heap.size, 0, none⟩ = some (.bool false) := hB6.cell rfl; have x1 : w6.cell? ⟨w3.heap.size, 1, none⟩ = some (.int .u64 0) := hB6.cell rfl; have x2 : w6.cell? ⟨w3.heap.size, 2, none⟩ = some (.int .u64 1) := hB6.cell rfl; have x3 : w6.cell? ⟨w3.heap.size, 3, none⟩ = some (.int .i64 1) := hB6.cell rfl; have x4 : w6.cell? ⟨w3.heap.size, 4, none⟩ = some (.bool true) := hB6.cell rfl; have x5 : w6.cell? ⟨w3.heap.size, 5, none⟩ = some (.int .i64 0) := hB6.cell rfl; have x6 : w6.cell? ⟨w3.heap.size, 6, none⟩ = some (.int .i64 0) := hB6.cell rfl; have x7 : w6.cell? ⟨w3.heap.size, 7, none⟩ = some (.int .i64 0) := hB6.cell rfl; have x8 : w6.cell? ⟨w3.heap.size, 8, none⟩ = some (.int .i64 0) := hB6.cell rfl; have x9 : w6.cell? ⟨w3.heap.size, 9, none⟩ = some (.int .i64 0) := hB6.cell rfl; have b7 := below2 b5' b6) | (go_at_call 38; (with_reducible refine (HC.out _).mono ?_); rintro e w8 ⟨rfl, b8⟩))
  go_ret
  exact ⟨rfl, below2 b7 b8⟩
structure As where
  by_ : Int
  n : Int
  at_ : Int
  secret : Nat
def asV (a : As) : List Value := [.int .i64 a.by_, .int .i64 a.n, .int .i64 a.at_, .int .u64 a.secret]
theorem asV_len (a : As) : (asV a).length = 4 := rfl
def As.fits (a : As) : Prop := (-9223372036854775808 ≤ a.n ∧ a.n ≤ 9223372036854775807) ∧ a.secret < 18446744073709551616
set_option maxRecDepth 100000 in
set_option maxHeartbeats 16000000 in
theorem rankTells_any (v : Value) (l : List Pe) (a : As) (w : World) (h : ReadsL peV 10 w v l) (hl : ∀ x ∈ l, x.fits) (hf : a.fits) :
    Calls Try.prog 7 #[v, .agg #[.int .i64 a.by_, .int .i64 a.n, .int .i64 a.at_, .int .u64 a.secret]] w fun e w' => e = .returned (.bool true) ∧ Below w.heap.size w w' := by
  have h0 := h
  obtain ⟨hm, p, c, rfl, h3⟩ := pes_open h
  clear h
  have HA := Lib.hid (fun w => awake18_any w)
  rcases Int.lt_or_le 30 (l.length : Int) with hlen | hlen
  · go_enter Try.func7, Try.ntmps7
    go_wp2_with (go_at_call 37; (with_reducible refine (HA.out _).mono ?_); rintro e w2 ⟨rfl, b2⟩; obtain ⟨c2, f2⟩ := bcell b2; have z2 := b2.size; (try simp at z2); clear c2 f2)
    go_ret
    refine ⟨rfl, ?_⟩
    (repeat (first | with_reducible assumption | with_reducible exact Below.refl _ _ | with_reducible refine Below.setCell ?_ (by first | omega | (simp; done) | (simp; omega)) _ | with_reducible refine Below.alloc ?_ (by first | omega | (simp; done) | (simp; omega)) _ | with_reducible refine Below.drew ?_ | (with_reducible refine Below.trans ?_ (Below.mono (by with_reducible assumption) (by first | omega | (simp; done) | (simp; omega)))) | (refine Below.trans ?_ (Below.mono (by assumption) (by first | omega | (simp; done) | (simp; omega))))))
  · go_enter Try.func7, Try.ntmps7
    go_upto_region 4 with fail
    go_name_world WW0 hWW0
    have e00 : WW0.cell? ⟨w.heap.size, 0, none⟩ = some (.int .i64 a.by_) := by subst hWW0; (first | (simp (disch := first | omega | (simp; omega)) [World.cell?_alloc_past, World.frozen?_alloc_past, *]; done) | (simp (disch := first | omega | (simp; omega)) [World.cell?_setCell_far, World.cell?_alloc_past, *]; done) | (simp (disch := first | omega | (simp; omega)) [World.cell?_alloc_past, World.frozen?_alloc_past, *]; rfl) | (simp (disch := first | omega | (simp; omega)) [World.cell?_setCell_far, World.cell?_alloc_past, *]; rfl) | (simp [go_sem, *]; done) | (simp (disch := first | omega | (simp; omega) | (simp [go_sem, *]; done)) [go_sem, World.cell?_setCell_far, World.cell?_alloc_past, World.frozen?_alloc_past, *]; done))
    have e01 : WW0.cell? ⟨w.heap.size, 1, none⟩ = some (.int .i64 a.n) := by subst hWW0; (first | (simp (disch := first | omega | (simp; omega)) [World.cell?_alloc_past, World.frozen?_alloc_past, *]; done) | (simp (disch := first | omega | (simp; omega)) [World.cell?_setCell_far, World.cell?_alloc_past, *]; done) | (simp (disch := first | omega | (simp; omega)) [World.cell?_alloc_past, World.frozen?_alloc_past, *]; rfl) | (simp (disch := first | omega | (simp; omega)) [World.cell?_setCell_far, World.cell?_alloc_past, *]; rfl) | (simp [go_sem, *]; done) | (simp (disch := first | omega | (simp; omega) | (simp [go_sem, *]; done)) [go_sem, World.cell?_setCell_far, World.cell?_alloc_past, World.frozen?_alloc_past, *]; done))
    have e02 : WW0.cell? ⟨w.heap.size, 2, none⟩ = some (.int .i64 a.at_) := by subst hWW0; (first | (simp (disch := first | omega | (simp; omega)) [World.cell?_alloc_past, World.frozen?_alloc_past, *]; done) | (simp (disch := first | omega | (simp; omega)) [World.cell?_setCell_far, World.cell?_alloc_past, *]; done) | (simp (disch := first | omega | (simp; omega)) [World.cell?_alloc_past, World.frozen?_alloc_past, *]; rfl) | (simp (disch := first | omega | (simp; omega)) [World.cell?_setCell_far, World.cell?_alloc_past, *]; rfl) | (simp [go_sem, *]; done) | (simp (disch := first | omega | (simp; omega) | (simp [go_sem, *]; done)) [go_sem, World.cell?_setCell_far, World.cell?_alloc_past, World.frozen?_alloc_past, *]; done))
    have e03 : WW0.cell? ⟨w.heap.size, 3, none⟩ = some (.int .u64 a.secret) := by subst hWW0; (first | (simp (disch := first | omega | (simp; omega)) [World.cell?_alloc_past, World.frozen?_alloc_past, *]; done) | (simp (disch := first | omega | (simp; omega)) [World.cell?_setCell_far, World.cell?_alloc_past, *]; done) | (simp (disch := first | omega | (simp; omega)) [World.cell?_alloc_past, World.frozen?_alloc_past, *]; rfl) | (simp (disch := first | omega | (simp; omega)) [World.cell?_setCell_far, World.cell?_alloc_past, *]; rfl) | (simp [go_sem, *]; done) | (simp (disch := first | omega | (simp; omega) | (simp [go_sem, *]; done)) [go_sem, World.cell?_setCell_far, World.cell?_alloc_past, World.frozen?_alloc_past, *]; done))
    have bw0 : Below w.heap.size w WW0 := by subst hWW0; (repeat (first | assumption | exact Below.refl _ _ | refine Below.setCell ?_ (by first | omega | (simp; done) | (simp; omega)) _ | refine Below.alloc ?_ (by first | omega | (simp; done) | (simp; omega)) _ | refine Below.drew ?_ | (refine Below.trans ?_ (Below.mono (by assumption) (by first | omega | (simp; done) | (simp; omega))))))
    have zw0 : _ := bw0.size
    have lW00 : w.heap.size < WW0.heap.size := by subst hWW0; first | omega | (simp; done) | (simp; omega)
    clear hWW0
    have HB00 := Lib.hid bw0
    go_loopw [5] (fun i' wr => ∃ k : Nat, k ≤ l.length ∧ i' = .int .i64 k ∧ Hid (Below WW0.heap.size WW0 wr)) (fun i' _ => l.length - (intOf i').toNat)
    case atStart => exact ⟨0, by omega, rfl, Below.refl _ _⟩
    case round =>
      obtain ⟨k, hk, rfl, HB⟩ := hrel
      have hwr := HB.out.size
      have e0 := keep HB.out lW00 e00
      have e1 := keep HB.out lW00 e01
      have e2 := keep HB.out lW00 e02
      have e3 := keep HB.out lW00 e03
      have hlw : w.heap.size < wr.heap.size := by omega
      have hbw := bw0.trans (HB.out.mono bw0.size)
      by_cases hlt : k < l.length
      · obtain ⟨p, hp⟩ : ∃ p, l[k]? = some p := ⟨_, List.getElem?_eq_getElem hlt⟩
        obtain ⟨b, o, rfl, h4, h5, h6⟩ := h3 (by omega)
        have f0 := fun y => (ext_cell wr y (p := ⟨w.heap.size, 0, none⟩) hlw).trans e0
        have f1 := fun y => (ext_cell wr y (p := ⟨w.heap.size, 1, none⟩) hlw).trans e1
        have f2 := fun y => (ext_cell wr y (p := ⟨w.heap.size, 2, none⟩) hlw).trans e2
        have f3 := fun y => (ext_cell wr y (p := ⟨w.heap.size, 3, none⟩) hlw).trans e3
        have K := ((h6 k p hp).below hbw h5).ext (Nat.lt_of_lt_of_le h5 hbw.size)
        have x0 := fun y => (K y).1; have x1 := fun y => (K y).2.1; have x2 := fun y => (K y).2.2.1; have x3 := fun y => (K y).2.2.2.1; have x4 := fun y => (K y).2.2.2.2.1; have x5 := fun y => (K y).2.2.2.2.2.1; have x6 := fun y => (K y).2.2.2.2.2.2.1; have x7 := fun y => (K y).2.2.2.2.2.2.2.1; have x8 := fun y => (K y).2.2.2.2.2.2.2.2.1; have x9 := fun y => (K y).2.2.2.2.2.2.2.2.2
        have q1 : (0 : Int) ≤ (k : Int) := by omega
        have q2 : (k : Int) < (l.length : Int) := by omega
        have hc := fun w => rk_counts_any p a.by_ w
        have hc2 := fun w => ref_counts_any p a.by_ w
        generalize rkCounts p a.by_ = cc at hc hc2
        have HC := Lib.hid hc; have HC2 := Lib.hid hc2
        clear hc hc2 K e0 e1 e2 e3
        rcases Nat.eq_zero_or_pos k with hk0 | hk0
        · have hk0z : ¬ ((0 : Int) < (k : Int)) := by omega
          have hk0d : decide ((0 : Int) < (k : Int)) = false := decide_eq_false hk0z
          have hk0e : decide (0 < k) = false := decide_eq_false (by omega)
          have HAh : Hid True := trivial
          have HAh2 : Hid True := trivial
          have HK0 := Lib.hid hk0
          clear hp h6 h3 hk0 hk0z
          cases cc with
          | false =>
            go_wp2_with fail
            refine wp_region_ext (by kernel_rfl) (by kernel_rfl) ?_
            repeat (go_big_quiet_step ((first | (go_at_call 38; with_reducible exact qe (HC.out _)) | (go_at_call 39; with_reducible exact qe (HC2.out _)) | (go_at_call 40; with_reducible exact qe (HAh.out _)) | (go_at_call 41; with_reducible exact qe (HAh2.out _)))))
            refine wpQuiet_nil ?_
            intro _ hw'
            obtain ⟨gx, hw''⟩ := hw'
            subst hw''
            clear x0 x1 x2 x3 x4 x5 x6 x7 x8 x9 f0 f1 f2 f3
            go_wp2_with fail
            go_roundw
            case rel => exact ⟨k + 1, by omega, by go_num, HB.out.trans ((ext_below wr gx).mono HB.out.size)⟩
            case measure => simp [intOf]; omega
          | true =>
            go_wp2_with fail
            refine wp_region_ext (by kernel_rfl) (by kernel_rfl) ?_
            repeat (go_big_quiet_step ((first | (go_at_call 38; with_reducible exact qe (HC.out _)) | (go_at_call 39; with_reducible exact qe (HC2.out _)) | (go_at_call 40; with_reducible exact qe (HAh.out _)) | (go_at_call 41; with_reducible exact qe (HAh2.out _)))))
            refine wpQuiet_nil ?_
            intro _ hw'
            obtain ⟨gx, hw''⟩ := hw'
            subst hw''
            clear x0 x1 x2 x3 x4 x5 x6 x7 x8 x9 f0 f1 f2 f3
            go_wp2_with fail
            go_roundw
            case rel => exact ⟨k + 1, by omega, by go_num, HB.out.trans ((ext_below wr gx).mono HB.out.size)⟩
            case measure => simp [intOf]; omega
        · have hk0z : (0 : Int) < (k : Int) := by omega
          have hk0d : decide ((0 : Int) < (k : Int)) = true := decide_eq_true hk0z
          obtain ⟨j, hj⟩ : ∃ j, k = j + 1 := ⟨k - 1, by omega⟩
          obtain ⟨pj, hpj⟩ : ∃ p, l[j]? = some p := ⟨_, List.getElem?_eq_getElem (show j < l.length by omega)⟩
          have K2 := ((h6 j pj hpj).below hbw h5).ext (Nat.lt_of_lt_of_le h5 hbw.size)
          have y0 := fun y => (K2 y).1; have y1 := fun y => (K2 y).2.1; have y2 := fun y => (K2 y).2.2.1; have y3 := fun y => (K2 y).2.2.2.1; have y4 := fun y => (K2 y).2.2.2.2.1; have y5 := fun y => (K2 y).2.2.2.2.2.1; have y6 := fun y => (K2 y).2.2.2.2.2.2.1; have y7 := fun y => (K2 y).2.2.2.2.2.2.2.1; have y8 := fun y => (K2 y).2.2.2.2.2.2.2.2.1; have y9 := fun y => (K2 y).2.2.2.2.2.2.2.2.2
          have zk : (k : Int) - 1 = (j : Int) := by omega
          have q3 : (0 : Int) ≤ (j : Int) := by omega
          have q4 : (j : Int) < (l.length : Int) := by omega
          have ha := fun w => rk_ahead_any pj p (hl pj (List.mem_of_getElem? hpj)) (hl p (List.mem_of_getElem? hp)) a.by_ a.secret hf.2 w
          have ha2 := fun w => ref_ahead_any pj p (hl pj (List.mem_of_getElem? hpj)) (hl p (List.mem_of_getElem? hp)) a.by_ a.secret hf.2 w
          generalize rkAhead pj p a.by_ a.secret = aa at ha ha2
          have HAh := Lib.hid ha; have HAh2 := Lib.hid ha2
          have HJ := Lib.hid hj
          clear ha ha2 K2 hp hpj h6 h3 hj
          cases cc with
          | false =>
            cases aa with
            | false =>
              go_wp2_with fail
              refine wp_region_ext (by kernel_rfl) (by kernel_rfl) ?_
              repeat (go_big_quiet_step ((first | (go_at_call 38; with_reducible exact qe (HC.out _)) | (go_at_call 39; with_reducible exact qe (HC2.out _)) | (go_at_call 40; with_reducible exact qe (HAh.out _)) | (go_at_call 41; with_reducible exact qe (HAh2.out _)))))
              refine wpQuiet_nil ?_
              intro _ hw'
              obtain ⟨gx, hw''⟩ := hw'
              subst hw''
              clear x0 x1 x2 x3 x4 x5 x6 x7 x8 x9 y0 y1 y2 y3 y4 y5 y6 y7 y8 y9 f0 f1 f2 f3
              go_wp2_with fail
              go_roundw
              case rel => exact ⟨k + 1, by omega, by go_num, HB.out.trans ((ext_below wr gx).mono HB.out.size)⟩
              case measure => simp [intOf]; omega
            | true =>
              go_wp2_with fail
              refine wp_region_ext (by kernel_rfl) (by kernel_rfl) ?_
              repeat (go_big_quiet_step ((first | (go_at_call 38; with_reducible exact qe (HC.out _)) | (go_at_call 39; with_reducible exact qe (HC2.out _)) | (go_at_call 40; with_reducible exact qe (HAh.out _)) | (go_at_call 41; with_reducible exact qe (HAh2.out _)))))
              refine wpQuiet_nil ?_
              intro _ hw'
              obtain ⟨gx, hw''⟩ := hw'
              subst hw''
              clear x0 x1 x2 x3 x4 x5 x6 x7 x8 x9 y0 y1 y2 y3 y4 y5 y6 y7 y8 y9 f0 f1 f2 f3
              go_wp2_with fail
              go_roundw
              case rel => exact ⟨k + 1, by omega, by go_num, HB.out.trans ((ext_below wr gx).mono HB.out.size)⟩
              case measure => simp [intOf]; omega
          | true =>
            cases aa with
            | false =>
              go_wp2_with fail
              refine wp_region_ext (by kernel_rfl) (by kernel_rfl) ?_
              repeat (go_big_quiet_step ((first | (go_at_call 38; with_reducible exact qe (HC.out _)) | (go_at_call 39; with_reducible exact qe (HC2.out _)) | (go_at_call 40; with_reducible exact qe (HAh.out _)) | (go_at_call 41; with_reducible exact qe (HAh2.out _)))))
              refine wpQuiet_nil ?_
              intro _ hw'
              obtain ⟨gx, hw''⟩ := hw'
              subst hw''
              clear x0 x1 x2 x3 x4 x5 x6 x7 x8 x9 y0 y1 y2 y3 y4 y5 y6 y7 y8 y9 f0 f1 f2 f3
              go_wp2_with fail
              go_roundw
              case rel => exact ⟨k + 1, by omega, by go_num, HB.out.trans ((ext_below wr gx).mono HB.out.size)⟩
              case measure => simp [intOf]; omega
            | true =>
              go_wp2_with fail
              refine wp_region_ext (by kernel_rfl) (by kernel_rfl) ?_
              repeat (go_big_quiet_step ((first | (go_at_call 38; with_reducible exact qe (HC.out _)) | (go_at_call 39; with_reducible exact qe (HC2.out _)) | (go_at_call 40; with_reducible exact qe (HAh.out _)) | (go_at_call 41; with_reducible exact qe (HAh2.out _)))))
              refine wpQuiet_nil ?_
              intro _ hw'
              obtain ⟨gx, hw''⟩ := hw'
              subst hw''
              clear x0 x1 x2 x3 x4 x5 x6 x7 x8 x9 y0 y1 y2 y3 y4 y5 y6 y7 y8 y9 f0 f1 f2 f3
              go_wp2_with fail
              go_roundw
              case rel => exact ⟨k + 1, by omega, by go_num, HB.out.trans ((ext_below wr gx).mono HB.out.size)⟩
              case measure => simp [intOf]; omega
      · obtain rfl : k = l.length := by omega
        have hRr : ReadsL peV 10 wr (.slice p l.length c) l := Reads.below h0 hbw
        have hF := fun w' (b : Below wr.heap.size wr w') => rk_first_any _ l hl a.by_ a.n hf.1 a.secret hf.2 w' (Reads.below hRr b) (by omega)
        have hF2 := fun w' (b : Below wr.heap.size wr w') => ref_first_any _ l hl a.by_ a.n hf.1 a.secret hf.2 w' (Reads.below hRr b) (by omega)
        have hK := fun w' (b : Below wr.heap.size wr w') => rk_rank_any _ l hl a.at_ a.by_ a.secret hf.2 w' (Reads.below hRr b) (by omega)
        have hK2 := fun w' (b : Below wr.heap.size wr w') => ref_rank_any _ l hl a.at_ a.by_ a.secret hf.2 w' (Reads.below hRr b) (by omega)
        generalize rkFirst l a.by_ a.n a.secret = F at *
        generalize rkRank l a.at_ a.by_ a.secret = rr at *
        have hrr : (rr == rr) = true := by simp
        have HF := Lib.hid hF; have HF2 := Lib.hid hF2; have HK := Lib.hid hK; have HK2 := Lib.hid hK2
        clear hF hF2 hK hK2 hRr h0 h3 e00 e01 e02 e03
        go_wp2_with fail
        go_region_held3 (fun w' => w'.cell? ⟨w.heap.size, 0, none⟩ = some (.int .i64 a.by_) ∧ w'.cell? ⟨w.heap.size, 1, none⟩ = some (.int .i64 a.n) ∧ w'.cell? ⟨w.heap.size, 2, none⟩ = some (.int .i64 a.at_) ∧ w'.cell? ⟨w.heap.size, 3, none⟩ = some (.int .u64 a.secret)) (first | go_keep | (simp (disch := omega) [*])) (first | (go_at_call 43; (with_reducible refine (HF.out _ (by (repeat (first | with_reducible assumption | with_reducible exact Below.refl _ _ | with_reducible refine Below.setCell ?_ (by first | omega | (simp; done) | (simp; omega)) _ | with_reducible refine Below.alloc ?_ (by first | omega | (simp; done) | (simp; omega)) _ | with_reducible refine Below.drew ?_ | (with_reducible refine Below.trans ?_ (Below.mono (by with_reducible assumption) (by first | omega | (simp; done) | (simp; omega)))) | (refine Below.trans ?_ (Below.mono (by assumption) (by first | omega | (simp; done) | (simp; omega)))))))).mono ?_); rintro e w1 ⟨r1, rfl, o1, b1⟩; have z1 := b1.size; (try simp at z1); have d1 := fun o => (bcell b1).1 w.heap.size o (by first | omega | (simp; done) | (simp; omega))) | (go_at_call 44; (with_reducible refine (HF2.out _ (by (repeat (first | with_reducible assumption | with_reducible exact Below.refl _ _ | with_reducible refine Below.setCell ?_ (by first | omega | (simp; done) | (simp; omega)) _ | with_reducible refine Below.alloc ?_ (by first | omega | (simp; done) | (simp; omega)) _ | with_reducible refine Below.drew ?_ | (with_reducible refine Below.trans ?_ (Below.mono (by with_reducible assumption) (by first | omega | (simp; done) | (simp; omega)))) | (refine Below.trans ?_ (Below.mono (by assumption) (by first | omega | (simp; done) | (simp; omega)))))))).mono ?_); rintro e w2 ⟨r2, rfl, o2, b2⟩; have z2 := b2.size; (try simp at z2); have d2 := fun o => (bcell b2).1 w.heap.size o (by first | omega | (simp; done) | (simp; omega))) | (go_at_call 42; refine (ints_same r1 r2 F _ (Reads.below o1 b2) o2).mono ?_; rintro e w3 ⟨rfl, b3⟩; have z3 := b3.size; (try simp at z3); have d3 := fun o => (bcell b3).1 w.heap.size o (by first | omega | (simp; done) | (simp; omega))) | (go_at_call 45; (with_reducible refine (HK.out _ (by (repeat (first | with_reducible assumption | with_reducible exact Below.refl _ _ | with_reducible refine Below.setCell ?_ (by first | omega | (simp; done) | (simp; omega)) _ | with_reducible refine Below.alloc ?_ (by first | omega | (simp; done) | (simp; omega)) _ | with_reducible refine Below.drew ?_ | (with_reducible refine Below.trans ?_ (Below.mono (by with_reducible assumption) (by first | omega | (simp; done) | (simp; omega)))) | (refine Below.trans ?_ (Below.mono (by assumption) (by first | omega | (simp; done) | (simp; omega)))))))).mono ?_); rintro e w4 ⟨rfl, b4⟩; have z4 := b4.size; (try simp at z4); have d4 := fun o => (bcell b4).1 w.heap.size o (by first | omega | (simp; done) | (simp; omega))) | (go_at_call 46; (with_reducible refine (HK2.out _ (by (repeat (first | with_reducible assumption | with_reducible exact Below.refl _ _ | with_reducible refine Below.setCell ?_ (by first | omega | (simp; done) | (simp; omega)) _ | with_reducible refine Below.alloc ?_ (by first | omega | (simp; done) | (simp; omega)) _ | with_reducible refine Below.drew ?_ | (with_reducible refine Below.trans ?_ (Below.mono (by with_reducible assumption) (by first | omega | (simp; done) | (simp; omega)))) | (refine Below.trans ?_ (Below.mono (by assumption) (by first | omega | (simp; done) | (simp; omega)))))))).mono ?_); rintro e w5 ⟨rfl, b5⟩; have z5 := b5.size; (try simp at z5); have d5 := fun o => (bcell b5).1 w.heap.size o (by first | omega | (simp; done) | (simp; omega))) | (go_at_call 37; (with_reducible refine (HA.out _).mono ?_); rintro e w6 ⟨rfl, b6⟩; have z6 := b6.size; (try simp at z6); have d6 := fun o => (bcell b6).1 w.heap.size o (by first | omega | (simp; done) | (simp; omega))))
        all_goals
          go_wp2_with fail
          go_ret
          refine ⟨rfl, ?_⟩
          refine Below.trans hbw (Below.mono (B := wr.heap.size) ?_ hbw.size)
          (repeat (first | with_reducible assumption | with_reducible exact Below.refl _ _ | with_reducible refine Below.setCell ?_ (by first | omega | (simp; done) | (simp; omega)) _ | with_reducible refine Below.alloc ?_ (by first | omega | (simp; done) | (simp; omega)) _ | with_reducible refine Below.drew ?_ | (with_reducible refine Below.trans ?_ (Below.mono (by with_reducible assumption) (by first | omega | (simp; done) | (simp; omega)))) | (refine Below.trans ?_ (Below.mono (by assumption) (by first | omega | (simp; done) | (simp; omega))))))
end Go.Proofs.Ytdjmejdfcceknaa
