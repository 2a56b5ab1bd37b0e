/- The laws of heap hold: for every argument each returns true. No condition. -/
import Derived.Test.YtppmjbnhghaffaaHeapH
import Derived.Deep.DeepCutAuto
namespace Go.Proofs.Ytppmjbnhghaffaa
open Go.RowKit

def i3 : It := ⟨3, ⟨⟨false, 0, 0⟩, 0⟩⟩
def i4 : It := ⟨4, ⟨⟨false, 0, 0⟩, 0⟩⟩
def i5 : It := ⟨5, ⟨⟨false, 0, 0⟩, 0⟩⟩
theorem sort_543 : Hp.sort itLt [i5, i3, i4] = [i3, i4, i5] := by decide +kernel
theorem make_543 : ∃ t, Hp.make itLt [i5, i3, i4] = i3 :: t ∧ t.length = 2 := by
  obtain ⟨h1, h2⟩ := Hp.make_heap tot_it [i5, i3, i4]
  cases hm : Hp.make itLt [i5, i3, i4] with
  | nil => rw [hm] at h2; have := h2.length_eq; simp at this
  | cons r t =>
    rw [hm] at h1 h2
    have hs := Hp.sort_perm (lt := itLt) [i5, i3, i4]
    have hr := Hp.heap_first tot_it h1 (r := r) rfl sort_543 (Hp.sort_sorted tot_it _) (h2.trans hs.symm)
    refine ⟨t, by rw [hr], ?_⟩
    have := h2.length_eq; simpa using this
theorem right_53 : Hp.rightB itLt [i5, i3] = false := right_no (k := 1) (by omega) rfl rfl (by decide +kernel)
set_option maxRecDepth 100000 in
set_option maxHeartbeats 400000 in
theorem awake24_any (w : World) : Calls Try.prog 26 #[] w fun e w' => e = .returned (.bool true) ∧ Below w.heap.size w w' := by
  obtain ⟨t, hm, ht⟩ := make_543
  have hM := Lib.hid (fun (w : World) => make_any (.slice (some ⟨w.heap.size, 0, none⟩) 3 3) [i5, i3, i4] (w.alloc (.cells ([i5, i3, i4].flatMap itV).toArray 38)) (ReadsL.new _ _ itV_len (by omega) (by decide) 3 rfl) (by decide))
  have hR := Lib.hid (fun (w : World) => right_any (.slice (some ⟨w.heap.size, 0, none⟩) 2 2) [i5, i3] (w.alloc (.cells ([i5, i3].flatMap itV).toArray 38)) (ReadsL.new _ _ itV_len (by omega) (by decide) 2 rfl))
  rw [hm] at hM
  rw [right_53] at hR
  have HT := Lib.hid ht; have HM := Lib.hid hm; clear ht hm
  go_enter Try.func26, Try.ntmps26
  go_wp2_with fail
  refine (hM.out _).mono ?_
  rintro e w1 ⟨v1, rfl, hown, hb⟩
  have hP := Lib.hid (pop_some v1 i3 t w1 (owns_readsL hown) (by have := HT.out; omega))
  have HB1 := Lib.hid hb; clear hb hown
  simp only []
  go_at_K
  go_wp2_with fail
  refine hP.out.mono ?_
  rintro e w2 ⟨v2, rfl, hown2, hb2⟩
  have hl2 : (Hp.rest itLt (i3 :: t)).length = 2 := by rw [rest_len]; exact HT.out
  rw [hl2] at hown2
  obtain ⟨a2, c2, rfl⟩ := owns_slice hown2
  have HO2 := Lib.hid hown2; have HB2 := Lib.hid hb2; have HL2 := Lib.hid hl2; clear hown2 hb2 hl2
  have hU := Lib.hid (fun W (b : Below w2.heap.size w2 W) => push_any (.slice a2 2 c2) (Hp.rest itLt (i3 :: t)) i3 W (by have := (owns_readsL (l := Hp.rest itLt (i3 :: t)) (f := itV) (by rw [HL2.out]; exact HO2.out)).below b; exact this) (by rw [HL2.out]; decide))
  obtain ⟨g1, g2⟩ := Hp.make_heap tot_it [i5, i3, i4]
  rw [HM.out] at g1
  have hV := Lib.hid ((Hp.rightB_iff _).2 (Hp.push_heap tot_it _ i3 (Hp.rest_heap tot_it i3 t g1).1).1)
  clear g1 g2
  unfold i3
  simp only []
  go_at_K
  go_wp2_with fail
  refine (hU.out _ (by go_grown)).mono ?_
  rintro e w3 ⟨v3, rfl, hown3, hb3⟩
  have hr3 := right_any v3 _ w3 (owns_readsL hown3)
  rw [hV.out] at hr3
  have HR3 := Lib.hid hr3; have HB3 := Lib.hid hb3; clear hown3 hb3 hr3
  simp only []
  go_at_K
  go_wp2_with (first | (go_at_call 27; (with_reducible refine HR3.out.mono ?_); rintro e w4 ⟨rfl, hb4⟩) | (go_at_call 27; refine (hR.out _).mono ?_; rintro e w5 ⟨rfl, hb5⟩))
  go_ret
  refine ⟨rfl, ?_⟩
  have k1 : Below w.heap.size w w1 := ((Below.refl _ _).alloc (Nat.le_refl _) _).trans (HB1.out.mono (by simp))
  have k2 := below2 k1 HB2.out
  have k3 := below2 (k2.alloc k2.size _) HB3.out
  have k4 := below2 k3 hb4
  exact below2 (k4.alloc k4.size _) hb5
theorem same24_self (v1 v2 : Value) (l : List It) (w : World) (h1 : ReadsL itV 5 w v1 l) (h2 : ReadsL itV 5 w v2 l) : Calls Try.prog 33 #[v1, v2] w fun e w' => e = .returned (.bool true) ∧ Below w.heap.size w w' :=
  (same24_any v1 v2 l l w h1 h2).mono fun e w' ⟨h, hb⟩ => ⟨by rw [h]; simp, hb⟩
def it0 (w : World) (b : Nat) (x : It) : Prop := w.cell? ⟨b, 0, none⟩ = some (.int .i64 x.key) ∧ w.cell? ⟨b, 1, none⟩ = some (.bool x.en.ad.v6) ∧ w.cell? ⟨b, 2, none⟩ = some (.int .u64 x.en.ad.hi) ∧ w.cell? ⟨b, 3, none⟩ = some (.int .u64 x.en.ad.lo) ∧ w.cell? ⟨b, 4, none⟩ = some (.int .i64 x.en.port)
theorem it0_below {B : Nat} {w w' : World} {b : Nat} {x : It} (h : it0 w b x) (hb : Below B w w') (hlt : b < B) : it0 w' b x :=
  ⟨keep hb hlt h.1, keep hb hlt h.2.1, keep hb hlt h.2.2.1, keep hb hlt h.2.2.2.1, keep hb hlt h.2.2.2.2⟩
theorem below_on {W0 w1 w2 : World} (h : Below W0.heap.size W0 w1) (hb : Below w1.heap.size w1 w2) : Below W0.heap.size W0 w2 := below2 h hb
set_option maxRecDepth 100000 in
set_option maxHeartbeats 1000000 in
theorem heapTells_any (v : Value) (l : List It) (x y : It) (w : World) (h : ReadsL itV 5 w v l) : Calls Try.prog 5 #[v, .agg #[.int .i64 x.key, .bool x.en.ad.v6, .int .u64 x.en.ad.hi, .int .u64 x.en.ad.lo, .int .i64 x.en.port], .agg #[.int .i64 y.key, .bool y.en.ad.v6, .int .u64 y.en.ad.hi, .int .u64 y.en.ad.lo, .int .i64 y.en.port]] w fun e w' => e = .returned (.bool true) ∧ Below w.heap.size w w' := by
  have HV := Lib.hid h
  obtain ⟨hm, a, c, rfl, h3⟩ := it_open h
  clear h h3
  by_cases hl : 40 < (l.length : Int)
  · go_enter Try.func5, Try.ntmps5
    go_wp2_with (go_at_call 26; refine (awake24_any _).mono ?_; rintro e w1 ⟨rfl, hb⟩)
    go_ret
    refine ⟨rfl, ?_⟩
    exact Below.trans (((Below.refl _ _).alloc (Nat.le_refl _) _).alloc (by simp) _) (hb.mono (by simp; omega))
  · have hl2 : l.length ≤ 40 := by omega
    have z0 : w.heap.size < w.heap.size + 1 + 1 := by omega
    go_enter Try.func5, Try.ntmps5
    go_upto_region 3 with fail
    go_cut [7, 8] (fun s7 s8 wx => ∃ g7 g8 : Nat, s7 = .pointer (some ⟨g7, 0, none⟩) ∧ s8 = .pointer (some ⟨g8, 0, none⟩) ∧ g7 < wx.heap.size ∧ g8 < wx.heap.size ∧ it0 wx g7 x ∧ it0 wx g8 y ∧ it0 wx w.heap.size x ∧ it0 wx (w.heap.size + 1) y ∧ w.heap.size + 1 < wx.heap.size ∧ Below w.heap.size w wx)
    case first =>
      go_region_held3 (fun w' => w'.cell? ⟨w.heap.size, 0, none⟩ = some (.int .i64 x.key) ∧ w'.cell? ⟨w.heap.size, 1, none⟩ = some (.bool x.en.ad.v6) ∧ w'.cell? ⟨w.heap.size, 2, none⟩ = some (.int .u64 x.en.ad.hi) ∧ w'.cell? ⟨w.heap.size, 3, none⟩ = some (.int .u64 x.en.ad.lo) ∧ w'.cell? ⟨w.heap.size, 4, none⟩ = some (.int .i64 x.en.port) ∧ w'.cell? ⟨w.heap.size + 1, 0, none⟩ = some (.int .i64 y.key) ∧ w'.cell? ⟨w.heap.size + 1, 1, none⟩ = some (.bool y.en.ad.v6) ∧ w'.cell? ⟨w.heap.size + 1, 2, none⟩ = some (.int .u64 y.en.ad.hi) ∧ w'.cell? ⟨w.heap.size + 1, 3, none⟩ = some (.int .u64 y.en.ad.lo) ∧ w'.cell? ⟨w.heap.size + 1, 4, none⟩ = some (.int .i64 y.en.port)) (first | go_keep | (simp (disch := omega) [*])) (fail)
      all_goals
        go_wp2_with fail
        go_meet
        refine ⟨_, _, rfl, rfl, ?_, ?_, ?_, ?_, ?_, ?_, ?_, ?_⟩
        all_goals first | (simp; done) | (simp; omega) | (unfold it0; simp [go_sem, *]; done) | go_grown
    case rest =>
      obtain ⟨g7, g8, rfl, rfl, h7, h8, i7, i8, ix, iy, hz, hb⟩ := hcut
      go_at_K
      go_upto_region 4 with fail
      obtain ⟨x0, x1, x2, x3, x4⟩ := ix
      obtain ⟨y0, y1, y2, y3, y4⟩ := iy
      have hz2 : w.heap.size < wc.heap.size := by omega
      go_cut [9, 10] (fun s9 s10 wx => ∃ g9 g10 : Nat, s9 = .pointer (some ⟨g9, 0, none⟩) ∧ s10 = .pointer (some ⟨g10, 0, none⟩) ∧ g9 < wx.heap.size ∧ g10 < wx.heap.size ∧ it0 wx g9 x ∧ it0 wx g10 y ∧ Below wc.heap.size wc wx)
      case first =>
        go_region_held3 (fun w' => w'.cell? ⟨w.heap.size, 0, none⟩ = some (.int .i64 x.key) ∧ w'.cell? ⟨w.heap.size, 1, none⟩ = some (.bool x.en.ad.v6) ∧ w'.cell? ⟨w.heap.size, 2, none⟩ = some (.int .u64 x.en.ad.hi) ∧ w'.cell? ⟨w.heap.size, 3, none⟩ = some (.int .u64 x.en.ad.lo) ∧ w'.cell? ⟨w.heap.size, 4, none⟩ = some (.int .i64 x.en.port) ∧ w'.cell? ⟨w.heap.size + 1, 0, none⟩ = some (.int .i64 y.key) ∧ w'.cell? ⟨w.heap.size + 1, 1, none⟩ = some (.bool y.en.ad.v6) ∧ w'.cell? ⟨w.heap.size + 1, 2, none⟩ = some (.int .u64 y.en.ad.hi) ∧ w'.cell? ⟨w.heap.size + 1, 3, none⟩ = some (.int .u64 y.en.ad.lo) ∧ w'.cell? ⟨w.heap.size + 1, 4, none⟩ = some (.int .i64 y.en.port)) (first | go_keep | (simp (disch := omega) [*])) (fail)
        all_goals
          go_wp2_with fail
          go_meet
          refine ⟨_, _, rfl, rfl, ?_, ?_, ?_, ?_, ?_⟩
          all_goals first | (simp; done) | (simp; omega) | (unfold it0; simp [go_sem, *]; done) | go_grown
      case rest =>
        rename_i w3
        obtain ⟨g9, g10, rfl, rfl, h9, h10, i9, i10, hb3⟩ := hcut
        have hb0 := below2 hb hb3
        have i7 := it0_below i7 hb3 h7
        have i8 := it0_below i8 hb3 h8
        have h7 := Nat.lt_of_lt_of_le h7 hb3.size
        have h8 := Nat.lt_of_lt_of_le h8 hb3.size
        obtain ⟨a0, a1, a2, a3, a4⟩ := i7
        obtain ⟨b0, b1, b2, b3, b4⟩ := i8
        obtain ⟨c0, c1, c2, c3, c4⟩ := i9
        obtain ⟨d0, d1, d2, d3, d4⟩ := i10
        clear x0 x1 x2 x3 x4 y0 y1 y2 y3 y4
        go_at_K
        go_wp2_with fail
        have hBB := (Below.refl wc.heap.size wc).drew
        go_region_held3 (fun w' => w'.cell? ⟨g7, 0, none⟩ = some (.int .i64 x.key) ∧ w'.cell? ⟨g7, 1, none⟩ = some (.bool x.en.ad.v6) ∧ w'.cell? ⟨g7, 2, none⟩ = some (.int .u64 x.en.ad.hi) ∧ w'.cell? ⟨g7, 3, none⟩ = some (.int .u64 x.en.ad.lo) ∧ w'.cell? ⟨g7, 4, none⟩ = some (.int .i64 x.en.port) ∧ w'.cell? ⟨g8, 0, none⟩ = some (.int .i64 y.key) ∧ w'.cell? ⟨g8, 1, none⟩ = some (.bool y.en.ad.v6) ∧ w'.cell? ⟨g8, 2, none⟩ = some (.int .u64 y.en.ad.hi) ∧ w'.cell? ⟨g8, 3, none⟩ = some (.int .u64 y.en.ad.lo) ∧ w'.cell? ⟨g8, 4, none⟩ = some (.int .i64 y.en.port) ∧ w'.cell? ⟨g9, 0, none⟩ = some (.int .i64 x.key) ∧ w'.cell? ⟨g9, 1, none⟩ = some (.bool x.en.ad.v6) ∧ w'.cell? ⟨g9, 2, none⟩ = some (.int .u64 x.en.ad.hi) ∧ w'.cell? ⟨g9, 3, none⟩ = some (.int .u64 x.en.ad.lo) ∧ w'.cell? ⟨g9, 4, none⟩ = some (.int .i64 x.en.port) ∧ w'.cell? ⟨g10, 0, none⟩ = some (.int .i64 y.key) ∧ w'.cell? ⟨g10, 1, none⟩ = some (.bool y.en.ad.v6) ∧ w'.cell? ⟨g10, 2, none⟩ = some (.int .u64 y.en.ad.hi) ∧ w'.cell? ⟨g10, 3, none⟩ = some (.int .u64 y.en.ad.lo) ∧ w'.cell? ⟨g10, 4, none⟩ = some (.int .i64 y.en.port)) (first | go_keep | (simp (disch := omega) [*])) (first | (go_at_call 28; refine (to24_any _ l _ ((HV.out.below hb0).below hBB) (by omega)).mono ?_; rintro e w1 ⟨v1, rfl, hown, hb⟩; have hR1 := owns_readsL hown; have hBB := below_on hBB hb; obtain ⟨cf, _⟩ := bcellB hBB) | (go_at_call 27; refine (right_any _ l _ hR1).mono ?_; rintro e w1 ⟨rfl, hb⟩; have hBB := below_on hBB hb; obtain ⟨cf, _⟩ := bcellB hBB) | (go_at_call 30; refine (of24_any _ l _ ((HV.out.below hb0).below hBB) (by omega)).mono ?_; rintro e w1 ⟨v2, rfl, hown2, hb⟩; have hR2 := owns_readsL hown2; (try (have hS1 := hS1.below hb)); have hBB := below_on hBB hb; obtain ⟨cf, _⟩ := bcellB hBB) | (go_at_call 29; refine (refRight_any _ l _ hR2 (by omega)).mono ?_; rintro e w1 ⟨rfl, hb⟩; have hBB := below_on hBB hb; obtain ⟨cf, _⟩ := bcellB hBB) | (go_at_call 31; refine (ahead_any x y _).mono ?_; rintro e w1 ⟨rfl, hb⟩; have hBB := below_on hBB hb; obtain ⟨cf, _⟩ := bcellB hBB) | (go_at_call 32; refine (refAhead_any x y _).mono ?_; rintro e w1 ⟨rfl, hb⟩; have hBB := below_on hBB hb; obtain ⟨cf, _⟩ := bcellB hBB) | (go_at_call 34; refine (sorted_any _ l _ hR1 (by omega)).mono ?_; rintro e w1 ⟨v3, rfl, hown3, hb⟩; have hS1 := owns_readsL hown3; have hBB := below_on hBB hb; obtain ⟨cf, _⟩ := bcellB hBB) | (go_at_call 35; refine (refSorted_any _ l _ hR2 (by omega)).mono ?_; rintro e w1 ⟨v4, rfl, hown4, hb⟩; have hS2 := owns_readsL hown4; have hS1 := hS1.below hb; have hBB := below_on hBB hb; obtain ⟨cf, _⟩ := bcellB hBB) | (go_at_call 33; refine (same24_self _ _ _ _ hS1 hS2).mono ?_; rintro e w1 ⟨rfl, hb⟩; have hBB := below_on hBB hb; obtain ⟨cf, _⟩ := bcellB hBB) | (go_at_call 26; refine (awake24_any _).mono ?_; rintro e w1 ⟨rfl, hb⟩; have hBB := below_on hBB hb; obtain ⟨cf, _⟩ := bcellB hBB))
        go_wp2_with fail
        go_ret
        exact ⟨rfl, below2 hb0 hBB⟩
end Go.Proofs.Ytppmjbnhghaffaa
