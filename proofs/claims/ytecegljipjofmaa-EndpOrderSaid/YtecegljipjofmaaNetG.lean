/- Groups of addresses: plain laws; the contracts of subnets' texts and of groups. -/
import Derived.Test.YtecegljipjofmaaNetF
namespace Go.Proofs.Ytecegljipjofmaa
open Go.RowKit
set_option linter.unusedSimpArgs false
set_option linter.unusedVariables false

theorem cut32 (x : Nat) : cutW 64 x 32 = x - x % 4294967296 := by
  unfold cutW; show x / 4294967296 * 4294967296 = _; omega
theorem cut16 (x : Nat) : cutW 32 x 16 = x - x % 65536 := by
  unfold cutW; show x / 65536 * 65536 = _; omega
theorem grBits_in (a : Ad) : 0 ≤ grBits a ∧ grBits a ≤ adBits a := by unfold grBits adBits; split <;> omega
theorem grOf_good (a : Ad) (h : adRight a = true) : grOf a = ⟨adMask a (grBits a), grBits a⟩ := by
  unfold grOf adMake; rw [if_pos ⟨h, grBits_in a⟩]
theorem grOf_bad (a : Ad) (h : adRight a = false) : grOf a = ⟨⟨false, 0, 0⟩, 0⟩ := by
  unfold grOf adMake; rw [if_neg (by rw [h]; simp)]
theorem grOf_6 (a : Ad) (hf : a.fits) (h : adRight a = true) (hv : a.v6 = true) : grOf a = ⟨⟨true, a.hi - a.hi % 4294967296, 0⟩, 32⟩ := by
  rw [grOf_good a h]
  have hb : grBits a = 32 := by unfold grBits; rw [if_pos hv]
  rw [hb]
  unfold adMask; rw [if_pos h, if_pos hv, clampB_in (by omega) (by rw [adBits_of hv]; omega)]
  show Nt.mk ⟨true, cutW 64 a.hi 32, cutW 64 a.lo 0⟩ 32 = _
  rw [cut32, cutW_none 64 a.lo hf.2]
theorem grOf_4 (a : Ad) (h : adRight a = true) (hv : a.v6 = false) : grOf a = ⟨⟨false, 0, a.lo - a.lo % 65536⟩, 16⟩ := by
  rw [grOf_good a h]
  have hb : grBits a = 16 := by unfold grBits; rw [if_neg (by rw [hv]; simp)]
  rw [hb]
  unfold adMask; rw [if_pos h, if_neg (by rw [hv]; simp), clampB_in (by omega) (by rw [adBits_of4 hv]; omega)]
  show Nt.mk ⟨false, 0, cutW 32 a.lo 16⟩ 16 = _
  rw [cut16]
theorem grOf_fits (a : Ad) (hf : a.fits) : (grOf a).ad.fits := by
  cases h : adRight a with
  | true => rw [grOf_good a h]; exact adMask_fits a _ hf
  | false => rw [grOf_bad a h]; exact ⟨by simp, by simp⟩
theorem grOf_right (a : Ad) (hf : a.fits) (h : adRight a = true) : ntRight (grOf a) = true := by
  refine adMake_right a (grBits a) hf ?_
  unfold adMake; rw [if_pos ⟨h, grBits_in a⟩]
theorem grOf_v6 (a : Ad) (h : adRight a = true) : (grOf a).ad.v6 = a.v6 := by
  rw [grOf_good a h]; exact adMask_v6 a _ h
def grSame (a b : Ad) : Bool := adRight a && (adRight b && decide (grOf a = grOf b))
theorem grBits_v6 {a b : Ad} (h : a.v6 = b.v6) : grBits a = grBits b := by unfold grBits; rw [h]
theorem grOf_iff (a b : Ad) (ha : adRight a = true) (hb : adRight b = true) : grOf a = grOf b ↔ a.v6 = b.v6 ∧ adMask a (grBits a) = adMask b (grBits a) := by
  constructor
  · intro h
    have hv : a.v6 = b.v6 := by rw [← grOf_v6 a ha, ← grOf_v6 b hb, h]
    refine ⟨hv, ?_⟩
    rw [grOf_good a ha, grOf_good b hb, ← grBits_v6 hv] at h
    exact congrArg Nt.ad h
  · intro ⟨hv, h⟩
    rw [grOf_good a ha, grOf_good b hb, ← grBits_v6 hv, h]
/-- the reference's way: bit by bit -/
theorem same_bits (a b : Ad) (fa : a.fits) (fb : b.fits) (ha : adRight a = true) (hb : adRight b = true) (hv : a.v6 = b.v6) : sameK a b (grBits a).toNat = decide (grOf a = grOf b) := by
  have hg := grBits_in b
  rw [← grBits_v6 hv] at hg
  have h1 := sameK_mask (adMask b (grBits a)) a (grBits a) (adMask_fits b _ fb) fa (adMask_right b _ fb hb) ha ((adMask_v6 b _ hb).trans hv.symm) hg.1 (by rw [adMask_bits b _ hb]; exact hg.2) (adMask_mask b _ fb hb)
  rw [Bool.eq_iff_iff, sameK_iff, decide_eq_true_iff, grOf_iff a b ha hb]
  rw [Bool.eq_iff_iff, sameK_iff, decide_eq_true_iff] at h1
  have e : (∀ j, j < (grBits a).toNat → adBit a (j : Int) = adBit b (j : Int)) ↔ (∀ j, j < (grBits a).toNat → adBit (adMask b (grBits a)) (j : Int) = adBit a (j : Int)) := by
    refine forall_congr' fun j => forall_congr' fun hj => ?_
    rw [adBit_mask b (grBits a) fb hb hg.1 hg.2 j (by omega), if_pos (by omega)]
    exact eq_comm
  rw [e, h1]
  exact ⟨fun h => ⟨hv, h⟩, fun h => h.2⟩
theorem ntHas_gr (a b : Ad) (fa : a.fits) (ha : adRight a = true) (hb : adRight b = true) : ntHas (grOf a) b = decide (grOf a = grOf b) := by
  unfold ntHas
  rw [grOf_right a fa ha, hb, grOf_v6 a ha]
  rw [Bool.eq_iff_iff, decide_eq_true_iff, grOf_iff a b ha hb, grOf_good a ha]
  simp only [Bool.true_and, Bool.and_eq_true, decide_eq_true_iff]
  exact ⟨fun h => ⟨h.1, h.2.symm⟩, fun h => ⟨h.1, h.2.symm⟩⟩

/-! ### the texts -/
theorem ntText_bad (n : Nt) (h : ntRight n = false) : ntText n = [] := by unfold ntText; rw [if_neg (by rw [h]; simp)]
set_option maxRecDepth 100000 in
set_option maxHeartbeats 4000000 in
theorem ntText_any (n : Nt) (hf : n.ad.fits) (w : World) : Calls Try.prog 62 #[.agg #[.bool n.ad.v6, .int .u64 n.ad.hi, .int .u64 n.ad.lo, .int .i64 n.bits]] w fun e w' => e = .returned (.string (bs (ntText n))) ∧ Below w.heap.size w w' := by
  have hR := fun w => ntRight_any n hf w
  cases hr : ntRight n with
  | false =>
    rw [ntText_bad n hr]
    rw [hr] at hR
    have HR := Lib.hid hR; clear hR
    go_enter Try.func62, Try.ntmps62
    go_wp2_with (go_at_call 56; (with_reducible refine (HR.out _).mono ?_); rintro e w1 ⟨rfl, b1⟩; obtain ⟨c1, f1⟩ := bcell b1; have z1 := b1.size; (try simp at z1); have d1a := fun o => c1 (w.heap.size) o (by first | omega | (simp; done) | (simp; omega)); clear c1 f1)
    go_ret
    refine ⟨rfl, ?_⟩
    (repeat (first | assumption | exact Below.refl _ _ | refine Below.setCell ?_ (by first | omega | (simp; done) | (simp; omega)) _ | refine Below.alloc ?_ (by first | omega | (simp; done) | (simp; omega)) _ | refine Below.drew ?_ | (refine Below.trans ?_ (Below.mono (by assumption) (by first | omega | (simp; done) | (simp; omega))))))
  | true =>
    rw [hr] at hR
    obtain ⟨r1, r2, r3, r4⟩ := (ntRight_iff n).1 hr
    have hnn := adBits_nn n.ad
    have hT := fun w => adText_any n.ad hf w
    have hD := fun w => decText_any n.bits (by omega) (by omega) w
    have htl := adText_len n.ad hf
    have hdl := decText_len n.bits (by omega) (by omega)
    have hres : bs (adText n.ad) ++ bs [47] ++ bs (decText n.bits) = bs (ntText n) := by unfold ntText; rw [if_pos hr, bs_append, bs_append]; simp
    generalize adText n.ad = t at *
    generalize decText n.bits = d at *
    rw [← bs_size] at htl hdl
    have s1 : ¬ 9223372036854775807 < (bs t).size + (bs [47]).size := by rw [bs_size [47]]; simp only [List.length_cons, List.length_nil]; omega
    have s2 : ¬ 9223372036854775807 < (bs t ++ bs [47]).size + (bs d).size := by rw [bs_append, bs_size]; rw [bs_size] at htl; simp only [List.length_append, List.length_cons, List.length_nil]; omega
    have HR := Lib.hid hR; have HT := Lib.hid hT; have HD := Lib.hid hD; have HRES := Lib.hid hres
    clear hR hT hD hr r4 hres
    go_enter Try.func62, Try.ntmps62
    go_wp2_with (go_at_call 56; (with_reducible refine (HR.out _).mono ?_); rintro e w1 ⟨rfl, b1⟩; obtain ⟨c1, f1⟩ := bcell b1; have z1 := b1.size; (try simp at z1); have d1a := fun o => c1 (w.heap.size) o (by first | omega | (simp; done) | (simp; omega)); clear c1 f1)
    go_name_world WWx hWWx
    have ex0 : ∀ Y, (ext WWx Y).cell? ⟨w.heap.size, 0, none⟩ = some (.bool n.ad.v6) := by subst hWWx; intro Y; exact (ext_cell _ Y (by first | omega | (simp; done) | (simp; omega))).trans (by first | (simp (disch := first | omega | (simp; omega)) [World.cell?_alloc_past, *]; done) | (simp (disch := first | omega | (simp; omega)) [World.cell?_setCell_far, World.cell?_alloc_past, *]; done) | (simp (disch := first | omega | (simp; omega)) [World.cell?_alloc_past, *]; rfl) | (simp (disch := first | omega | (simp; omega)) [World.cell?_setCell_far, World.cell?_alloc_past, *]; rfl) | (simp [go_sem, *]; done) | (simp (disch := first | omega | (simp; omega) | (simp [go_sem, *]; done)) [go_sem, World.cell?_setCell_far, World.cell?_alloc_past, *]; done))
    have ex1 : ∀ Y, (ext WWx Y).cell? ⟨w.heap.size, 1, none⟩ = some (.int .u64 n.ad.hi) := by subst hWWx; intro Y; exact (ext_cell _ Y (by first | omega | (simp; done) | (simp; omega))).trans (by first | (simp (disch := first | omega | (simp; omega)) [World.cell?_alloc_past, *]; done) | (simp (disch := first | omega | (simp; omega)) [World.cell?_setCell_far, World.cell?_alloc_past, *]; done) | (simp (disch := first | omega | (simp; omega)) [World.cell?_alloc_past, *]; rfl) | (simp (disch := first | omega | (simp; omega)) [World.cell?_setCell_far, World.cell?_alloc_past, *]; rfl) | (simp [go_sem, *]; done) | (simp (disch := first | omega | (simp; omega) | (simp [go_sem, *]; done)) [go_sem, World.cell?_setCell_far, World.cell?_alloc_past, *]; done))
    have ex2 : ∀ Y, (ext WWx Y).cell? ⟨w.heap.size, 2, none⟩ = some (.int .u64 n.ad.lo) := by subst hWWx; intro Y; exact (ext_cell _ Y (by first | omega | (simp; done) | (simp; omega))).trans (by first | (simp (disch := first | omega | (simp; omega)) [World.cell?_alloc_past, *]; done) | (simp (disch := first | omega | (simp; omega)) [World.cell?_setCell_far, World.cell?_alloc_past, *]; done) | (simp (disch := first | omega | (simp; omega)) [World.cell?_alloc_past, *]; rfl) | (simp (disch := first | omega | (simp; omega)) [World.cell?_setCell_far, World.cell?_alloc_past, *]; rfl) | (simp [go_sem, *]; done) | (simp (disch := first | omega | (simp; omega) | (simp [go_sem, *]; done)) [go_sem, World.cell?_setCell_far, World.cell?_alloc_past, *]; done))
    have ex3 : ∀ Y, (ext WWx Y).cell? ⟨w.heap.size, 3, none⟩ = some (.int .i64 n.bits) := by subst hWWx; intro Y; exact (ext_cell _ Y (by first | omega | (simp; done) | (simp; omega))).trans (by first | (simp (disch := first | omega | (simp; omega)) [World.cell?_alloc_past, *]; done) | (simp (disch := first | omega | (simp; omega)) [World.cell?_setCell_far, World.cell?_alloc_past, *]; done) | (simp (disch := first | omega | (simp; omega)) [World.cell?_alloc_past, *]; rfl) | (simp (disch := first | omega | (simp; omega)) [World.cell?_setCell_far, World.cell?_alloc_past, *]; rfl) | (simp [go_sem, *]; done) | (simp (disch := first | omega | (simp; omega) | (simp [go_sem, *]; done)) [go_sem, World.cell?_setCell_far, World.cell?_alloc_past, *]; done))
    have bWx : Below w.heap.size w WWx := by subst hWWx; (repeat (first | assumption | exact Below.refl _ _ | refine Below.setCell ?_ (by first | omega | (simp; done) | (simp; omega)) _ | refine Below.alloc ?_ (by first | omega | (simp; done) | (simp; omega)) _ | refine Below.drew ?_ | (refine Below.trans ?_ (Below.mono (by assumption) (by first | omega | (simp; done) | (simp; omega))))))
    have lWx0 : w.heap.size < WWx.heap.size := by subst hWWx; first | omega | (simp; done) | (simp; omega)
    clear hWWx
    refine wp_region_ext (by kernel_rfl) (by kernel_rfl) ?_
    repeat (go_big_quiet_step ((first | (go_at_call 47; with_reducible exact qe (HT.out _)) | (go_at_call 85; with_reducible exact qe (HD.out _)))))
    refine wpQuiet_nil ?_
    intro _ hw'
    obtain ⟨x, hw''⟩ := hw'
    subst hw''
    have px0 := ex0 x
    have px1 := ex1 x
    have px2 := ex2 x
    have px3 := ex3 x
    clear ex0 ex1 ex2 ex3
    have bwx := bWx.trans ((ext_below WWx x).mono bWx.size)
    have zwx := bwx.size
    have zex := (ext_below WWx x).size
    go_wp2_with fail
    go_ret
    exact ⟨ret_str HRES.out, bwx⟩
set_option maxRecDepth 100000 in
set_option maxHeartbeats 4000000 in
theorem refNtText_any (n : Nt) (hf : n.ad.fits) (w : World) : Calls Try.prog 38 #[.agg #[.bool n.ad.v6, .int .u64 n.ad.hi, .int .u64 n.ad.lo, .int .i64 n.bits]] w fun e w' => e = .returned (.string (bs (ntText n))) ∧ Below w.heap.size w w' := by
  have hR := fun w => refNtRight_any n hf w
  cases hr : ntRight n with
  | false =>
    rw [ntText_bad n hr]
    rw [hr] at hR
    have HR := Lib.hid hR; clear hR
    go_enter Try.func38, Try.ntmps38
    go_wp2_with (go_at_call 57; (with_reducible refine (HR.out _).mono ?_); rintro e w1 ⟨rfl, b1⟩; obtain ⟨c1, f1⟩ := bcell b1; have z1 := b1.size; (try simp at z1); have d1a := fun o => c1 (w.heap.size) o (by first | omega | (simp; done) | (simp; omega)); clear c1 f1)
    go_ret
    refine ⟨rfl, ?_⟩
    (repeat (first | assumption | exact Below.refl _ _ | refine Below.setCell ?_ (by first | omega | (simp; done) | (simp; omega)) _ | refine Below.alloc ?_ (by first | omega | (simp; done) | (simp; omega)) _ | refine Below.drew ?_ | (refine Below.trans ?_ (Below.mono (by assumption) (by first | omega | (simp; done) | (simp; omega))))))
  | true =>
    rw [hr] at hR
    obtain ⟨r1, r2, r3, r4⟩ := (ntRight_iff n).1 hr
    have hnn := adBits_nn n.ad
    have hT := fun w => refAdText_any n.ad hf w
    have hD := fun w => refText_any n.bits (by omega) (by omega) w
    have htl := adText_len n.ad hf
    have hdl := decText_len n.bits (by omega) (by omega)
    have hres : bs (adText n.ad) ++ bs [47] ++ bs (decText n.bits) = bs (ntText n) := by unfold ntText; rw [if_pos hr, bs_append, bs_append]; simp
    generalize adText n.ad = t at *
    generalize decText n.bits = d at *
    rw [← bs_size] at htl hdl
    have s1 : ¬ 9223372036854775807 < (bs t).size + (bs [47]).size := by rw [bs_size [47]]; simp only [List.length_cons, List.length_nil]; omega
    have s2 : ¬ 9223372036854775807 < (bs t ++ bs [47]).size + (bs d).size := by rw [bs_append, bs_size]; rw [bs_size] at htl; simp only [List.length_append, List.length_cons, List.length_nil]; omega
    have HR := Lib.hid hR; have HT := Lib.hid hT; have HD := Lib.hid hD; have HRES := Lib.hid hres
    clear hR hT hD hr r4 hres
    go_enter Try.func38, Try.ntmps38
    go_wp2_with (go_at_call 57; (with_reducible refine (HR.out _).mono ?_); rintro e w1 ⟨rfl, b1⟩; obtain ⟨c1, f1⟩ := bcell b1; have z1 := b1.size; (try simp at z1); have d1a := fun o => c1 (w.heap.size) o (by first | omega | (simp; done) | (simp; omega)); clear c1 f1)
    go_name_world WWx hWWx
    have ex0 : ∀ Y, (ext WWx Y).cell? ⟨w.heap.size, 0, none⟩ = some (.bool n.ad.v6) := by subst hWWx; intro Y; exact (ext_cell _ Y (by first | omega | (simp; done) | (simp; omega))).trans (by first | (simp (disch := first | omega | (simp; omega)) [World.cell?_alloc_past, *]; done) | (simp (disch := first | omega | (simp; omega)) [World.cell?_setCell_far, World.cell?_alloc_past, *]; done) | (simp (disch := first | omega | (simp; omega)) [World.cell?_alloc_past, *]; rfl) | (simp (disch := first | omega | (simp; omega)) [World.cell?_setCell_far, World.cell?_alloc_past, *]; rfl) | (simp [go_sem, *]; done) | (simp (disch := first | omega | (simp; omega) | (simp [go_sem, *]; done)) [go_sem, World.cell?_setCell_far, World.cell?_alloc_past, *]; done))
    have ex1 : ∀ Y, (ext WWx Y).cell? ⟨w.heap.size, 1, none⟩ = some (.int .u64 n.ad.hi) := by subst hWWx; intro Y; exact (ext_cell _ Y (by first | omega | (simp; done) | (simp; omega))).trans (by first | (simp (disch := first | omega | (simp; omega)) [World.cell?_alloc_past, *]; done) | (simp (disch := first | omega | (simp; omega)) [World.cell?_setCell_far, World.cell?_alloc_past, *]; done) | (simp (disch := first | omega | (simp; omega)) [World.cell?_alloc_past, *]; rfl) | (simp (disch := first | omega | (simp; omega)) [World.cell?_setCell_far, World.cell?_alloc_past, *]; rfl) | (simp [go_sem, *]; done) | (simp (disch := first | omega | (simp; omega) | (simp [go_sem, *]; done)) [go_sem, World.cell?_setCell_far, World.cell?_alloc_past, *]; done))
    have ex2 : ∀ Y, (ext WWx Y).cell? ⟨w.heap.size, 2, none⟩ = some (.int .u64 n.ad.lo) := by subst hWWx; intro Y; exact (ext_cell _ Y (by first | omega | (simp; done) | (simp; omega))).trans (by first | (simp (disch := first | omega | (simp; omega)) [World.cell?_alloc_past, *]; done) | (simp (disch := first | omega | (simp; omega)) [World.cell?_setCell_far, World.cell?_alloc_past, *]; done) | (simp (disch := first | omega | (simp; omega)) [World.cell?_alloc_past, *]; rfl) | (simp (disch := first | omega | (simp; omega)) [World.cell?_setCell_far, World.cell?_alloc_past, *]; rfl) | (simp [go_sem, *]; done) | (simp (disch := first | omega | (simp; omega) | (simp [go_sem, *]; done)) [go_sem, World.cell?_setCell_far, World.cell?_alloc_past, *]; done))
    have ex3 : ∀ Y, (ext WWx Y).cell? ⟨w.heap.size, 3, none⟩ = some (.int .i64 n.bits) := by subst hWWx; intro Y; exact (ext_cell _ Y (by first | omega | (simp; done) | (simp; omega))).trans (by first | (simp (disch := first | omega | (simp; omega)) [World.cell?_alloc_past, *]; done) | (simp (disch := first | omega | (simp; omega)) [World.cell?_setCell_far, World.cell?_alloc_past, *]; done) | (simp (disch := first | omega | (simp; omega)) [World.cell?_alloc_past, *]; rfl) | (simp (disch := first | omega | (simp; omega)) [World.cell?_setCell_far, World.cell?_alloc_past, *]; rfl) | (simp [go_sem, *]; done) | (simp (disch := first | omega | (simp; omega) | (simp [go_sem, *]; done)) [go_sem, World.cell?_setCell_far, World.cell?_alloc_past, *]; done))
    have bWx : Below w.heap.size w WWx := by subst hWWx; (repeat (first | assumption | exact Below.refl _ _ | refine Below.setCell ?_ (by first | omega | (simp; done) | (simp; omega)) _ | refine Below.alloc ?_ (by first | omega | (simp; done) | (simp; omega)) _ | refine Below.drew ?_ | (refine Below.trans ?_ (Below.mono (by assumption) (by first | omega | (simp; done) | (simp; omega))))))
    have lWx0 : w.heap.size < WWx.heap.size := by subst hWWx; first | omega | (simp; done) | (simp; omega)
    clear hWWx
    refine wp_region_ext (by kernel_rfl) (by kernel_rfl) ?_
    repeat (go_big_quiet_step ((first | (go_at_call 89; with_reducible exact qe (HT.out _)) | (go_at_call 87; with_reducible exact qe (HD.out _)))))
    refine wpQuiet_nil ?_
    intro _ hw'
    obtain ⟨x, hw''⟩ := hw'
    subst hw''
    have px0 := ex0 x
    have px1 := ex1 x
    have px2 := ex2 x
    have px3 := ex3 x
    clear ex0 ex1 ex2 ex3
    have bwx := bWx.trans ((ext_below WWx x).mono bWx.size)
    have zwx := bwx.size
    have zex := (ext_below WWx x).size
    go_wp2_with fail
    go_ret
    exact ⟨ret_str HRES.out, bwx⟩
end Go.Proofs.Ytecegljipjofmaa
