/- Texts put together: ShM. No condition. -/
import Derived.Test.YtppmjbnhghaffaaRxiztgjrqpl
import Derived.Test.YtppmjbnhghaffaaRryiqoblbvm
import Derived.Test.YtppmjbnhghaffaaRjpdvfyhpyc
import Derived.Deep.RegionWith
namespace Go.Proofs.Ytppmjbnhghaffaa
open Go.RowKit Go.Lib

theorem flat_le {α β : Type} {f : α → List β} {N : Nat} : ∀ {l : List α}, (∀ x ∈ l, (f x).length ≤ N) → (l.flatMap f).length ≤ l.length * N
  | [], _ => Nat.zero_le _
  | a :: r, h => by
    have h1 := h a (List.mem_cons_self ..)
    have h2 := flat_le (l := r) fun x hx => h x (List.mem_cons_of_mem _ hx)
    rw [List.flatMap_cons, List.length_append, List.length_cons, Nat.add_mul]; omega
theorem pes_part {ss : List Sh} {l : List Pe} {s : Nat} {n : Int} (h : PartsOf ss l s n) {i : Nat} {x : Sh} (hx : ss[i]? = some x) : pesS x = partL l s n i := by
  obtain ⟨h1, h2⟩ := h.2 i x hx
  unfold pesS
  rw [h2, h1]
  exact List.take_of_length_le (by omega)
theorem parts_flat_le {ss : List Sh} {l : List Pe} {s : Nat} {n : Int} (h : PartsOf ss l s n) (hl : l.length ≤ 100000) (k : Nat) : ((ss.take k).flatMap pesS).length ≤ 1000000 := by
  have h1 := flat_le (f := pesS) (N := l.length) (l := ss.take k) fun x hx => by
    obtain ⟨i, hi⟩ := List.mem_iff_getElem?.1 (List.mem_of_mem_take hx)
    rw [pes_part h hi]; exact partL_len _ _ _ _
  have h2 : (ss.take k).length ≤ 8 := by rw [List.length_take]; have := h.1; have := (partsN_in n).2; omega
  have h3 : (ss.take k).length * l.length ≤ 8 * l.length := Nat.mul_le_mul_right _ h2
  omega
theorem parts_l_le {ss : List Sh} {l : List Pe} {s : Nat} {n : Int} (h : PartsOf ss l s n) (hl : l.length ≤ 100000) : ∀ t ∈ ss, t.l.length ≤ 1000000 := fun t ht => by
  obtain ⟨i, hi⟩ := List.mem_iff_getElem?.1 ht
  rw [(h.2 i t hi).2]
  have := partL_len l s n i; omega
theorem parts_mem {ss : List Sh} {l : List Pe} {s : Nat} {n : Int} (h : PartsOf ss l s n) (z : Pe) : z ∈ ss.flatMap pesS ↔ z ∈ l := by
  rw [List.mem_flatMap]
  constructor
  · rintro ⟨x, hx, hz⟩
    obtain ⟨i, hi⟩ := List.mem_iff_getElem?.1 hx
    rw [pes_part h hi] at hz
    exact (List.mem_filter.1 hz).1
  · intro hz
    have hlt : ofN z.en.ad s n < ss.length := by rw [h.1]; exact ofN_lt _ _ _
    refine ⟨ss[ofN z.en.ad s n], List.getElem_mem _, ?_⟩
    rw [pes_part h (List.getElem?_eq_getElem hlt)]
    exact List.mem_filter.2 ⟨hz, by simp⟩
theorem parts_ones {ss : List Sh} {l : List Pe} {s : Nat} {n : Int} (h : PartsOf ss l s n) (hl : l.Pairwise fun x y => x.en ≠ y.en) : (ss.flatMap pesS).Pairwise fun x y => x.en ≠ y.en := by
  rw [List.pairwise_flatMap]
  refine ⟨fun x hx => ?_, ?_⟩
  · obtain ⟨i, hi⟩ := List.mem_iff_getElem?.1 hx
    rw [pes_part h hi]
    exact hl.filter _
  · rw [List.pairwise_iff_getElem]
    intro i j hi hj hij x hx y hy e
    rw [pes_part h (List.getElem?_eq_getElem hi)] at hx
    rw [pes_part h (List.getElem?_eq_getElem hj)] at hy
    have h1 := of_decide_eq_true (List.mem_filter.1 hx).2
    have h2 := of_decide_eq_true (List.mem_filter.1 hy).2
    rw [e] at h1
    omega
/-- PARTS JOINED ARE THE TABLE AGAIN -/
theorem partsJ_same {ss : List Sh} {l : List Pe} {s : Nat} {n : Int} (h : PartsOf ss l s n) (hg : GoodT l) : pstL (ss.flatMap pesS) = l := by
  have hl : Strict ltEn l := ((goodT_iff l).1 hg).2.imp fun e => decide_eq_true e
  have hd : l.Pairwise fun x y => x.en ≠ y.en := ((goodT_iff l).1 hg).2.imp fun {a b} e he => by rw [he] at e; have := cmp_en.self b.en; omega
  rw [pst_srt]
  exact strictT_eq wo_ltEn (strict_ssort wo_ltEn ((parts_ones h hd).imp fun e => ltEn_or e)) hl fun z => by rw [ssortT_mem, parts_mem h]
def p31a : Pe := ⟨⟨⟨false, 0, 1⟩, 80⟩, false, 0, 0, 0, 0, 0⟩
def p31b : Pe := ⟨⟨⟨false, 0, 2⟩, 80⟩, false, 0, 0, 0, 0, 0⟩
def l31 : List Pe := [p31a, p31b]
theorem l31_good : GoodT l31 := (rgtT_good _).1 (by decide +kernel)
theorem l31_fits : ∀ p ∈ l31, p.en.ad.fits := by
  intro p hp
  simp only [l31, List.mem_cons, List.not_mem_nil, or_false] at hp
  rcases hp with rfl | rfl <;> exact ⟨by decide, by decide⟩
theorem a31_w : wrtL l31 [p31b] = [0] := by decide +kernel
theorem a31_o : ofN ⟨false, 0, 9⟩ 7 1 = 0 := by have := ofN_lt ⟨false, 0, 9⟩ 7 1; have h1 : partsN 1 = 1 := (by decide); omega
theorem a31_p : partsN 4 = 4 := by decide
set_option maxRecDepth 100000 in
set_option maxHeartbeats 16000000 in
theorem awake31_any (w : World) : Calls Try.prog 41 #[] w fun e w' => e = .returned (.bool true) ∧ Below w.heap.size w w' := by
  have HRd : ∀ (W : World) (B : Nat), BlockIs W B (l31.flatMap peV) 66 → ReadsL peV 10 W (.slice (some ⟨B, 0, none⟩) 2 2) l31 := fun W B h => reads_blkC (l := l31) h (by decide) (by decide) (by decide)
  have H1 : Hid (∀ (W : World) (B : Nat), BlockIs W B (l31.flatMap peV) 66 → Calls Try.prog 51 #[.slice (some ⟨B, 0, none⟩) 2 2, .int .u64 7, .int .i64 4] W fun e w' => ∃ a c ss, e = .returned (.slice a 4 c) ∧ ReadsSh w' (.slice a 4 c) ss ∧ PartsOf ss l31 7 4 ∧ Below W.heap.size W w') := fun W B h => by
    refine (shSplit_any _ l31 7 (by decide) 4 W (HRd W B h) l31_fits (by decide)).mono ?_
    rintro e w' ⟨r, ss, rfl, hr, hp, hb⟩
    obtain ⟨_, a, c, e, -⟩ := shs_open hr.1
    have h4 : ss.length = 4 := by rw [hp.1, a31_p]
    rw [h4] at e
    subst e
    exact ⟨a, c, ss, rfl, hr, hp, hb⟩
  have H2 : Hid (∀ (W : World) (r : Value) (ss : List Sh), ReadsSh W r ss → PartsOf ss l31 7 4 → Calls Try.prog 53 #[r] W fun e w' => ∃ b o c, e = .returned (.slice (some ⟨b, o, none⟩) 2 c) ∧ 2 ≤ c ∧ b < w'.heap.size ∧ PeIn w' b (o + 10) p31b ∧ Below W.heap.size W w') := fun W r ss hr hp => by
    refine (shJoin_any r ss W hr (parts_l_le hp (by decide)) (parts_flat_le hp (by decide))).mono ?_
    rintro e w' ⟨q, rfl, hq, hb⟩
    rw [partsJ_same hp l31_good] at hq
    obtain ⟨_, a, c, rfl, h3⟩ := pes_open hq
    obtain ⟨b, o, rfl, h4, h5, h6⟩ := h3 (by decide)
    exact ⟨b, o, c, rfl, h4, h5, by have := h6 1 p31b rfl; simpa using this, hb⟩
  have H3 : Hid (∀ (W : World), Calls Try.prog 42 #[.agg #[.bool false, .int .u64 0, .int .u64 9], .int .u64 7, .int .i64 1] W fun e w' => e = .returned (.int .i64 0) ∧ Below W.heap.size W w') := fun W => by
    have := shOf_any ⟨false, 0, 9⟩ ⟨by decide, by decide⟩ 7 (by decide) 1 W
    rw [a31_o] at this; exact this
  have H4 : Hid (∀ (W : World) (B : Nat), BlockIs W B (l31.flatMap peV) 66 → Calls Try.prog 48 #[.slice (some ⟨B, 0, none⟩) 2 2, .slice (some ⟨B, 10, none⟩) 1 1] W fun e w' => ∃ a c, e = .returned (.slice a 1 c) ∧ Below W.heap.size W w') := fun W B h => by
    have h2 := reads_dropP (k := 1) (show ReadsL peV 10 W (.slice (some ⟨B, 0, none⟩) l31.length 2) l31 from HRd W B h) (by decide)
    refine (shWrites_any _ _ l31 [p31b] W (HRd W B h) (by simpa [l31] using h2) (by decide)).mono ?_
    rintro e w' ⟨q, rfl, hq, hb⟩
    rw [a31_w] at hq
    obtain ⟨_, _, a, c, rfl, _⟩ := hq.open
    exact ⟨a, c, rfl, hb⟩
  clear HRd
  go_enter Try.func41, Try.ntmps41
  go_upto_region 2 with fail
  go_name_world W0 hW0
  obtain ⟨B, hB⟩ : ∃ B, B = w.heap.size := ⟨_, rfl⟩
  have hS0 : BlockIs W0 B (l31.flatMap peV) 66 := by subst hW0 hB; exact BlockIs.newAt' _ _ _ (by simp)
  have b0 : Below w.heap.size w W0 := by subst hW0; (repeat (first | with_reducible assumption | with_reducible exact Below.refl _ _ | with_reducible refine Below.setCell ?_ (by first | omega | (simp; done) | (simp; omega)) _ | with_reducible refine Below.alloc ?_ (by first | omega | (simp; done) | (simp; omega)) _ | with_reducible refine Below.drew ?_ | (with_reducible refine Below.trans ?_ (Below.mono (by with_reducible assumption) (by first | omega | (simp; done) | (simp; omega)))) | (refine Below.trans ?_ (Below.mono (by assumption) (by first | omega | (simp; done) | (simp; omega))))))
  rw [← hB]
  have HS0 := Lib.hid hS0; have HB0 := Lib.hid b0
  clear hW0 hB hS0 b0
  go_upto_region 3 with (go_at_call 51; (with_reducible refine (H1.out _ _ HS0.out).mono ?_); rintro e w2 ⟨a2, c2, ss, rfl, rd2, hp2, b2⟩)
  have HS2 := Lib.hid (HS0.out.below b2); have HB2 := Lib.hid (below2 HB0.out b2); have HR2 := Lib.hid rd2; have HP2 := Lib.hid hp2
  have hS2 := HS0.out.below b2
  have lB := hS2.lt
  have x0 := hS2.cell (i := 10) rfl; have x1 := hS2.cell (i := 11) rfl; have x2 := hS2.cell (i := 12) rfl; have x3 := hS2.cell (i := 13) rfl; have x4 := hS2.cell (i := 14) rfl; have x5 := hS2.cell (i := 15) rfl; have x6 := hS2.cell (i := 16) rfl; have x7 := hS2.cell (i := 17) rfl; have x8 := hS2.cell (i := 18) rfl; have x9 := hS2.cell (i := 19) rfl
  clear hS2 b2 rd2 hp2
  have HJ1 := Lib.hid (H2.out w2.drew _ ss (HR2.out.below (Below.refl _ _).drew) HP2.out)
  have HJ2 := Lib.hid (fun W (hW : Below w2.heap.size w2 W) => H2.out W _ ss (HR2.out.below hW) HP2.out)
  go_region_with (first
    | (go_at_call 53; (with_reducible refine HJ1.out.mono ?_); rintro e w3 ⟨bq3, oq3, cq3, rfl, hc3, hl3, K3, b3⟩; have y3 := below2 ((Below.refl w2.heap.size w2).drew) b3; obtain ⟨cf3, ff3⟩ := bcellB y3; have d3 := fun o => cf3 B o (by omega); have z3 := y3.size; clear cf3 ff3)
    | (go_at_call 53; (with_reducible refine (HJ2.out _ y3).mono ?_); rintro e w4 ⟨bq4, oq4, cq4, rfl, hc4, hl4, K4, b4⟩; have y4 := below2 y3 b4; obtain ⟨cf4, ff4⟩ := bcellB y4; have d4 := fun o => cf4 B o (by omega); have z4 := y4.size; clear cf4 ff4; obtain ⟨k0, k1, k2, k3, k4, k5, k6, k7, k8, k9⟩ := K4)
    | (go_at_call 42; (with_reducible refine (H3.out _).mono ?_); rintro e w5 ⟨rfl, b5⟩; have y5 := below2 y4 b5)
    | (go_at_call 48; (with_reducible refine (H4.out _ _ (HS2.out.below y5)).mono ?_); rintro e w6 ⟨a6, c6, rfl, b6⟩; have y6 := below2 y5 b6))
  all_goals
    go_wp2_with fail
    go_ret
    exact ⟨rfl, below2 HB2.out y6⟩
end Go.Proofs.Ytppmjbnhghaffaa
