/- The law of rank turned: its parts. No condition. -/
import Derived.Test.YtdjmejdfcceknaaRankT
import Derived.Test.YtdjmejdfcceknaaLawRank
import Derived.Test.YtdjmejdfcceknaaEq
import Derived.Test.YtdjmejdfcceknaaPeM
namespace Go.Proofs.Ytdjmejdfcceknaa
open Go.RowKit
set_option linter.unusedSimpArgs false
set_option linter.unusedVariables false
theorem first_lt {l : List Pe} {q n : Int} {s i : Nat} (h : i ∈ rkFirst l q n s) : i < l.length := rkIdx_lt ((ssort_mem _).1 (List.mem_of_mem_take h))

set_option maxRecDepth 100000 in
set_option maxHeartbeats 16000000 in
theorem rankTurned_any (v : Value) (l : List Pe) (a : As) (w : World) (h : ReadsL peV 10 w v l) (hl : ∀ x ∈ l, x.fits) (hf : a.fits) (hat : -9223372036854775808 ≤ a.at_ ∧ a.at_ ≤ 9223372036854775807) :
    Calls Try.prog 8 #[v, .agg #[.int .i64 a.by_, .int .i64 a.n, .int .i64 a.at_, .int .u64 a.secret]] w fun e w' => e = .returned (.bool true) ∧ Below w.heap.size w w' := by
  have h0 := h
  obtain ⟨hm, p, c, rfl, h3⟩ := pes_open h
  clear h
  have HA := Lib.hid (fun w => awake18_any w)
  rcases Int.lt_or_le 30 (l.length : Int) with hlen | hlen
  · go_enter Try.func8, Try.ntmps8
    go_wp2_with (go_at_call 37; (with_reducible refine (HA.out _).mono ?_); rintro e w2 ⟨rfl, b2⟩; obtain ⟨c2, f2⟩ := bcell b2; have z2 := b2.size; (try simp at z2); clear c2 f2)
    go_ret
    refine ⟨rfl, ?_⟩
    (repeat (first | with_reducible assumption | with_reducible exact Below.refl _ _ | with_reducible refine Below.setCell ?_ (by first | omega | (simp; done) | (simp; omega)) _ | with_reducible refine Below.alloc ?_ (by first | omega | (simp; done) | (simp; omega)) _ | with_reducible refine Below.drew ?_ | (with_reducible refine Below.trans ?_ (Below.mono (by with_reducible assumption) (by first | omega | (simp; done) | (simp; omega)))) | (refine Below.trans ?_ (Below.mono (by assumption) (by first | omega | (simp; done) | (simp; omega))))))
  rcases Nat.eq_zero_or_pos l.length with hz | hz
  · have hzz : (l.length : Int) = 0 := by omega
    rw [hz]
    go_enter Try.func8, Try.ntmps8
    go_wp2_with (go_at_call 37; (with_reducible refine (HA.out _).mono ?_); rintro e w2 ⟨rfl, b2⟩; obtain ⟨c2, f2⟩ := bcell b2; have z2 := b2.size; (try simp at z2); clear c2 f2)
    go_ret
    refine ⟨rfl, ?_⟩
    (repeat (first | with_reducible assumption | with_reducible exact Below.refl _ _ | with_reducible refine Below.setCell ?_ (by first | omega | (simp; done) | (simp; omega)) _ | with_reducible refine Below.alloc ?_ (by first | omega | (simp; done) | (simp; omega)) _ | with_reducible refine Below.drew ?_ | (with_reducible refine Below.trans ?_ (Below.mono (by with_reducible assumption) (by first | omega | (simp; done) | (simp; omega)))) | (refine Below.trans ?_ (Below.mono (by assumption) (by first | omega | (simp; done) | (simp; omega))))))
  · have hzz : ¬ ((l.length : Int) = 0) := by omega
    have hzb : ((l.length : Int) == 0) = false := beq_eq_false_iff_ne.2 hzz
    obtain ⟨b, o, rfl, h4, h5, h6⟩ := h3 hz
    clear h3
    go_enter Try.func8, Try.ntmps8
    go_upto_region 4 with fail
    go_name_world WW0 hWW0
    have e00 : WW0.cell? ⟨w.heap.size, 0, none⟩ = some (.int .i64 a.by_) := by subst hWW0; (first | (simp (disch := first | omega | (simp; omega)) [World.cell?_alloc_past, World.frozen?_alloc_past, *]; done) | (simp (disch := first | omega | (simp; omega)) [World.cell?_setCell_far, World.cell?_alloc_past, *]; done) | (simp (disch := first | omega | (simp; omega)) [World.cell?_alloc_past, World.frozen?_alloc_past, *]; rfl) | (simp (disch := first | omega | (simp; omega)) [World.cell?_setCell_far, World.cell?_alloc_past, *]; rfl) | (simp [go_sem, *]; done) | (simp (disch := first | omega | (simp; omega) | (simp [go_sem, *]; done)) [go_sem, World.cell?_setCell_far, World.cell?_alloc_past, World.frozen?_alloc_past, *]; done))
    have e01 : WW0.cell? ⟨w.heap.size, 1, none⟩ = some (.int .i64 a.n) := by subst hWW0; (first | (simp (disch := first | omega | (simp; omega)) [World.cell?_alloc_past, World.frozen?_alloc_past, *]; done) | (simp (disch := first | omega | (simp; omega)) [World.cell?_setCell_far, World.cell?_alloc_past, *]; done) | (simp (disch := first | omega | (simp; omega)) [World.cell?_alloc_past, World.frozen?_alloc_past, *]; rfl) | (simp (disch := first | omega | (simp; omega)) [World.cell?_setCell_far, World.cell?_alloc_past, *]; rfl) | (simp [go_sem, *]; done) | (simp (disch := first | omega | (simp; omega) | (simp [go_sem, *]; done)) [go_sem, World.cell?_setCell_far, World.cell?_alloc_past, World.frozen?_alloc_past, *]; done))
    have e02 : WW0.cell? ⟨w.heap.size, 2, none⟩ = some (.int .i64 a.at_) := by subst hWW0; (first | (simp (disch := first | omega | (simp; omega)) [World.cell?_alloc_past, World.frozen?_alloc_past, *]; done) | (simp (disch := first | omega | (simp; omega)) [World.cell?_setCell_far, World.cell?_alloc_past, *]; done) | (simp (disch := first | omega | (simp; omega)) [World.cell?_alloc_past, World.frozen?_alloc_past, *]; rfl) | (simp (disch := first | omega | (simp; omega)) [World.cell?_setCell_far, World.cell?_alloc_past, *]; rfl) | (simp [go_sem, *]; done) | (simp (disch := first | omega | (simp; omega) | (simp [go_sem, *]; done)) [go_sem, World.cell?_setCell_far, World.cell?_alloc_past, World.frozen?_alloc_past, *]; done))
    have e03 : WW0.cell? ⟨w.heap.size, 3, none⟩ = some (.int .u64 a.secret) := by subst hWW0; (first | (simp (disch := first | omega | (simp; omega)) [World.cell?_alloc_past, World.frozen?_alloc_past, *]; done) | (simp (disch := first | omega | (simp; omega)) [World.cell?_setCell_far, World.cell?_alloc_past, *]; done) | (simp (disch := first | omega | (simp; omega)) [World.cell?_alloc_past, World.frozen?_alloc_past, *]; rfl) | (simp (disch := first | omega | (simp; omega)) [World.cell?_setCell_far, World.cell?_alloc_past, *]; rfl) | (simp [go_sem, *]; done) | (simp (disch := first | omega | (simp; omega) | (simp [go_sem, *]; done)) [go_sem, World.cell?_setCell_far, World.cell?_alloc_past, World.frozen?_alloc_past, *]; done))
    have bw0 : Below w.heap.size w WW0 := by subst hWW0; (repeat (first | assumption | exact Below.refl _ _ | refine Below.setCell ?_ (by first | omega | (simp; done) | (simp; omega)) _ | refine Below.alloc ?_ (by first | omega | (simp; done) | (simp; omega)) _ | refine Below.drew ?_ | (refine Below.trans ?_ (Below.mono (by assumption) (by first | omega | (simp; done) | (simp; omega))))))
    have zw0 : _ := bw0.size
    have lW00 : w.heap.size < WW0.heap.size := by subst hWW0; first | omega | (simp; done) | (simp; omega)
    clear hWW0
    go_loopw [5, 6] (fun i' _ wr => ∃ i : Nat, i ≤ l.length ∧ i' = .int .i64 i ∧ Hid (∀ x y, x < y → y < i → (rkGet l x).en ≠ (rkGet l y).en) ∧ Hid (Below WW0.heap.size WW0 wr)) (fun i' _ _ => l.length - (intOf i').toNat)
    case atStart => exact ⟨0, by omega, rfl, fun x y h1 h2 => by omega, Below.refl _ _⟩
    case round =>
      obtain ⟨i, hi, rfl, HU, HB⟩ := hrel
      obtain ⟨wo, rfl⟩ : ∃ wo : World, wo = wr := ⟨_, rfl⟩
      by_cases hlt : i < l.length
      · obtain ⟨pi, hpi⟩ : ∃ p, l[i]? = some p := ⟨_, List.getElem?_eq_getElem hlt⟩
        have q1 : (0 : Int) ≤ (i : Int) := by omega
        have q2 : (i : Int) < (l.length : Int) := by omega
        go_wp2_with fail
        go_loopw [6] (fun k' wr => ∃ k : Nat, k ≤ i ∧ k' = .int .i64 k ∧ Hid (∀ x, x < k → (rkGet l x).en ≠ pi.en) ∧ Hid (Below WW0.heap.size WW0 wr)) (fun k' _ => i - (intOf k').toNat)
        case atStart => exact ⟨0, by omega, rfl, fun x h1 => by omega, HB.out⟩
        case round =>
          obtain ⟨k, hk, rfl, HV, HB2⟩ := hrel
          have hbw := bw0.trans (HB2.out.mono bw0.size)
          by_cases hki : k < i
          · obtain ⟨pk, hpk⟩ : ∃ p, l[k]? = some p := ⟨_, List.getElem?_eq_getElem (show k < l.length by omega)⟩
            have K := ((h6 i pi hpi).below hbw h5).ext (Nat.lt_of_lt_of_le h5 hbw.size)
            have K2 := ((h6 k pk hpk).below hbw h5).ext (Nat.lt_of_lt_of_le h5 hbw.size)
            have x0 := fun y => (K y).1; have x1 := fun y => (K y).2.1; have x2 := fun y => (K y).2.2.1; have x3 := fun y => (K y).2.2.2.1
            have y0 := fun y => (K2 y).1; have y1 := fun y => (K2 y).2.1; have y2 := fun y => (K2 y).2.2.1; have y3 := fun y => (K2 y).2.2.2.1
            have q3 : (0 : Int) ≤ (k : Int) := by omega
            have q4 : (k : Int) < (l.length : Int) := by omega
            have q5 : (k : Int) < (i : Int) := by omega
            have q := fun W => eqlEn pi.en pk.en W
            have HG := Lib.hid (rkGet_at hpk)
            have HPI := Lib.hid hpi; have HPK := Lib.hid hpk
            clear K K2 hpi hpk
            by_cases he : pi.en = pk.en
            · have hd : decide (pi.en = pk.en) = true := decide_eq_true he
              rw [hd] at q
              clear hd he
              go_wp2_with fail
              refine wp_region_ext (by kernel_rfl) (by kernel_rfl) ?_
              repeat (go_big_quiet_step (fail))
              refine wpQuiet_nil ?_
              intro _ hw'
              obtain ⟨gx, hw''⟩ := hw'
              subst hw''
              clear x0 x1 x2 x3 y0 y1 y2 y3 q
              have b8 := below2 hbw (ext_below wr gx)
              go_wp2_with (go_at_call 37; (with_reducible refine (HA.out _).mono ?_); rintro e w9 ⟨rfl, b9⟩)
              go_ret
              exact ⟨rfl, below2 b8 b9⟩
            · have hd : decide (pi.en = pk.en) = false := decide_eq_false he
              rw [hd] at q
              have HE := Lib.hid he
              clear hd he
              go_wp2_with fail
              refine wp_region_ext (by kernel_rfl) (by kernel_rfl) ?_
              repeat (go_big_quiet_step (fail))
              refine wpQuiet_nil ?_
              intro _ hw'
              obtain ⟨gx, hw''⟩ := hw'
              subst hw''
              clear x0 x1 x2 x3 y0 y1 y2 y3 q
              go_wp2_with fail
              go_roundw
              case rel => exact ⟨k + 1, by omega, by go_num, fun x hx => by
                rcases Nat.lt_or_ge x k with h1 | h1
                · exact HV.out x h1
                · obtain rfl : x = k := by omega
                  rw [HG.out]; exact fun e => HE.out e.symm, HB2.out.trans ((ext_below wr gx).mono HB2.out.size)⟩
              case measure => simp [intOf]; omega
          · obtain rfl : k = i := by omega
            go_wp2_with fail
            go_roundw
            case rel => exact ⟨k + 1, by omega, by go_num, fun x y h1 h2 => by
              rcases Nat.lt_or_ge y k with h7 | h7
              · exact HU.out x y h1 h7
              · obtain rfl : y = k := by omega
                rw [rkGet_at hpi]; exact HV.out x h1, HB2.out⟩
            case measure => simp [intOf]; omega
      · obtain rfl : i = l.length := by omega
        have HUN : Hid (Unlike l) := List.pairwise_iff_getElem.2 fun x y hx hy hxy => by
          have := HU.out x y hxy hy
          rwa [rkGet_at (List.getElem?_eq_getElem hx), rkGet_at (List.getElem?_eq_getElem hy)] at this
        obtain ⟨k, hk, hB⟩ := below_any a.at_ l.length hat hz (by omega)
        have HBL := Lib.hid hB
        have hbw := bw0.trans (HB.out.mono bw0.size)
        have e0 := keep HB.out lW00 e00
        have e1 := keep HB.out lW00 e01
        have e2 := keep HB.out lW00 e02
        have e3 := keep HB.out lW00 e03
        have hRr : ReadsL peV 10 wo (.slice (some ⟨b, o, none⟩) l.length c) l := Reads.below h0 hbw
        have hd1 : (l.drop k).length = l.length - k := List.length_drop
        have hd2 : (l.take k).length = k := by rw [List.length_take]; omega
        have r1 := reads_dropP hRr (Nat.le_of_lt hk)
        have r2 := reads_takeP hRr (Nat.le_of_lt hk)
        unfold ReadsL at r1 r2
        rw [hd1] at r1
        rw [hd2] at r2
        have R1 := Lib.hid r1; have R2 := Lib.hid r2
        have hk1 := Lib.hid hd1; have hk2 := Lib.hid hd2
        clear r1 r2 hd1 hd2
        have q1 : (0 : Int) ≤ (k : Int) := by omega
        have q2 : (k : Int) ≤ (l.length : Int) := by omega
        have q3 : (k : Int) ≤ (c : Int) := by omega
        have hck : ¬ c = k := by omega
        have hckz : ¬ (c : Int) = (k : Int) := by omega
        have zt1 : ((l.length : Int) - (k : Int)).toNat = l.length - k := by omega
        have zt2 : ((c : Int) - (k : Int)).toNat = c - k := by omega
        clear hB e00 e01 e02 e03 hRr
        go_upto_region 12 with (go_at_call 23; (with_reducible refine (HBL.out _).mono ?_); rintro e w' ⟨rfl, rfl⟩)
        go_region_held3 (fun _ => True) (first | trivial) (first | (refine step_app_reads peRow (by rfl) (.tmp 51) (.tmp 54) (by rfl) wo.heap.size _ 0 [] (by rfl) (World.ownsRow_made _ #[] 0 (Nat.le_refl _) (Nat.zero_le _) rfl) _ (l.length - k) ((l.drop k).flatMap peV) (by rfl) (Reads.below R1.out (by (repeat (first | with_reducible assumption | with_reducible exact Below.refl _ _ | with_reducible refine Below.setCell ?_ (by first | omega | (simp; done) | (simp; omega)) _ | with_reducible refine Below.alloc ?_ (by first | omega | (simp; done) | (simp; omega)) _ | with_reducible refine Below.drew ?_ | (with_reducible refine Below.trans ?_ (Below.mono (by with_reducible assumption) (by first | omega | (simp; done) | (simp; omega)))) | (refine Below.trans ?_ (Below.mono (by assumption) (by first | omega | (simp; done) | (simp; omega)))))))) (peV_ones _) (by omega) (by omega) (by simp) wo.heap.size wo (by (repeat (first | with_reducible assumption | with_reducible exact Below.refl _ _ | with_reducible refine Below.setCell ?_ (by first | omega | (simp; done) | (simp; omega)) _ | with_reducible refine Below.alloc ?_ (by first | omega | (simp; done) | (simp; omega)) _ | with_reducible refine Below.drew ?_ | (with_reducible refine Below.trans ?_ (Below.mono (by with_reducible assumption) (by first | omega | (simp; done) | (simp; omega)))) | (refine Below.trans ?_ (Below.mono (by assumption) (by first | omega | (simp; done) | (simp; omega))))))) (Nat.le_refl _) ?_; intro v1 w1 o1 b1; simp only [Nat.zero_add, List.nil_append] at o1) | (refine step_app_reads peRow (by rfl) (.tmp 55) (.tmp 58) (by rfl) wo.heap.size v1 (l.length - k) ((l.drop k).flatMap peV) (by rfl) o1 _ k ((l.take k).flatMap peV) (by rfl) (Reads.below R2.out b1) (peV_ones _) (by omega) (by omega) (b1.size) wo.heap.size wo b1 (Nat.le_refl _) ?_; intro v2 w2 o2 b2))
        have hwo := HB.out.size
        have hzo := b2.size
        have g0 := keep b2 (show w.heap.size < wo.heap.size by omega) e0
        have g1 := keep b2 (show w.heap.size < wo.heap.size by omega) e1
        have g2 := keep b2 (show w.heap.size < wo.heap.size by omega) e2
        have g3 := keep b2 (show w.heap.size < wo.heap.size by omega) e3
        have hlw2 : w.heap.size < w2.heap.size := by omega
        obtain ⟨tl, htl⟩ : ∃ t, t = l.drop k ++ l.take k := ⟨_, rfl⟩
        have htlen : tl.length = l.length - k + k := by rw [htl, List.length_append, hk1.out, hk2.out]
        have hR2 : ReadsL peV 10 w2 v2 tl := by
          have := owns_reads o2
          unfold ReadsL
          rw [htlen, htl, List.flatMap_append]; exact this
        have hR1 : ReadsL peV 10 w2 (.slice (some ⟨b, o, none⟩) l.length c) l := Reads.below (Reads.below h0 hbw) b2
        have hlt2 : ∀ x ∈ tl, x.fits := fun x hx => by
          rw [htl] at hx
          rcases List.mem_append.1 hx with hx | hx
          · exact hl x (List.mem_of_mem_drop hx)
          · exact hl x (List.mem_of_mem_take hx)
        have hF := fun w' (bb : Below w2.heap.size w2 w') => rk_first_any _ l hl a.by_ a.n hf.1 a.secret hf.2 w' (Reads.below hR1 bb) (by omega)
        have hF2 := fun w' (bb : Below w2.heap.size w2 w') => rk_first_any v2 tl hlt2 a.by_ a.n hf.1 a.secret hf.2 w' (Reads.below hR2 bb) (by omega)
        have HM : Hid ((rkFirst tl a.by_ a.n a.secret).map (rkGet tl) = (rkFirst l a.by_ a.n a.secret).map (rkGet l)) := by show _ = _; rw [htl]; exact first_turned l a.by_ a.n a.secret k HUN.out
        have HF := Lib.hid hF; have HF2 := Lib.hid hF2; have HTL := Lib.hid htl; have HR1 := Lib.hid hR1; have HR2 := Lib.hid hR2; have HTN := Lib.hid htlen
        have hbw2 := hbw.trans (b2.mono hbw.size)
        have HBW2 := Lib.hid hbw2
        clear hF hF2 htl hR1 hR2 htlen o1 o2 b1 b2 e0 e1 e2 e3 hbw hbw2
        go_wp2_with fail
        go_region_held3 (fun w' => w'.cell? ⟨w.heap.size, 0, none⟩ = some (.int .i64 a.by_) ∧ w'.cell? ⟨w.heap.size, 1, none⟩ = some (.int .i64 a.n) ∧ w'.cell? ⟨w.heap.size, 2, none⟩ = some (.int .i64 a.at_) ∧ w'.cell? ⟨w.heap.size, 3, none⟩ = some (.int .u64 a.secret)) (first | go_keep | (simp (disch := omega) [*])) (first | (go_at_call 43; (with_reducible refine (HF.out _ (by (repeat (first | with_reducible assumption | with_reducible exact Below.refl _ _ | with_reducible refine Below.setCell ?_ (by first | omega | (simp; done) | (simp; omega)) _ | with_reducible refine Below.alloc ?_ (by first | omega | (simp; done) | (simp; omega)) _ | with_reducible refine Below.drew ?_ | (with_reducible refine Below.trans ?_ (Below.mono (by with_reducible assumption) (by first | omega | (simp; done) | (simp; omega)))) | (refine Below.trans ?_ (Below.mono (by assumption) (by first | omega | (simp; done) | (simp; omega)))))))).mono ?_); rintro e w3 ⟨r1, rfl, o3, b3⟩; have z3 := b3.size; (try simp at z3); have d3 := fun o => (bcell b3).1 w.heap.size o (by first | omega | (simp; done) | (simp; omega))) | (go_at_call 43; (with_reducible refine (HF2.out _ (by (repeat (first | with_reducible assumption | with_reducible exact Below.refl _ _ | with_reducible refine Below.setCell ?_ (by first | omega | (simp; done) | (simp; omega)) _ | with_reducible refine Below.alloc ?_ (by first | omega | (simp; done) | (simp; omega)) _ | with_reducible refine Below.drew ?_ | (with_reducible refine Below.trans ?_ (Below.mono (by with_reducible assumption) (by first | omega | (simp; done) | (simp; omega)))) | (refine Below.trans ?_ (Below.mono (by assumption) (by first | omega | (simp; done) | (simp; omega)))))))).mono ?_); rintro e w4 ⟨r2, rfl, o4, b4⟩; have z4 := b4.size; (try simp at z4); have d4 := fun o => (bcell b4).1 w.heap.size o (by first | omega | (simp; done) | (simp; omega))))
        obtain ⟨xs, hxs⟩ : ∃ t, t = rkFirst l a.by_ a.n a.secret := ⟨_, rfl⟩
        obtain ⟨ys, hys⟩ : ∃ t, t = rkFirst tl a.by_ a.n a.secret := ⟨_, rfl⟩
        rw [← hxs, ← hys] at HM
        rw [← hxs] at o3
        rw [← hys] at o4
        have hln : ys.length = xs.length := by
          have := congrArg List.length HM.out
          rwa [List.length_map, List.length_map] at this
        have b23 : Below w2.heap.size w2 w3 := below2 (by (repeat (first | with_reducible assumption | with_reducible exact Below.refl _ _ | with_reducible refine Below.setCell ?_ (by first | omega | (simp; done) | (simp; omega)) _ | with_reducible refine Below.alloc ?_ (by first | omega | (simp; done) | (simp; omega)) _ | with_reducible refine Below.drew ?_ | (with_reducible refine Below.trans ?_ (Below.mono (by with_reducible assumption) (by first | omega | (simp; done) | (simp; omega)))) | (refine Below.trans ?_ (Below.mono (by assumption) (by first | omega | (simp; done) | (simp; omega)))))) : Below w2.heap.size w2 w2.drew) b3
        have b24 := below2 b23 b4
        have o3' := Reads.below o3 b4
        obtain ⟨_, hm1, p1, c1, rfl, k1⟩ := o3'.open
        obtain ⟨_, hm2, p2, c2, rfl, k2⟩ := o4.open
        rw [hln] at k2 hm2
        have HXS := Lib.hid hxs; have HYS := Lib.hid hys; have HLN := Lib.hid hln; have HB24 := Lib.hid b24; have HK1 := Lib.hid k1; have HK2 := Lib.hid k2
        have hmk := fun W => run_make_bools l.length (by omega) W
        have e0 := keep b24 hlw2 g0
        have e1 := keep b24 hlw2 g1
        have e2 := keep b24 hlw2 g2
        have e3 := keep b24 hlw2 g3
        clear k1 k2 b3 b4 b23 b24 o3 o3' o4 hxs hys d3 d4 g0 g1 g2 g3 zt1 zt2 q1 q2 q3 hckz hck HF HF2 R1 R2 HBL z3 z4
        simp only [hln]
        go_upto_region 18 with fail
        clear hmk
        go_name_world W5 hW5
        have hU0 : BlockIs W5 w4.heap.size (usedV l.length []) 4 := by subst hW5; exact BlockIs.newAt' _ _ _ (by simp)
        have b45 : Below w4.heap.size w4 W5 := by subst hW5; (repeat (first | with_reducible assumption | with_reducible exact Below.refl _ _ | with_reducible refine Below.setCell ?_ (by first | omega | (simp; done) | (simp; omega)) _ | with_reducible refine Below.alloc ?_ (by first | omega | (simp; done) | (simp; omega)) _ | with_reducible refine Below.drew ?_ | (with_reducible refine Below.trans ?_ (Below.mono (by with_reducible assumption) (by first | omega | (simp; done) | (simp; omega)))) | (refine Below.trans ?_ (Below.mono (by assumption) (by first | omega | (simp; done) | (simp; omega))))))
        have hlw4 : w.heap.size < w4.heap.size := by have := HB24.out.size; omega
        have hU0 := Lib.hid hU0; have HB45 := Lib.hid b45
        clear hW5 b45
        go_loopw [12] (fun i' wr => ∃ t : Nat, t ≤ xs.length ∧ i' = .int .i64 t ∧ Hid (BlockIs wr w4.heap.size (usedV l.length (xs.take t)) 4) ∧ Hid (Below w4.heap.size w4 wr)) (fun i' _ => xs.length - (intOf i').toNat)
        case atStart => exact ⟨0, by omega, rfl, (show BlockIs _ _ (usedV l.length (xs.take 0)) _ by rw [List.take_zero]; exact hU0.out), HB45.out⟩
        case round =>
          obtain ⟨t, ht, rfl, HUt, HBt⟩ := hrel
          have hwr := HBt.out.size
          by_cases hlt' : t < xs.length
          · obtain ⟨bx, ox, rfl, hcx, hbx, hxx⟩ := HK1.out (by omega)
            obtain ⟨by', oy, rfl, hcy, hby, hyy⟩ := HK2.out (by omega)
            have hty : t < ys.length := by omega
            obtain ⟨x, hx⟩ : ∃ x, xs[t]? = some x := ⟨_, List.getElem?_eq_getElem hlt'⟩
            obtain ⟨y, hy⟩ : ∃ y, ys[t]? = some y := ⟨_, List.getElem?_eq_getElem hty⟩
            have hxl : x < l.length := first_lt (HXS.out ▸ List.mem_of_getElem? hx)
            have hyl : y < tl.length := first_lt (HYS.out ▸ List.mem_of_getElem? hy)
            have htll : tl.length = l.length := by have := HTN.out; omega
            have g1 : w4.cell? ⟨bx, ox + t, none⟩ = some (.int .i64 x) := hxx t (natV x) (by rw [List.getElem?_map, hx]; rfl)
            have g2 : w4.cell? ⟨by', oy + t, none⟩ = some (.int .i64 y) := hyy t (natV y) (by rw [List.getElem?_map, hy]; rfl)
            have hsame : rkGet tl y = rkGet l x := by
              have := congrArg (·[t]?) HM.out
              simp only [List.getElem?_map, hx, hy, Option.map_some] at this
              exact Option.some.inj this
            obtain ⟨hm', pp, cc, rfl, hh3⟩ := pes_open HR2.out
            obtain ⟨b2, o2, rfl, hc2', hb2, hx2⟩ := hh3 (by omega)
            obtain ⟨p, hp⟩ : ∃ p, l[x]? = some p := ⟨_, List.getElem?_eq_getElem hxl⟩
            have hpy : tl[y]? = some p := by
              have := rkGet_at (List.getElem?_eq_getElem hyl)
              rw [hsame, rkGet_at hp] at this
              rw [List.getElem?_eq_getElem hyl, ← this]
            have Bl := below2 HB24.out HBt.out
            have Bw := below2 HBW2.out Bl
            have K1 := ((h6 x p hp).below Bw h5).ext (Nat.lt_of_lt_of_le h5 Bw.size)
            have K2 := ((hx2 y p hpy).below Bl hb2).ext (Nat.lt_of_lt_of_le hb2 Bl.size)
            have x0 := fun y => (K1 y).1; have x1 := fun y => (K1 y).2.1; have x2 := fun y => (K1 y).2.2.1; have x3 := fun y => (K1 y).2.2.2.1; have x4 := fun y => (K1 y).2.2.2.2.1; have x5 := fun y => (K1 y).2.2.2.2.2.1; have x6 := fun y => (K1 y).2.2.2.2.2.2.1; have x7 := fun y => (K1 y).2.2.2.2.2.2.2.1; have x8 := fun y => (K1 y).2.2.2.2.2.2.2.2.1; have x9 := fun y => (K1 y).2.2.2.2.2.2.2.2.2
            have y0 := fun y => (K2 y).1; have y1 := fun y => (K2 y).2.1; have y2 := fun y => (K2 y).2.2.1; have y3 := fun y => (K2 y).2.2.2.1; have y4 := fun y => (K2 y).2.2.2.2.1; have y5 := fun y => (K2 y).2.2.2.2.2.1; have y6 := fun y => (K2 y).2.2.2.2.2.2.1; have y7 := fun y => (K2 y).2.2.2.2.2.2.2.1; have y8 := fun y => (K2 y).2.2.2.2.2.2.2.2.1; have y9 := fun y => (K2 y).2.2.2.2.2.2.2.2.2
            have f1 := fun g => (ext_cell wr g (p := ⟨bx, ox + t, none⟩) (Nat.lt_of_lt_of_le hbx HBt.out.size)).trans (keep HBt.out hbx g1)
            have f2 := fun g => (ext_cell wr g (p := ⟨by', oy + t, none⟩) (Nat.lt_of_lt_of_le hby HBt.out.size)).trans (keep HBt.out hby g2)
            have q1 : (0 : Int) ≤ (t : Int) := by omega
            have q2 : (t : Int) < (xs.length : Int) := by omega
            have q3 : (0 : Int) ≤ (x : Int) := by omega
            have q4 : (x : Int) < (l.length : Int) := by omega
            have q5 : (0 : Int) ≤ (y : Int) := by omega
            have q6 : (y : Int) < (l.length : Int) := by omega
            have q7 : decide ((x : Int) < 0) = false := decide_eq_false (by omega)
            have q8 : decide ((y : Int) < 0) = false := decide_eq_false (by omega)
            have q7' : ((x : Int) < 0) = False := eq_false (by omega)
            have q8' : ((y : Int) < 0) = False := eq_false (by omega)
            have q9 : (y : Int) < (tl.length : Int) := by omega
            have r7 : decide ((l.length : Int) ≤ (x : Int)) = false := decide_eq_false (by omega)
            have r8 : decide ((l.length : Int) ≤ (y : Int)) = false := decide_eq_false (by omega)
            have r7' : ((l.length : Int) ≤ (x : Int)) = False := eq_false (by omega)
            have r8' : ((l.length : Int) ≤ (y : Int)) = False := eq_false (by omega)
            have hqq := fun W => neqPe_one p W
            have HBw := Lib.hid Bw
            have HXi := Lib.hid hx; have HF1 := Lib.hid f1
            have Hxl := Lib.hid hxl
            clear K1 K2 g1 g2 hsame hp hpy hx hy hxx hyy hxl hyl Bl Bw
            go_wp2_with fail
            refine wp_region_ext (by kernel_rfl) (by kernel_rfl) ?_
            repeat (go_big_quiet_step (fail))
            refine wpQuiet_nil ?_
            intro _ hw'
            obtain ⟨gx, hw3⟩ := hw'
            subst hw3
            have hcu := (HUt.out.below (ext_below wr gx)).cell (usedV_get (O := xs.take t) Hxl.out)
            have f1' := HF1.out gx
            have hfu := (HUt.out.below (ext_below wr gx)).frozen x
            have hUl := (HUt.out.below (ext_below wr gx)).lt
            clear x0 x1 x2 x3 x4 x5 x6 x7 x8 x9 y0 y1 y2 y3 y4 y5 y6 y7 y8 y9 f1 f2 hqq
            go_upto_region 19 with fail
            go_name_world W6 hW6
            have hU6 : BlockIs W6 w4.heap.size (usedV l.length (xs.take (t + 1))) 4 := by
              subst hW6
              rw [List.take_add_one, HXi.out, Option.toList_some, ← usedV_set Hxl.out]
              exact (HUt.out.below (ext_below wr gx)).set x _
            have hB6 : Below w4.heap.size w4 W6 := by subst hW6; exact (below2 HBt.out (ext_below wr gx)).setCell (Nat.le_refl _) _
            clear hW6 hcu f1' hfu hUl
            have HU6 := Lib.hid hU6; have HB6 := Lib.hid hB6
            clear hU6 hB6
            go_wp2_with fail
            go_roundw
            case rel => exact ⟨t + 1, by omega, by go_num, HU6.out, HB6.out⟩
            case measure => simp [intOf]; omega
          · obtain rfl : t = xs.length := by omega
            have HU9 : Hid (BlockIs wr w4.heap.size (usedV l.length xs) 4) := by
              have := HUt.out
              rwa [List.take_length] at this
            have HB9 := HBt
            clear HUt
            go_wp2_with fail
            obtain ⟨wp, rfl⟩ : ∃ wp : World, wp = wr := ⟨_, rfl⟩
            go_loopw [13] (fun i' wq => ∃ i : Nat, i ≤ l.length ∧ i' = .int .i64 i ∧ Hid (BlockIs wq w4.heap.size (usedV l.length xs) 4) ∧ Hid (Below w4.heap.size w4 wq)) (fun i' _ => l.length - (intOf i').toNat)
            case atStart => exact ⟨0, by omega, rfl, HU9.out, HB9.out⟩
            case round =>
              obtain ⟨i, hi, rfl, HUi, HBi⟩ := hrel
              have Bw := below2 HBW2.out (below2 HB24.out HBi.out)
              have HBw := Lib.hid Bw
              clear Bw
              by_cases hlt2 : i < l.length
              · obtain ⟨p, hp⟩ : ∃ p, l[i]? = some p := ⟨_, List.getElem?_eq_getElem hlt2⟩
                have K := ((h6 i p hp).below HBw.out h5).ext (Nat.lt_of_lt_of_le h5 HBw.out.size)
                have x0 := fun y => (K y).1; have x1 := fun y => (K y).2.1; have x2 := fun y => (K y).2.2.1; have x3 := fun y => (K y).2.2.2.1; have x4 := fun y => (K y).2.2.2.2.1; have x5 := fun y => (K y).2.2.2.2.2.1; have x6 := fun y => (K y).2.2.2.2.2.2.1; have x7 := fun y => (K y).2.2.2.2.2.2.2.1; have x8 := fun y => (K y).2.2.2.2.2.2.2.2.1; have x9 := fun y => (K y).2.2.2.2.2.2.2.2.2
                have q1 : (0 : Int) ≤ (i : Int) := by omega
                have q2 : (i : Int) < (l.length : Int) := by omega
                have hu := fun y => (HUi.out.below (ext_below wr y)).cell (usedV_get (O := xs) hlt2)
                have a0 := fun y => (ext_cell wr y (p := ⟨w.heap.size, 0, none⟩) (Nat.lt_of_lt_of_le hlw4 HBi.out.size)).trans (keep HBi.out hlw4 e0)
                have a1 := fun y => (ext_cell wr y (p := ⟨w.heap.size, 1, none⟩) (Nat.lt_of_lt_of_le hlw4 HBi.out.size)).trans (keep HBi.out hlw4 e1)
                have a3 := fun y => (ext_cell wr y (p := ⟨w.heap.size, 3, none⟩) (Nat.lt_of_lt_of_le hlw4 HBi.out.size)).trans (keep HBi.out hlw4 e3)
                have HC0 := fun W => rk_counts_any p a.by_ W
                have HR0 := fun y => rk_rank_any _ l hl i a.by_ a.secret hf.2 (ext wr y) (Reads.below h0 (below2 HBw.out (ext_below wr y))) (by omega)
                have hFM := first_mem l a.by_ a.n a.secret i HUN.out hlt2
                rw [← HXS.out, rkGet_at hp] at hFM
                have hrk : rkRank l (i : Int) a.by_ a.secret = ((rkN l p a.by_ a.secret l.length : Nat) : Int) := by
                  unfold rkRank
                  rw [if_neg (by omega), show ((i : Int)).toNat = i from by omega, hp]; rfl
                simp only [hrk] at HR0
                generalize hbb : decide (i ∈ xs) = bb at hu
                generalize rkCounts p a.by_ = cc at HC0 hFM
                generalize ((rkN l p a.by_ a.secret l.length : Nat) : Int) = rr at HR0 hFM
                have HR := Lib.hid HR0
                have HC := Lib.hid HC0
                clear HC0 HR0 hrk K hp hlt2
                cases cc with
                | false =>
                  have hb0 : bb = false := by
                    rw [← hbb]; exact decide_eq_false fun h => by have := hFM.1 h; simp at this
                  subst hb0
                  clear hbb hFM
                  go_wp2_with fail
                  refine wp_region_ext (by kernel_rfl) (by kernel_rfl) ?_
                  repeat (go_big_quiet_step ((first | (go_at_call 38; with_reducible exact qe (HC.out _)) | (go_at_call 45; with_reducible exact qe (HR.out _)))))
                  refine wpQuiet_nil ?_
                  intro _ hw'
                  obtain ⟨gx, hw3⟩ := hw'
                  subst hw3
                  clear x0 x1 x2 x3 x4 x5 x6 x7 x8 x9 hu a0 a1 a3
                  go_wp2_with fail
                  go_roundw
                  case rel => exact ⟨i + 1, by omega, by go_num, HUi.out.below (ext_below wr gx), below2 HBi.out (ext_below wr gx)⟩
                  case measure => simp [intOf]; omega
                | true =>
                  by_cases hrn : rr < a.n
                  · have hb0 : bb = true := by
                      rw [← hbb]; exact decide_eq_true (hFM.2 (by simp [hrn]))
                    subst hb0
                    clear hbb hFM
                    go_wp2_with fail
                    refine wp_region_ext (by kernel_rfl) (by kernel_rfl) ?_
                    repeat (go_big_quiet_step ((first | (go_at_call 38; with_reducible exact qe (HC.out _)) | (go_at_call 45; with_reducible exact qe (HR.out _)))))
                    refine wpQuiet_nil ?_
                    intro _ hw'
                    obtain ⟨gx, hw3⟩ := hw'
                    subst hw3
                    clear x0 x1 x2 x3 x4 x5 x6 x7 x8 x9 hu a0 a1 a3
                    go_wp2_with fail
                    go_roundw
                    case rel => exact ⟨i + 1, by omega, by go_num, HUi.out.below (ext_below wr gx), below2 HBi.out (ext_below wr gx)⟩
                    case measure => simp [intOf]; omega
                  · have hb0 : bb = false := by
                      rw [← hbb]; exact decide_eq_false fun h => by have := hFM.1 h; simp [hrn] at this
                    subst hb0
                    clear hbb hFM
                    go_wp2_with fail
                    refine wp_region_ext (by kernel_rfl) (by kernel_rfl) ?_
                    repeat (go_big_quiet_step ((first | (go_at_call 38; with_reducible exact qe (HC.out _)) | (go_at_call 45; with_reducible exact qe (HR.out _)))))
                    refine wpQuiet_nil ?_
                    intro _ hw'
                    obtain ⟨gx, hw3⟩ := hw'
                    subst hw3
                    clear x0 x1 x2 x3 x4 x5 x6 x7 x8 x9 hu a0 a1 a3
                    go_wp2_with fail
                    go_roundw
                    case rel => exact ⟨i + 1, by omega, by go_num, HUi.out.below (ext_below wr gx), below2 HBi.out (ext_below wr gx)⟩
                    case measure => simp [intOf]; omega
              · obtain rfl : i = l.length := by omega
                go_wp2_with (go_at_call 37; (with_reducible refine (HA.out _).mono ?_); rintro e w9 ⟨rfl, b9⟩)
                go_ret
                exact ⟨rfl, below2 HBw.out b9⟩
end Go.Proofs.Ytdjmejdfcceknaa
