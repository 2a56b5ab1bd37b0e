/- Texts put together: LawShardW. No condition. -/
import Derived.Test.YtppmjbnhghaffaaRorxiqrzmog
import Derived.Deep.RegionHeld3
namespace Go.Proofs.Ytppmjbnhghaffaa
open Go.RowKit Go.Lib

theorem grown_drew {w w' : World} {r : Option Nat} (h : w.grownBy w' r) : w.grownBy w'.drew r := ⟨h.os, h.tape, h.output, h.size, h.block⟩
def putW (l R : List Pe) (P : List Nat) : List Pe := P.foldl (fun m q => match R[q]? with | some x => m.set q x | none => m) l
theorem putW_len (R : List Pe) : ∀ (P : List Nat) (l : List Pe), (putW l R P).length = l.length
  | [], _ => rfl
  | q :: P, l => by
    unfold putW
    rw [List.foldl_cons]
    have ih := putW_len R P
    unfold putW at ih
    rw [ih]
    cases R[q]? <;> simp
theorem putW_snoc {l R : List Pe} {P : List Nat} {q : Nat} {x : Pe} (h : R[q]? = some x) : putW l R (P ++ [q]) = (putW l R P).set q x := by
  unfold putW; rw [List.foldl_append, List.foldl_cons, List.foldl_nil, h]
theorem putW_get {R : List Pe} : ∀ (P : List Nat) (l : List Pe), (∀ q ∈ P, q < R.length) → R.length ≤ l.length → ∀ j, (putW l R P)[j]? = if j ∈ P then R[j]? else l[j]?
  | [], _, _, _, j => by simp [putW]
  | q :: P, l, hP, hR, j => by
    have hq := hP q (List.mem_cons_self ..)
    obtain ⟨x, hx⟩ : ∃ x, R[q]? = some x := ⟨_, List.getElem?_eq_getElem hq⟩
    have ih := putW_get (R := R) P (l.set q x) (fun a ha => hP a (List.mem_cons_of_mem _ ha)) (by simpa using hR) j
    have e : putW l R (q :: P) = putW (l.set q x) R P := by unfold putW; rw [List.foldl_cons, hx]
    rw [e, ih]
    by_cases h1 : j ∈ P
    · rw [if_pos h1, if_pos (List.mem_cons_of_mem _ h1)]
    · rw [if_neg h1]
      by_cases h2 : j = q
      · subst h2
        rw [if_pos (List.mem_cons_self ..), List.getElem?_set_self (by omega), hx]
      · rw [if_neg (by simp [h1, h2]), List.getElem?_set_ne (fun e => h2 e.symm)]
theorem wrtL_mem {was now : List Pe} {j : Nat} : j ∈ wrtL was now ↔ j < now.length ∧ was[j]? ≠ now[j]? := by
  unfold wrtL
  rw [List.mem_filter, List.mem_range]
  simp
theorem putW_all {l R : List Pe} (hR : R.length ≤ l.length) : (putW l R (wrtL l R)).take R.length = R := by
  apply List.ext_getElem?
  intro j
  rw [List.getElem?_take]
  by_cases h : j < R.length
  · rw [if_pos h, putW_get _ _ (fun q hq => (wrtL_mem.1 hq).1) hR]
    by_cases h1 : j ∈ wrtL l R
    · rw [if_pos h1]
    · rw [if_neg h1]
      by_cases e : l[j]? = R[j]?
      · exact e
      · exact absurd (wrtL_mem.2 ⟨h, e⟩) h1
  · rw [if_neg h, List.getElem?_eq_none (by omega)]
set_option maxRecDepth 100000 in
set_option maxHeartbeats 16000000 in
theorem shardWrites_any (v u : Value) (l : List Pe) (gone : List En) (w : World) (h : ReadsL peV 10 w v l) (h2 : ReadsL enV 4 w u gone) :
    Calls Try.prog 9 #[v, u] w fun e w' => e = .returned (.bool true) ∧ Below w.heap.size w w' := by
  have HV := Lib.hid h; have HU := Lib.hid h2
  have HA := Lib.hid (fun w => awake31_any w)
  obtain ⟨hm1, pa, ca, rfl, -⟩ := pes_open h
  obtain ⟨hm2, pb, cb, rfl, -⟩ := ens_open h2
  clear h h2
  rcases Int.lt_or_le 30 (l.length : Int) with hlen | hlen
  · go_enter Try.func9, Try.ntmps9
    go_wp2_with (go_at_call 41; (with_reducible refine (HA.out _).mono ?_); rintro e w2 ⟨rfl, b2⟩)
    go_ret
    refine ⟨rfl, ?_⟩
    (repeat (first | with_reducible assumption | with_reducible exact Below.refl _ _ | with_reducible refine Below.setCell ?_ (by first | omega | (simp; done) | (simp; omega)) _ | with_reducible refine Below.alloc ?_ (by first | omega | (simp; done) | (simp; omega)) _ | with_reducible refine Below.drew ?_ | (with_reducible refine Below.trans ?_ (Below.mono (by with_reducible assumption) (by first | omega | (simp; done) | (simp; omega)))) | (refine Below.trans ?_ (Below.mono (by assumption) (by first | omega | (simp; done) | (simp; omega))))))
  rcases Int.lt_or_le 30 (gone.length : Int) with hlen2 | hlen2
  · go_enter Try.func9, Try.ntmps9
    go_wp2_with (go_at_call 41; (with_reducible refine (HA.out _).mono ?_); rintro e w2 ⟨rfl, b2⟩)
    go_ret
    refine ⟨rfl, ?_⟩
    (repeat (first | with_reducible assumption | with_reducible exact Below.refl _ _ | with_reducible refine Below.setCell ?_ (by first | omega | (simp; done) | (simp; omega)) _ | with_reducible refine Below.alloc ?_ (by first | omega | (simp; done) | (simp; omega)) _ | with_reducible refine Below.drew ?_ | (with_reducible refine Below.trans ?_ (Below.mono (by with_reducible assumption) (by first | omega | (simp; done) | (simp; omega)))) | (refine Below.trans ?_ (Below.mono (by assumption) (by first | omega | (simp; done) | (simp; omega))))))
  have hn : l.length ≤ 1000000 := by omega
  have HRs := Lib.hid (shRest_any _ _ l gone w HV.out HU.out hn)
  have HRf := Lib.hid (fun W (hW : Below w.heap.size w W) => refShRest_any _ _ l gone W (ReadsL.below HV.out hW) (ReadsL.below HU.out hW) hn)
  have hRl : (restL gone l).length ≤ l.length := List.length_filter_le _ _
  generalize restL gone l = R at *
  go_enter Try.func9, Try.ntmps9
  go_upto_region 4 with (go_at_call 56; (with_reducible refine HRs.out.mono ?_); rintro e w3 ⟨r3, rfl, rd3, b3⟩; obtain ⟨hm3, p3, c3, rfl, h3⟩ := pes_open rd3)
  have H3 := Lib.hid h3; have HR3 := Lib.hid rd3; have HB3 := Lib.hid b3
  clear h3 rd3 b3 HRs
  go_upto_region 6 with (first
    | (go_at_call 57; (with_reducible refine (HRf.out _ HB3.out).mono ?_); rintro e w4 ⟨r4, rfl, rd4, b4⟩)
    | (go_at_call 44; (with_reducible refine (peers_same _ _ _ _ (ReadsL.below HR3.out b4) rd4).mono ?_); rintro e w5 ⟨rfl, b5⟩))
  have HB5 := Lib.hid (below2 b4 b5)
  clear rd4 b4 b5 HRf
  have hB5 := HB5.out.size
  go_upto_region 7 with (at_builtin; refine list_app_reads peRow rfl (.tmp 27) (.tmp 28) rfl w5.heap.size _ 0 [] rfl (World.ownsRow_made w5 #[] 0 (Nat.le_refl _) (Nat.zero_le _) rfl) _ l.length (l.flatMap peV) rfl (Reads.below HV.out (by first | exact below2 HB3.out (below2 HB5.out ((Below.refl _ _).alloc (Nat.le_refl _) _)))) (peV_ones _) (by omega) (by omega) (by simp) w5.heap.size w5 ((Below.refl _ _).alloc (Nat.le_refl _) _) (Nat.le_refl _) ?_; intro v6 w6 o6 b6; simp only [Nat.zero_add, List.nil_append] at o6)
  have HB6 := Lib.hid (below2 HB5.out b6)
  have HWr := Lib.hid (fun W (hW : Below w3.heap.size w3 W) => shWrites_own _ _ l R W (ReadsL.below HV.out (below2 HB3.out hW)) (ReadsL.below HR3.out hW) (by omega))
  have hWm : ∀ q ∈ wrtL l R, q < R.length := fun q hq => (wrtL_mem.1 hq).1
  have hWl : (wrtL l R).length ≤ R.length := Nat.le_trans (List.length_filter_le _ _) (by simp)
  have hAll := putW_all hRl
  have hlnP := fun P => putW_len R P l
  obtain ⟨WL, hWL⟩ : ∃ W, W = wrtL l R := ⟨_, rfl⟩
  rw [← hWL] at HWr hWm hWl hAll
  clear hWL b6 HV HU
  have HAll := Lib.hid hAll; have HLn := Lib.hid hlnP
  clear hAll hlnP
  have hgs : w3.heap.size ≤ w5.heap.size := hB5
  rcases o6.2 with ⟨rfl, hl0⟩ | ⟨gs, cap, cur, rfl, hgb, -, hcp, -⟩
  · have hR0 : R = [] := List.eq_nil_of_length_eq_zero (by omega)
    have hW0 : WL = [] := List.eq_nil_of_length_eq_zero (by rw [hR0] at hWl; simpa using hWl)
    have hL0 : l = [] := List.eq_nil_of_length_eq_zero hl0
    subst hR0 hL0
    simp only [List.length_nil] at *
    have HW7 := HWr.out w6 HB6.out
    clear o6 HWr
    go_upto_region 8 with (go_at_call 48; (with_reducible refine HW7.mono ?_); rintro e w7 ⟨r7, rfl, o7, b7⟩)
    have HB7 := Lib.hid (below2 HB6.out b7)
    have HO7 := Lib.hid o7
    obtain ⟨ga, cw, rfl⟩ := owns_slice o7
    clear o7 b7 HW7 HB6
    go_wp2_with fail
    subst hW0
    go_loopw [8] (fun i' wr => i' = .int .i64 0 ∧ Hid (Below w3.heap.size w3 wr)) (fun i' _ => 0)
    case atStart => exact ⟨rfl, HB7.out⟩
    case round =>
      obtain ⟨rfl, HB⟩ := hrel
      have HPe := Lib.hid (fun (a : Option Addr) (c : Nat) W (hW : Below w3.heap.size w3 W) => peers_same (.slice none 0 0) _ [] W ⟨rfl, Nat.zero_le _, Or.inl ⟨rfl, none, 0, rfl⟩⟩ (ReadsL.below HR3.out hW))
      go_wp2_with (first
        | (go_at_call 44; (refine (HPe.out none 0 _ HB.out).mono ?_); rintro e w8 ⟨rfl, b8⟩)
        | (go_at_call 41; (with_reducible refine (HA.out _).mono ?_); rintro e w9 ⟨rfl, b9⟩))
      go_ret
      exact ⟨rfl, below2 HB3.out (below2 HB.out (below2 b8 b9))⟩
  · have HO6 := Lib.hid o6
    have HW7 := HWr.out w6 HB6.out
    clear o6 HWr
    go_upto_region 8 with (go_at_call 48; (with_reducible refine HW7.mono ?_); rintro e w7 ⟨r7, rfl, o7, b7⟩)
    have HB7 := Lib.hid (below2 HB6.out b7)
    have HO7 := Lib.hid o7
    obtain ⟨ga, cw, rfl⟩ := owns_slice o7
    have HS7 := Lib.hid (owns_below HO6.out b7)
    have hgw : gs < w6.heap.size := (HO6.out.lt gs rfl).2
    obtain ⟨B6, hB6⟩ : ∃ B, B = w6.heap.size := ⟨_, rfl⟩
    rw [← hB6] at HO7 hgw
    clear hB6 HO6
    clear o7 b7 HW7 HB6
    go_wp2_with fail
    go_loopw [8] (fun i' wr => ∃ i : Nat, i ≤ WL.length ∧ i' = .int .i64 i ∧ Hid (wr.ownsRow w5.heap.size 66 10 (.slice (some ⟨gs, 0, none⟩) l.length cap) l.length ((putW l R (WL.take i)).flatMap peV)) ∧ Hid (wr.ownsRow B6 3 1 (.slice ga WL.length cw) WL.length (WL.map natV)) ∧ Hid (Below w3.heap.size w3 wr)) (fun i' _ => WL.length - (intOf i').toNat)
    case atStart => exact ⟨0, by omega, rfl, HS7.out, HO7.out, HB7.out⟩
    case round =>
      clear HS7 HO7 HB7
      obtain ⟨i, hi, rfl, HS, HO, HB⟩ := hrel
      have q1 : (0 : Int) ≤ (i : Int) := by omega
      by_cases hil : i < WL.length
      · obtain ⟨q, hq⟩ : ∃ q, WL[i]? = some q := ⟨_, List.getElem?_eq_getElem hil⟩
        have hqR := hWm q (List.mem_of_getElem? hq)
        obtain ⟨x, hx⟩ : ∃ x, R[q]? = some x := ⟨_, List.getElem?_eq_getElem hqR⟩
        obtain ⟨b, o, rfl, h4, h5, h6⟩ := H3.out (by omega)
        obtain ⟨x0, x1, x2, x3, x4, x5, x6, x7, x8, x9⟩ := (h6 q x hx).below HB.out h5
        obtain ⟨gw, cw', hgv⟩ := owns_sliceP HO.out (by omega)
        injection hgv with hga _ hcw
        subst hga hcw
        have hgwB := (HO.out.lt gw rfl).1
        have c0 : wr.cell? ⟨gw, i, none⟩ = some (.int .i64 q) := by rw [HO.out.cellAt i (by omega), List.getElem?_map, hq]; rfl
        have hcw2 := (owns_blk2 HO.out).2.1
        have hgl := (HS.out.lt gs rfl).2
        have hgwl := (HO.out.lt gw rfl).2
        obtain ⟨arr, hAr⟩ := own_blk HS.out
        have hfz := hAr.frozen
        have hqm : q < (putW l R (WL.take i)).length := by rw [HLn.out]; omega
        obtain ⟨y, hy⟩ : ∃ y, (putW l R (WL.take i))[q]? = some y := ⟨_, List.getElem?_eq_getElem hqm⟩
        obtain ⟨y0, y1, y2, y3, y4, y5, y6, y7, y8, y9⟩ := own_pe HS.out hy
        have n1 : b ≠ gs := by omega
        have n2 : gw ≠ gs := by omega
        have n3 : gs ≠ b := by omega
        have n4 : gs ≠ gw := by omega
        have q2 : (i : Int) < (WL.length : Int) := by omega
        have p1 : (0 : Int) ≤ (q : Int) := by omega
        have p2 : (q : Int) < (l.length : Int) := by omega
        have p3 : (q : Int) < (R.length : Int) := by omega
        have p4 : decide ((l.length : Int) ≤ (q : Int)) = false := decide_eq_false (by omega)
        have p5 : decide ((R.length : Int) ≤ (q : Int)) = false := decide_eq_false (by omega)
        have p6 : decide (l.length ≤ q) = false := decide_eq_false (by omega)
        have p7 : decide (R.length ≤ q) = false := decide_eq_false (by omega)
        have p8 : decide ((q : Int) < 0) = false := decide_eq_false (by omega)
        have hS := putW_snoc (l := l) (P := WL.take i) hx
        rw [← show WL.take (i + 1) = WL.take i ++ [q] by rw [List.take_add_one, hq, Option.toList_some]] at hS
        have HSn := Lib.hid hS; have HQm := Lib.hid hqm; have HX := Lib.hid (And.intro hgb (And.intro hgl hgs))
        clear hq hx h6 hS hqm hy hAr hgwB hgs
        go_upto_region 13 with fail
        go_region_held3 (fun w' => w'.cell? ⟨gw, i, none⟩ = some (.int .i64 q) ∧ w'.cell? ⟨b, o + q * 10, none⟩ = some (.bool x.en.ad.v6) ∧ w'.cell? ⟨b, o + q * 10 + 1, none⟩ = some (.int .u64 x.en.ad.hi) ∧ w'.cell? ⟨b, o + q * 10 + 2, none⟩ = some (.int .u64 x.en.ad.lo) ∧ w'.cell? ⟨b, o + q * 10 + 3, none⟩ = some (.int .i64 x.en.port) ∧ w'.cell? ⟨b, o + q * 10 + 4, none⟩ = some (.bool x.came) ∧ w'.cell? ⟨b, o + q * 10 + 5, none⟩ = some (.int .i64 x.since) ∧ w'.cell? ⟨b, o + q * 10 + 6, none⟩ = some (.int .i64 x.pts) ∧ w'.cell? ⟨b, o + q * 10 + 7, none⟩ = some (.int .i64 x.at_) ∧ w'.cell? ⟨b, o + q * 10 + 8, none⟩ = some (.int .i64 x.ping) ∧ w'.cell? ⟨b, o + q * 10 + 9, none⟩ = some (.int .i64 x.work)) (first | go_keep | (simp (disch := omega) [*]; done)) (first | fail)
        go_upto_region 10 with fail
        go_name_world W9 hW9
        obtain ⟨hO9', hG9'⟩ := own_setP HS.out q x HQm.out
        have hO9 := hO9'.drew
        have hG9 := grown_drew hG9'
        clear hO9' hG9'
        rw [hW9] at hO9 hG9
        have hB9 := below_far HB.out hG9 (Nat.le_trans HX.out.2.2 HX.out.1) HX.out.2.1
        have hW9' := owns_apart HO.out hG9 (fun _ e1 e2 => n2 (Option.some.inj (e1.trans e2.symm)))
        have HS9 := Lib.hid hO9; have HB9 := Lib.hid hB9; have HO9 := Lib.hid hW9'
        clear hO9 hG9 hB9 hW9' hW9 x0 x1 x2 x3 x4 x5 x6 x7 x8 x9 y0 y1 y2 y3 y4 y5 y6 y7 y8 y9 hfz c0
        go_wp2_with fail
        go_roundw
        case rel => exact ⟨i + 1, by omega, by go_num, by rw [HSn.out]; exact HS9.out, HO9.out, HB9.out⟩
        case measure => simp [intOf]; omega
      · obtain rfl : i = WL.length := by omega
        have hTk : WL.take WL.length = WL := List.take_length
        rw [hTk] at HS
        have hrd := owns_readsL (l := putW l R WL) (by rw [HLn.out]; exact HS.out)
        have hln := HLn.out WL
        have hrt := reads_takeP (k := R.length) (show ReadsL peV 10 wr (.slice (some ⟨gs, 0, none⟩) (putW l R WL).length cap) (putW l R WL) by rw [hln]; exact hrd) (by omega)
        rw [HAll.out] at hrt
        have HRt := Lib.hid hrt
        have q2 : (R.length : Int) ≤ (cap : Int) := by omega
        have q3 : (R.length : Int) ≤ (l.length : Int) := by omega
        clear hTk hrd hln hrt
        go_wp2_with (first
          | (go_at_call 44; (with_reducible refine (peers_same _ _ _ _ HRt.out (ReadsL.below HR3.out HB.out)).mono ?_); rintro e w8 ⟨rfl, b8⟩)
          | (go_at_call 41; (with_reducible refine (HA.out _).mono ?_); rintro e w9 ⟨rfl, b9⟩))
        go_ret
        exact ⟨rfl, below2 HB3.out (below2 HB.out (below2 b8 b9))⟩
end Go.Proofs.Ytppmjbnhghaffaa
