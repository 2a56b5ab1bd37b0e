/- The theorem of heaps holds: for every argument the law returns true. No condition. -/
import Derived.Test.YtppmjbnhghaffaaLawHeap
namespace Go.Proofs.Ytppmjbnhghaffaa
open Go.RowKit

structure PlayOk (hs qs : List It) : Prop where
  heap : Hp.IsHeap itLt hs
  sorted : Hp.Sorted itLt qs
  perm : hs.Perm qs
theorem PlayOk.start (l : List It) : PlayOk (Hp.make itLt l) (Hp.sort itLt l) := ⟨(Hp.make_heap tot_it l).1, Hp.sort_sorted tot_it l, (Hp.make_heap tot_it l).2.trans (Hp.sort_perm l).symm⟩
theorem PlayOk.push {hs qs : List It} (P : PlayOk hs qs) (x : It) : PlayOk (Hp.push itLt hs x) (Hp.put itLt qs x) := by
  obtain ⟨a, b⟩ := Hp.push_heap tot_it hs x P.heap
  exact ⟨a, Hp.put_sorted tot_it qs x P.sorted, b.trans ((P.perm.append_right [x]).trans (Hp.put_perm qs x).symm)⟩
theorem PlayOk.first {r y : It} {t u : List It} (P : PlayOk (r :: t) (y :: u)) : r = y := Hp.heap_first tot_it P.heap (r := r) rfl rfl P.sorted P.perm
theorem PlayOk.pop {r y : It} {t u : List It} (P : PlayOk (r :: t) (y :: u)) : PlayOk (Hp.rest itLt (r :: t)) u := by
  obtain ⟨a, b⟩ := Hp.rest_heap tot_it r t P.heap
  have e := P.first
  subst e
  exact ⟨a, (List.pairwise_cons.1 P.sorted).2, b.trans (List.Perm.cons_inv P.perm)⟩
theorem PlayOk.sort {hs qs : List It} (P : PlayOk hs qs) : Hp.sort itLt hs = qs := Hp.sorted_unique tot_it _ _ (Hp.sort_sorted tot_it hs) P.sorted ((Hp.sort_perm hs).trans P.perm)
theorem PlayOk.right {hs qs : List It} (P : PlayOk hs qs) : Hp.rightB itLt hs = true := (Hp.rightB_iff hs).2 P.heap
theorem PlayOk.len {hs qs : List It} (P : PlayOk hs qs) : qs.length = hs.length := P.perm.length_eq.symm
def bvV (b : Bool) : List Value := [.bool b]
theorem bvV_len (b : Bool) : (bvV b).length = 1 := rfl
set_option maxRecDepth 100000 in
set_option maxHeartbeats 2000000 in
theorem heapPlays_any (v0 v1 v2 : Value) (bg l : List It) (pp : List Bool) (w : World) (h0 : ReadsL itV 5 w v0 bg) (h1 : ReadsL itV 5 w v1 l) (h2 : ReadsL bvV 1 w v2 pp) : Calls Try.prog 6 #[v0, v1, v2] w fun e w' => e = .returned (.bool true) ∧ Below w.heap.size w w' := by
  have HV0 := Lib.hid h0
  obtain ⟨m0, a0, c0, rfl, _⟩ := it_open h0
  obtain ⟨m1, a1, c1, rfl, k1⟩ := it_open h1
  obtain ⟨m2, a2, c2, rfl, k2⟩ := h2.open bvV_len (by omega)
  clear h0 h1 h2
  by_cases hl : 40 < (bg.length : Int)
  · go_enter Try.func6, Try.ntmps6
    go_wp2_with (go_at_call 26; refine (awake24_any _).mono ?_; rintro e w1 ⟨rfl, hb⟩)
    go_ret
    exact ⟨rfl, hb⟩
  by_cases hl2 : 40 < (l.length : Int)
  · go_enter Try.func6, Try.ntmps6
    go_wp2_with (go_at_call 26; refine (awake24_any _).mono ?_; rintro e w1 ⟨rfl, hb⟩)
    go_ret
    exact ⟨rfl, hb⟩
  have hl3 : bg.length ≤ 40 := by omega
  have hl4 : l.length ≤ 40 := by omega
  go_enter Try.func6, Try.ntmps6
  go_wp2_with (first | (go_at_call 28; refine (to24_any _ bg _ HV0.out (by omega)).mono ?_; rintro e w1 ⟨v3, rfl, hown1, hb1⟩) | (go_at_call 36; refine (make_any _ bg _ (owns_readsL hown1) (by omega)).mono ?_; rintro e w2 ⟨v4, rfl, hown2, hb2⟩; have hB := below2 hb1 hb2) | (go_at_call 30; refine (of24_any _ bg _ (HV0.out.below hB) (by omega)).mono ?_; rintro e w3 ⟨v5, rfl, hown3, hb3⟩) | (go_at_call 35; refine (refSorted_some _ bg _ (owns_readsL hown3) (by omega)).mono ?_; rintro e w4 ⟨g4, d4, rfl, hd4, hown4, hb4⟩))
  have hBW := below2 (below2 hB hb3) hb4
  have hr2 := ((owns_readsL hown2).below hb3).below hb4
  have hr4 := owns_readsL hown4
  obtain ⟨_, a7, c7, e7, _⟩ := it_open hr2
  subst e7
  have hml : (Hp.make itLt bg).length = bg.length := (Hp.make_heap tot_it bg).2.length_eq
  have HR2 := Lib.hid hr2; have HR4 := Lib.hid hr4; have HML := Lib.hid hml
  clear hown1 hown2 hown3 hown4 hr2 hr4 hml hb1 hb2 hb3 hb4 hB
  go_loopw [7, 8, 9] (fun s7 s8 s9 wr => ∃ i : Nat, s9 = .int .i64 i ∧ i ≤ l.length ∧ ∃ (hs qs : List It) (a7 : Option Addr) (c7 b8 o8 c8 : Nat), s7 = .slice a7 hs.length c7 ∧ s8 = .slice (some ⟨b8, o8, none⟩) qs.length c8 ∧ qs.length ≤ c8 ∧ hs.length ≤ 40 + i ∧ Hid (ReadsL itV 5 wr (.slice a7 hs.length c7) hs) ∧ Hid (ReadsL itV 5 wr (.slice (some ⟨b8, o8, none⟩) qs.length c8) qs) ∧ PlayOk hs qs ∧ Below w.heap.size w wr) (fun _ _ s9 _ => l.length - (intOf s9).toNat)
  case atStart => exact ⟨0, rfl, by omega, Hp.make itLt bg, Hp.sort itLt bg, a7, c7, g4, 0, d4, rfl, rfl, hd4, by rw [HML.out]; omega, HR2.out, HR4.out, PlayOk.start bg, hBW⟩
  case round =>
    obtain ⟨i, rfl, hi, hs, qs, a7, c7, b8, o8, c8, rfl, rfl, hc8, hle, HH, HQ, HP, hbr⟩ := hrel
    by_cases hlt : i < l.length
    · obtain ⟨b, o, rfl, h4, h5, h6⟩ := k1 (by omega)
      obtain ⟨x, hx⟩ : ∃ x, l[i]? = some x := ⟨_, List.getElem?_eq_getElem hlt⟩
      obtain ⟨y0, y1, y2, y3, y4⟩ := h6 i x hx
      obtain ⟨x0, x1, x2, x3, x4⟩ := itAt_below (h6 i x hx) hbr h5
      have hz := hbr.size
      have hbz : b < wr.heap.size := Nat.lt_of_lt_of_le h5 hz
      have q1 : (0 : Int) ≤ (i : Int) := by omega
      have q2 : (i : Int) < (l.length : Int) := by omega
      have hql : qs.length ≤ 1000 := by have := HP.len; omega
      have hBB := (Below.refl wr.heap.size wr).drew
      clear hx h6 k1
      go_wp2_with fail
      go_region_held3 (fun w' => w'.cell? ⟨b, o + i * 5, none⟩ = some (.int .i64 x.key) ∧ w'.cell? ⟨b, o + i * 5 + 1, none⟩ = some (.bool x.en.ad.v6) ∧ w'.cell? ⟨b, o + i * 5 + 2, none⟩ = some (.int .u64 x.en.ad.hi) ∧ w'.cell? ⟨b, o + i * 5 + 3, none⟩ = some (.int .u64 x.en.ad.lo) ∧ w'.cell? ⟨b, o + i * 5 + 4, none⟩ = some (.int .i64 x.en.port)) (first | go_keep | (simp (disch := omega) [*])) ((go_at_call 37; refine (push_any _ hs x _ (HH.out.below hBB) (by omega)).mono ?_; rintro e w1 ⟨v7, rfl, hown7, hb⟩; have hBB := below_on hBB hb; obtain ⟨cf, _⟩ := bcellB hBB; obtain ⟨aq, cq, rfl⟩ := owns_slice hown7))
      have HP2 := HP.push x
      have hle2 : (Hp.push itLt hs x).length ≤ 40 + (i + 1) := by rw [push_len]; omega
      have hpos : 0 < (Hp.push itLt hs x).length := by rw [push_len]; omega
      have HR7 := Lib.hid (owns_readsL hown7)
      clear hown7 x0 x1 x2 x3 x4
      have hb7 := below2 hbr hBB
      have HQ7 := Lib.hid (HQ.out.below hBB)
      obtain ⟨x0, x1, x2, x3, x4⟩ : itAt w1 b (o + i * 5) x := itAt_below ⟨y0, y1, y2, y3, y4⟩ hb7 h5
      clear hBB cf hb
      have hBB := (Below.refl w1.heap.size w1).drew
      have hbz : b < w1.heap.size := Nat.lt_of_lt_of_le h5 hb7.size
      go_wp2_with fail
      go_region_held3 (fun w' => w'.cell? ⟨b, o + i * 5, none⟩ = some (.int .i64 x.key) ∧ w'.cell? ⟨b, o + i * 5 + 1, none⟩ = some (.bool x.en.ad.v6) ∧ w'.cell? ⟨b, o + i * 5 + 2, none⟩ = some (.int .u64 x.en.ad.hi) ∧ w'.cell? ⟨b, o + i * 5 + 3, none⟩ = some (.int .u64 x.en.ad.lo) ∧ w'.cell? ⟨b, o + i * 5 + 4, none⟩ = some (.int .i64 x.en.port)) (first | go_keep | (simp (disch := omega) [*])) ((go_at_call 38; refine (refPut_any b8 o8 c8 qs x _ (HQ7.out.below hBB) hc8 (by omega)).mono ?_; rintro e w2 ⟨v8, rfl, hown8, hb⟩; have hBB := below_on hBB hb; obtain ⟨cf, _⟩ := bcellB hBB; obtain ⟨g8, d8, rfl, hg1, hg2, hg3⟩ := owns_some hown8 (by rw [(Hp.put_perm qs x).length_eq]; simp)))
      have hb8 := below2 hb7 hBB
      have HR8 := Lib.hid (HR7.out.below hBB)
      have HQ8 := Lib.hid (owns_readsL hown8)
      clear hown8 hBB cf hb x0 x1 x2 x3 x4 y0 y1 y2 y3 y4 hBW HH HQ HR7 HQ7 hbr hb7 hz hle hc8 hbz hg1 hg2 HR2 HR4 HML HP
      generalize Hp.push itLt hs x = hs2 at *
      generalize Hp.put itLt qs x = qs2 at *
      have hnq : ((hs2.length : Int) != (qs2.length : Int)) = false := by rw [HP2.len]; simp
      have hRt := Lib.hid (right_any (.slice aq hs2.length cq) hs2 w2 HR8.out)
      rw [HP2.right] at hRt
      have back : ∀ wz, Below w.heap.size w wz → ReadsL itV 5 wz (.slice aq hs2.length cq) hs2 → ReadsL itV 5 wz (.slice (some ⟨g8, 0, none⟩) qs2.length d8) qs2 → True := fun _ _ _ _ => trivial
      by_cases hp : i < pp.length
      · obtain ⟨pb, po, rfl, kp1, kp2, kp3⟩ := k2 (by omega)
        obtain ⟨z, hz⟩ : ∃ z, pp[i]? = some z := ⟨_, List.getElem?_eq_getElem hp⟩
        have hpc := kp3 i z hz 0 (.bool z) rfl
        rw [Nat.mul_one, Nat.add_zero] at hpc
        have q3 : (i : Int) < (pp.length : Int) := by omega
        clear hz kp3 k2
        cases z with
        | false =>
          go_wp2_with (go_at_call 27; refine hRt.out.mono ?_; rintro e w3 ⟨rfl, hb3⟩; have hpc3 := keep (below2 hb8 hb3) kp2 hpc)
          go_roundw
          case rel => exact ⟨i + 1, by go_num, by omega, hs2, qs2, aq, cq, g8, 0, d8, rfl, rfl, hg3, hle2, HR8.out.below hb3, HQ8.out.below hb3, HP2, below2 hb8 hb3⟩
          case measure => simp [intOf]; omega
        | true =>
          cases hs2 with
          | nil => simp at hpos
          | cons r t =>
            cases qs2 with
            | nil => have := HP2.len; simp at this
            | cons y u =>
              have e := HP2.first
              subst e
              have hul : u.length = t.length := by have := HP2.len; simpa using this
              have hnq2 : ((t.length : Int) + 1 != (u.length : Int) + 1) = false := by rw [hul]; simp
              have HUL := Lib.hid hul
              have HPs := Lib.hid (fun W (b : Below w2.heap.size w2 W) => pop_some (.slice aq (r :: t).length cq) r t W (HR8.out.below b) (by simp at hle2; omega))
              simp only [List.length_cons] at hRt HPs hg3
              clear hul hnq
              go_wp2_with (first | (go_at_call 27; refine hRt.out.mono ?_; rintro e w3 ⟨rfl, hb3⟩; have hpc3 := keep (below2 hb8 hb3) kp2 hpc) | (go_at_call 39; refine (HPs.out _ hb3).mono ?_; rintro e w5 ⟨v5, rfl, hown5, hb5⟩; rw [rest_len] at hown5; obtain ⟨a5, c5, rfl⟩ := owns_slice hown5))
              have hRL := Lib.hid (rest_len r t)
              have hR5 : ReadsL itV 5 w5 (.slice a5 (Hp.rest itLt (r :: t)).length c5) (Hp.rest itLt (r :: t)) := owns_readsL (by rw [hRL.out]; exact hown5)
              rw [hRL.out] at hR5
              have hb9 : Below w.heap.size w w5 := below2 (below2 hb8 hb3) hb5
              have hB9 := ((Below.refl w5.heap.size w5).alloc (Nat.le_refl _) (.cells #[.int .i64 r.key, .bool r.en.ad.v6, .int .u64 r.en.ad.hi, .int .u64 r.en.ad.lo, .int .i64 r.en.port] 38))
              have hb10 := below2 hb9 hB9
              have HR9 := Lib.hid (hR5.below hB9)
              have HQ9 := Lib.hid (((HQ8.out.below hb3).below hb5).below hB9)
              have hI : itAt (w5.alloc (.cells #[.int .i64 r.key, .bool r.en.ad.v6, .int .u64 r.en.ad.hi, .int .u64 r.en.ad.lo, .int .i64 r.en.port] 38)) w5.heap.size 0 r := ⟨by simp [go_sem], by simp [go_sem], by simp [go_sem], by simp [go_sem], by simp [go_sem]⟩
              have hz5 : w5.heap.size < (w5.alloc (.cells #[.int .i64 r.key, .bool r.en.ad.v6, .int .u64 r.en.ad.hi, .int .u64 r.en.ad.lo, .int .i64 r.en.port] 38)).heap.size := by simp
              clear hown5 hR5 hB9 hb9 hpc hpc3
              generalize w5.alloc (.cells #[.int .i64 r.key, .bool r.en.ad.v6, .int .u64 r.en.ad.hi, .int .u64 r.en.ad.lo, .int .i64 r.en.port] 38) = w6 at *
              have X := fun q => itAt_ext hI q hz5
              have x0 := fun q => (X q).1; have x1 := fun q => (X q).2.1; have x2 := fun q => (X q).2.2.1; have x3 := fun q => (X q).2.2.2.1; have x4 := fun q => (X q).2.2.2.2
              simp only [Nat.zero_add] at x1 x2 x3 x4
              obtain ⟨_, ay, cy, ey, ky⟩ := it_open HQ9.out
              obtain ⟨by', oy, ey2, _, hy5, hy6⟩ := ky (by simp)
              injection ey with ey _ _
              rw [ey2] at ey; injection ey with ey; injection ey with ey1 ey3
              subst ey1; subst ey3
              have Y := fun q => itAt_ext (hy6 0 r rfl) q hy5
              have y0 := fun q => (Y q).1; have y1 := fun q => (Y q).2.1; have y2 := fun q => (Y q).2.2.1; have y3 := fun q => (Y q).2.2.2.1; have y4 := fun q => (Y q).2.2.2.2
              simp only [Nat.zero_mul, Nat.zero_add] at y0 y1 y2 y3 y4
              have hne := fun W => neqEn r.en r.en W
              have hRt2 := Lib.hid (fun q => right_any (.slice a5 t.length c5) (Hp.rest itLt (r :: t)) (ext w6 q) (HR9.out.below (ext_below w6 q)))
              rw [HP2.pop.right] at hRt2
              clear X Y hI hy6 ky
              have q5 : (0 : Int) < (u.length : Int) + 1 := by omega
              have htl : t.length ≤ 1000 := by simp at hle2; omega
              have htl2 : (t.length : Int) ≤ 1000 := by omega
              go_wp2_with fail
              refine wp_region_ext (by kernel_rfl) (by kernel_rfl) ?_
              repeat (go_big_quiet_step ((go_at_call 27; exact qe (hRt2.out _))))
              refine wpQuiet_nil ?_
              intro _ hw'
              obtain ⟨q, hw''⟩ := hw'
              subst hw''
              have hb11 := below2 hb10 (ext_below w6 q)
              have HR10 := Lib.hid (HR9.out.below (ext_below w6 q))
              have HQ10 := Lib.hid (HQ9.out.below (ext_below w6 q))
              clear x0 x1 x2 x3 x4 y0 y1 y2 y3 y4 hRt2 HR9 HQ9 hne
              generalize ext w6 q = w7 at *
              by_cases hcy : cy = 1
              · subst hcy
                have hu0 : u.length = 0 := by omega
                have hun := List.eq_nil_of_length_eq_zero hu0
                subst hun
                go_wp2_with fail
                refine ⟨⟨i + 1, by go_num, by omega, Hp.rest itLt (r :: t), [], a5, c5, g8, 0, 0, by rw [hRL.out], rfl, by simp, by rw [hRL.out]; simp at hle2; omega, by rw [hRL.out]; exact HR10.out, ReadsL.nil _ _ _ _ _, HP2.pop, hb11⟩, by simp [intOf]; omega⟩
              · have q6 : (1 : Int) ≤ (cy : Int) := by omega
                have q7 : (1 : Int) ≤ (u.length : Int) + 1 := by omega
                have q8 : (u.length : Int) + 1 ≤ (cy : Int) := by omega
                go_wp2_with fail
                refine ⟨⟨i + 1, by go_num, by omega, Hp.rest itLt (r :: t), u, a5, c5, g8, 5, cy - 1, by rw [hRL.out], rfl, by omega, by rw [hRL.out]; simp at hle2; omega, by rw [hRL.out]; exact HR10.out, by have := Reads.drop HQ10.out 1 (by simp) (cy - 1) (by simp; omega); exact this, HP2.pop, hb11⟩, by simp [intOf]; omega⟩
      · have q3 : ¬ (i : Int) < (pp.length : Int) := by omega
        go_wp2_with (go_at_call 27; refine hRt.out.mono ?_; rintro e w3 ⟨rfl, hb3⟩)
        go_roundw
        case rel => exact ⟨i + 1, by go_num, by omega, hs2, qs2, aq, cq, g8, 0, d8, rfl, rfl, hg3, hle2, HR8.out.below hb3, HQ8.out.below hb3, HP2, below2 hb8 hb3⟩
        case measure => simp [intOf]; omega
    · have hul : qs.length ≤ 1000 := by have := HP.len; omega
      have hst := Lib.hid (fun W (b : Below wr.heap.size wr W) => sorted_any (.slice a7 hs.length c7) hs W (HH.out.below b) (by omega))
      rw [HP.sort] at hst
      go_wp2_with (first | (go_at_call 34; refine (hst.out _ (Below.refl _ _)).mono ?_; rintro e w1 ⟨v7, rfl, hown7, hb7⟩) | (go_at_call 33; refine (same24_self _ _ qs _ (owns_readsL hown7) (HQ.out.below hb7)).mono ?_; rintro e w2 ⟨rfl, hb8⟩))
      have hb9 := below2 hb7 hb8
      have HH2 := Lib.hid (HH.out.below hb9)
      have HQ2 := Lib.hid (HQ.out.below hb9)
      have hbr2 := below2 hbr hb9
      clear hown7 HH HQ hb7 hb8 hb9 hst
      go_loopw [7, 8] (fun s7 s8 wr => ∃ (hs qs : List It) (a7 : Option Addr) (c7 b8 o8 c8 : Nat), s7 = .slice a7 hs.length c7 ∧ s8 = .slice (some ⟨b8, o8, none⟩) qs.length c8 ∧ qs.length ≤ c8 ∧ hs.length ≤ 1000 ∧ Hid (ReadsL itV 5 wr (.slice a7 hs.length c7) hs) ∧ Hid (ReadsL itV 5 wr (.slice (some ⟨b8, o8, none⟩) qs.length c8) qs) ∧ PlayOk hs qs ∧ Below w.heap.size w wr) (fun _ s8 _ => lenOf s8)
      case atStart => exact ⟨hs, qs, a7, c7, b8, o8, c8, rfl, rfl, hc8, by omega, HH2.out, HQ2.out, HP, hbr2⟩
      case round =>
        clear HP HH2 HQ2 hle hul hc8 hbr hbr2
        obtain ⟨hs, qs, aq, cq, g8, o8, cy, rfl, rfl, hg3, hle2, HR8, HQ8, HP2, hb8⟩ := hrel
        cases qs with
        | nil =>
          have hn : hs = [] := List.eq_nil_of_length_eq_zero (by have := HP2.len; simpa using this.symm)
          subst hn
          have hpn := Lib.hid (fun W (b : Below wr.heap.size wr W) => pop_none (.slice aq 0 cq) W (HR8.out.below b))
          go_wp2_with (first | (go_at_call 39; refine (hpn.out _ (Below.refl _ _)).mono ?_; rintro e w5 ⟨rfl, hb5⟩) | (go_at_call 26; refine (awake24_any _).mono ?_; rintro e w6 ⟨rfl, hb6⟩))
          go_ret
          have hb9 := below2 hb8 hb5
          exact ⟨rfl, below2 (hb9.alloc hb9.size _) hb6⟩
        | cons y u =>
          cases hs with
          | nil => have := HP2.len; simp at this
          | cons r t =>
            have e := HP2.first
            subst e
            have HPs := Lib.hid (pop_some (.slice aq (r :: t).length cq) r t wr HR8.out (by simp at hle2; omega))
            simp only [List.length_cons] at HPs hg3
            have q5 : (0 : Int) < (u.length : Int) + 1 := by omega
            have htl : t.length ≤ 1000 := by simp at hle2; omega
            go_wp2_with ((go_at_call 39; refine HPs.out.mono ?_; rintro e w5 ⟨v5, rfl, hown5, hb5⟩; rw [rest_len] at hown5; obtain ⟨a5, c5, rfl⟩ := owns_slice hown5))
            have hRL := Lib.hid (rest_len r t)
            have hR5 : ReadsL itV 5 w5 (.slice a5 (Hp.rest itLt (r :: t)).length c5) (Hp.rest itLt (r :: t)) := owns_readsL (by rw [hRL.out]; exact hown5)
            rw [hRL.out] at hR5
            have hb9 : Below w.heap.size w w5 := below2 hb8 hb5
            have hB9 := ((Below.refl w5.heap.size w5).alloc (Nat.le_refl _) (.cells #[.int .i64 r.key, .bool r.en.ad.v6, .int .u64 r.en.ad.hi, .int .u64 r.en.ad.lo, .int .i64 r.en.port] 38))
            have hb10 := below2 hb9 hB9
            have HR9 := Lib.hid (hR5.below hB9)
            have HQ9 := Lib.hid ((HQ8.out.below hb5).below hB9)
            have hI : itAt (w5.alloc (.cells #[.int .i64 r.key, .bool r.en.ad.v6, .int .u64 r.en.ad.hi, .int .u64 r.en.ad.lo, .int .i64 r.en.port] 38)) w5.heap.size 0 r := ⟨by simp [go_sem], by simp [go_sem], by simp [go_sem], by simp [go_sem], by simp [go_sem]⟩
            have hz5 : w5.heap.size < (w5.alloc (.cells #[.int .i64 r.key, .bool r.en.ad.v6, .int .u64 r.en.ad.hi, .int .u64 r.en.ad.lo, .int .i64 r.en.port] 38)).heap.size := by simp
            clear hown5 hR5 hB9 hb9
            generalize w5.alloc (.cells #[.int .i64 r.key, .bool r.en.ad.v6, .int .u64 r.en.ad.hi, .int .u64 r.en.ad.lo, .int .i64 r.en.port] 38) = w6 at *
            have X := fun q => itAt_ext hI q hz5
            have x0 := fun q => (X q).1; have x1 := fun q => (X q).2.1; have x2 := fun q => (X q).2.2.1; have x3 := fun q => (X q).2.2.2.1; have x4 := fun q => (X q).2.2.2.2
            simp only [Nat.zero_add] at x1 x2 x3 x4
            obtain ⟨_, ay, c9, ey, ky⟩ := it_open HQ9.out
            obtain ⟨by', oy, ey2, _, hy5, hy6⟩ := ky (by simp)
            injection ey with ey _ ey4
            rw [ey2] at ey; injection ey with ey; injection ey with ey1 ey3
            subst ey1; subst ey3; subst ey4
            have Y := fun q => itAt_ext (hy6 0 r rfl) q hy5
            have y0 := fun q => (Y q).1; have y1 := fun q => (Y q).2.1; have y2 := fun q => (Y q).2.2.1; have y3 := fun q => (Y q).2.2.2.1; have y4 := fun q => (Y q).2.2.2.2
            simp only [Nat.zero_mul, Nat.add_zero] at y0 y1 y2 y3 y4
            have hne := fun W => neqEn r.en r.en W
            have hRt2 := Lib.hid (fun q => right_any (.slice a5 t.length c5) (Hp.rest itLt (r :: t)) (ext w6 q) (HR9.out.below (ext_below w6 q)))
            rw [HP2.pop.right] at hRt2
            clear X Y hI hy6 ky
            go_wp2_with fail
            refine wp_region_ext (by kernel_rfl) (by kernel_rfl) ?_
            repeat (go_big_quiet_step ((go_at_call 27; exact qe (hRt2.out _))))
            refine wpQuiet_nil ?_
            intro _ hw'
            obtain ⟨q, hw''⟩ := hw'
            subst hw''
            have hb11 := below2 hb10 (ext_below w6 q)
            have HR10 := Lib.hid (HR9.out.below (ext_below w6 q))
            have HQ10 := Lib.hid (HQ9.out.below (ext_below w6 q))
            clear x0 x1 x2 x3 x4 y0 y1 y2 y3 y4 hRt2 HR9 HQ9 hne
            generalize ext w6 q = w7 at *
            by_cases hcy : cy = 1
            · subst hcy
              have hu0 : u.length = 0 := by omega
              have hun := List.eq_nil_of_length_eq_zero hu0
              subst hun
              go_wp2_with fail
              refine ⟨⟨Hp.rest itLt (r :: t), [], a5, c5, g8, o8, 0, by rw [hRL.out], rfl, by simp, by rw [hRL.out]; omega, by rw [hRL.out]; exact HR10.out, ReadsL.nil _ _ _ _ _, HP2.pop, hb11⟩, by simp [lenOf]⟩
            · have q6 : (1 : Int) ≤ (cy : Int) := by omega
              have q7 : (1 : Int) ≤ (u.length : Int) + 1 := by omega
              have q8 : (u.length : Int) + 1 ≤ (cy : Int) := by omega
              go_wp2_with fail
              refine ⟨⟨Hp.rest itLt (r :: t), u, a5, c5, g8, o8 + 5, cy - 1, by rw [hRL.out], rfl, by omega, by rw [hRL.out]; omega, by rw [hRL.out]; exact HR10.out, by have := Reads.drop HQ10.out 1 (by simp) (cy - 1) (by simp; omega); exact this, HP2.pop, hb11⟩, by simp [lenOf]⟩
end Go.Proofs.Ytppmjbnhghaffaa
