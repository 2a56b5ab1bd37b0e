/- Texts put together: TabO. No condition. -/
import Derived.Test.YtppmjbnhghaffaaRtipzmbwswn
import Derived.Test.YtppmjbnhghaffaaRewgbtcnltl
import Derived.Test.YtppmjbnhghaffaaRkogeovfsnq
import Derived.Deep.RegionHeld3
namespace Go.Proofs.Ytppmjbnhghaffaa
open Go.RowKit Go.Lib

set_option maxRecDepth 100000 in
set_option maxHeartbeats 4000000 in
theorem tadd_any (v : Value) (l : List Pe) (p : Pe) (hf : p.en.ad.fits) (w : World) (h : ReadsL peV 10 w v l) (hl : l.length ≤ 1000000) :
    Calls Try.prog 63 #[v, .agg #[.bool p.en.ad.v6, .int .u64 p.en.ad.hi, .int .u64 p.en.ad.lo, .int .i64 p.en.port, .bool p.came, .int .i64 p.since, .int .i64 p.pts, .int .i64 p.at_, .int .i64 p.ping, .int .i64 p.work]] w fun e w' => ∃ r, e = .returned (.tuple #[r, .int .i64 (addT l p).2]) ∧ ReadsL peV 10 w' r (addT l p).1 ∧ Below w.heap.size w w' := by
  have HRt := Lib.hid (fun W => peRight_any p hf W)
  have HFd := Lib.hid (fun (W : World) (hb : Below w.heap.size w W) => tfind_any _ l p.en W (ReadsL.below h hb))
  obtain ⟨hm, pa, ca, rfl, -⟩ := pes_open h
  have HV := Lib.hid h
  have B0 : Below w.heap.size w (w.alloc (.cells #[.bool p.en.ad.v6, .int .u64 p.en.ad.hi, .int .u64 p.en.ad.lo, .int .i64 p.en.port, .bool p.came, .int .i64 p.since, .int .i64 p.pts, .int .i64 p.at_, .int .i64 p.ping, .int .i64 p.work] 66)) := by (repeat (first | with_reducible assumption | with_reducible exact Below.refl _ _ | with_reducible refine Below.setCell ?_ (by first | omega | (simp; done) | (simp; omega)) _ | with_reducible refine Below.alloc ?_ (by first | omega | (simp; done) | (simp; omega)) _ | with_reducible refine Below.drew ?_ | (with_reducible refine Below.trans ?_ (Below.mono (by with_reducible assumption) (by first | omega | (simp; done) | (simp; omega)))) | (refine Below.trans ?_ (Below.mono (by assumption) (by first | omega | (simp; done) | (simp; omega))))))
  have hBk : BlockIs (w.alloc (.cells #[.bool p.en.ad.v6, .int .u64 p.en.ad.hi, .int .u64 p.en.ad.lo, .int .i64 p.en.port, .bool p.came, .int .i64 p.since, .int .i64 p.pts, .int .i64 p.at_, .int .i64 p.ping, .int .i64 p.work] 66)) w.heap.size (peV p) 66 := BlockIs.new w (peV p) _
  have HB0 := Lib.hid B0; have HBk := Lib.hid hBk
  clear B0 h hBk
  obtain ⟨rt, hrt⟩ : ∃ rt, rt = peRight p := ⟨_, rfl⟩
  rw [← hrt] at HRt
  obtain ⟨z, hz⟩ : ∃ z, z = fdI l p.en := ⟨_, rfl⟩
  rw [← hz] at HFd
  cases rt with
  | false =>
    have hd : addT l p = ([], 1) := by unfold addT; rw [if_pos hrt.symm]
    rw [hd]
    clear hd hrt hz
    go_enter Try.func63, Try.ntmps63
    go_wp2_with (go_at_call 108; (with_reducible refine (HRt.out _).mono ?_); rintro e w1 ⟨rfl, b1⟩)
    go_ret2
    exact ⟨_, rfl, owns_readsL (l := []) (World.ownsRow_nil w1 w.heap.size 66 10), below2 HB0.out b1⟩
  | true =>
    by_cases hz0 : 0 ≤ z
    · have hd : addT l p = ([], 7) := by unfold addT; rw [← hrt, ← hz, if_neg (by simp), if_pos hz0]
      rw [hd]
      have hzd : decide (0 ≤ z) = true := decide_eq_true hz0
      clear hd hrt hz
      go_enter Try.func63, Try.ntmps63
      go_wp2_with (first
        | (go_at_call 108; (with_reducible refine (HRt.out _).mono ?_); rintro e w1 ⟨rfl, b1⟩; have k := peIn_box (HBk.out.below b1); obtain ⟨x0, x1, x2, x3, x4, x5, x6, x7, x8, x9⟩ := k; simp only [Nat.zero_add] at x0 x1 x2 x3 x4 x5 x6 x7 x8 x9; have b2 := below2 HB0.out b1)
        | (go_at_call 71; (with_reducible refine (HFd.out _ b2).mono ?_); rintro e w3 ⟨rfl, b3⟩; have b4 := below2 b2 b3))
      go_ret2
      exact ⟨_, rfl, owns_readsL (l := []) (World.ownsRow_nil w3 w.heap.size 66 10), b4⟩
    · have hd : addT l p = (putT l p, 0) := by unfold addT; rw [← hrt, ← hz, if_neg (by simp), if_neg hz0]
      rw [hd]
      have hzd : decide (0 ≤ z) = false := decide_eq_false hz0
      clear hd hrt hz
      have HIx : Hid (∀ (W : World) (hb : Below w.heap.size w W), BlockIs W w.heap.size (peV p) 66 → Calls Try.prog 109 #[.slice pa l.length ca, .func (.func 110) #[] #[.pointer (some ⟨w.heap.size, 0, none⟩)]] W fun e w' => e = .returned (.int .i64 (fnI l fun x => decide (0 < enCmp x.en p.en))) ∧ Below W.heap.size W w') := fun W hb hB =>
        peIndexFunc 110 #[.pointer (some ⟨w.heap.size, 0, none⟩)] (fun x => decide (0 < enCmp x.en p.en)) _ l W (ReadsL.below HV.out hb) (fun W' x _ hb' => by
          refine (tadd_clo x p w.heap.size W' (peIn_box (hB.below hb')) (Nat.lt_of_lt_of_le hB.lt hb'.size)).mono ?_
          rintro e w' ⟨rfl, hc⟩
          exact ⟨rfl, below2 hb' hc⟩) (enters_of Try.func110 (by kernel_rfl) rfl)
      have hix : putI l p ≤ l.length := by
        unfold putI
        cases hq : l.findIdx? (fun x => decide (0 < enCmp x.en p.en)) with
        | none => exact Nat.le_refl _
        | some q => rw [List.findIdx?_eq_some_iff_getElem] at hq; exact Nat.le_of_lt hq.1
      have HClA : Hid (∀ (W : World), Below w.heap.size w W → Calls Try.prog 100 #[.slice pa l.length ca] W.drew fun e w' => ∃ r, e = .returned r ∧ w'.ownsRow W.heap.size 66 10 r l.length (l.flatMap peV) ∧ Below W.heap.size W w') := fun W hb => by
        refine (clonePe _ l W.drew (ReadsL.below HV.out hb.drew) hl).mono ?_
        rintro e w' ⟨r, rfl, o, b, _⟩
        exact ⟨r, rfl, o, below2 ((Below.refl _ _).drew) b⟩
      have HClB : Hid (∀ (W : World), Below w.heap.size w W → Calls Try.prog 100 #[.slice pa l.length ca] ((W.alloc (.cells #[.bool p.en.ad.v6, .int .u64 p.en.ad.hi, .int .u64 p.en.ad.lo, .int .i64 p.en.port, .bool p.came, .int .i64 p.since, .int .i64 p.pts, .int .i64 p.at_, .int .i64 p.ping, .int .i64 p.work] 66)).drew) fun e w' => ∃ r, e = .returned r ∧ w'.ownsRow (W.heap.size + 1) 66 10 r l.length (l.flatMap peV) ∧ Below W.heap.size W w' ∧ BlockIs w' W.heap.size (peV p) 66) := fun W hb => by
        have hba : Below W.heap.size W ((W.alloc (.cells #[.bool p.en.ad.v6, .int .u64 p.en.ad.hi, .int .u64 p.en.ad.lo, .int .i64 p.en.port, .bool p.came, .int .i64 p.since, .int .i64 p.pts, .int .i64 p.at_, .int .i64 p.ping, .int .i64 p.work] 66)).drew) := ((Below.refl _ _).alloc (Nat.le_refl _) _).drew
        have hbl : BlockIs ((W.alloc (.cells #[.bool p.en.ad.v6, .int .u64 p.en.ad.hi, .int .u64 p.en.ad.lo, .int .i64 p.en.port, .bool p.came, .int .i64 p.since, .int .i64 p.pts, .int .i64 p.at_, .int .i64 p.ping, .int .i64 p.work] 66)).drew) W.heap.size (peV p) 66 := BlockIs.new W (peV p) _
        refine (clonePe _ l ((W.alloc (.cells #[.bool p.en.ad.v6, .int .u64 p.en.ad.hi, .int .u64 p.en.ad.lo, .int .i64 p.en.port, .bool p.came, .int .i64 p.since, .int .i64 p.pts, .int .i64 p.at_, .int .i64 p.ping, .int .i64 p.work] 66)).drew) (ReadsL.below HV.out (below2 hb hba)) hl).mono ?_
        rintro e w' ⟨r, rfl, o, b, _⟩
        have hs : ((W.alloc (.cells #[.bool p.en.ad.v6, .int .u64 p.en.ad.hi, .int .u64 p.en.ad.lo, .int .i64 p.en.port, .bool p.came, .int .i64 p.since, .int .i64 p.pts, .int .i64 p.at_, .int .i64 p.ping, .int .i64 p.work] 66)).drew).heap.size = W.heap.size + 1 := by simp
        rw [hs] at o
        exact ⟨r, rfl, o, below2 hba b, hbl.below b⟩
      have HInA : Hid (∀ (r : Value) (W w7 : World), w7.ownsRow W.heap.size 66 10 r l.length (l.flatMap peV) → Below W.heap.size W w7 → Calls Try.prog 111 #[r, .int .i64 (putI l p), .slice (some ⟨w7.heap.size, 0, none⟩) 1 1] (w7.alloc (.cells #[.bool p.en.ad.v6, .int .u64 p.en.ad.hi, .int .u64 p.en.ad.lo, .int .i64 p.en.port, .bool p.came, .int .i64 p.since, .int .i64 p.pts, .int .i64 p.at_, .int .i64 p.ping, .int .i64 p.work] 66)) fun e w' => ∃ r, e = .returned r ∧ ReadsL peV 10 w' r (putT l p) ∧ Below W.heap.size W w') := fun r W w7 o b => by
        have hba : Below W.heap.size W (w7.alloc (.cells #[.bool p.en.ad.v6, .int .u64 p.en.ad.hi, .int .u64 p.en.ad.lo, .int .i64 p.en.port, .bool p.came, .int .i64 p.since, .int .i64 p.pts, .int .i64 p.at_, .int .i64 p.ping, .int .i64 p.work] 66)) := b.alloc b.size _
        refine (insPe l (putI l p) hix hl p r W.heap.size w7.heap.size 66 _ (o.alloc _) (BlockIs.new w7 (peV p) _) (Nat.le_trans b.size (by simp)) (fun g c e => by subst e; exact Nat.ne_of_gt (o.lt g rfl).2)).mono ?_
        rintro e w' ⟨r, rfl, o', b'⟩
        have hlen : (putT l p).length = l.length + 1 := putT_len l p
        refine ⟨r, rfl, owns_readsL (base := W.heap.size) (e := 66) (by rw [hlen]; exact o'), ?_⟩
        exact hba.trans b'
      have HInB : Hid (∀ (r : Value) (W w7 : World), w7.ownsRow (W.heap.size + 1) 66 10 r l.length (l.flatMap peV) → Below W.heap.size W w7 → BlockIs w7 W.heap.size (peV p) 66 → Calls Try.prog 111 #[r, .int .i64 (putI l p), .slice (some ⟨W.heap.size, 0, none⟩) 1 1] w7 fun e w' => ∃ r, e = .returned r ∧ ReadsL peV 10 w' r (putT l p) ∧ Below W.heap.size W w') := fun r W w7 o b hB => by
        refine (insPe l (putI l p) hix hl p r (W.heap.size + 1) W.heap.size 66 _ o hB (by have := hB.lt; omega) (fun g c e => by subst e; have := (o.lt g rfl).1; omega)).mono ?_
        rintro e w' ⟨r, rfl, o', b'⟩
        have hlen : (putT l p).length = l.length + 1 := putT_len l p
        refine ⟨r, rfl, owns_readsL (base := W.heap.size + 1) (e := 66) (by rw [hlen]; exact o'), ?_⟩
        exact b.trans (b'.mono (Nat.le_succ _))
      clear HV hf hl
      rcases fnI_put l p with ⟨hx, hp⟩ | ⟨i, hx, hp, hi⟩
      · rw [hx] at HIx
        rw [hp] at HInA HInB
        clear hx hp hix
        go_enter Try.func63, Try.ntmps63
        go_upto_region 8 with (first
          | (go_at_call 108; (with_reducible refine (HRt.out _).mono ?_); rintro e w1 ⟨rfl, b1⟩; have hB1 := HBk.out.below b1; have k := peIn_box hB1; obtain ⟨x0, x1, x2, x3, x4, x5, x6, x7, x8, x9⟩ := k; simp only [Nat.zero_add] at x0 x1 x2 x3 x4 x5 x6 x7 x8 x9; have b2 := below2 HB0.out b1)
          | (go_at_call 71; (with_reducible refine (HFd.out _ b2).mono ?_); rintro e w3 ⟨rfl, b3⟩; have b4 := below2 b2 b3; have hB3 := hB1.below b3)
          | (go_at_call 109; (with_reducible refine (HIx.out _ b4 hB3).mono ?_); rintro e W6 ⟨rfl, b5⟩))
        have HP6 := Lib.hid (hB3.below b5); have HB6 := Lib.hid (below2 b4 b5)
        clear x0 x1 x2 x3 x4 x5 x6 x7 x8 x9 b1 b2 b3 b4 b5 hB1 hB3
        have HC1 := Lib.hid (HClA.out W6 HB6.out); have HC2 := Lib.hid (HClB.out W6 HB6.out)
        have K6 := peIn_box HP6.out
        obtain ⟨x0, x1, x2, x3, x4, x5, x6, x7, x8, x9⟩ := K6
        simp only [Nat.zero_add] at x0 x1 x2 x3 x4 x5 x6 x7 x8 x9
        have hPl := HP6.out.lt
        go_region_held3 (fun w' => w'.cell? ⟨w.heap.size, 0, none⟩ = some (.bool p.en.ad.v6) ∧ w'.cell? ⟨w.heap.size, 1, none⟩ = some (.int .u64 p.en.ad.hi) ∧ w'.cell? ⟨w.heap.size, 2, none⟩ = some (.int .u64 p.en.ad.lo) ∧ w'.cell? ⟨w.heap.size, 3, none⟩ = some (.int .i64 p.en.port) ∧ w'.cell? ⟨w.heap.size, 4, none⟩ = some (.bool p.came) ∧ w'.cell? ⟨w.heap.size, 5, none⟩ = some (.int .i64 p.since) ∧ w'.cell? ⟨w.heap.size, 6, none⟩ = some (.int .i64 p.pts) ∧ w'.cell? ⟨w.heap.size, 7, none⟩ = some (.int .i64 p.at_) ∧ w'.cell? ⟨w.heap.size, 8, none⟩ = some (.int .i64 p.ping) ∧ w'.cell? ⟨w.heap.size, 9, none⟩ = some (.int .i64 p.work)) (first | go_keep | (simp (disch := omega) [*])) (first
          | (go_at_call 100; (with_reducible refine HC1.out.mono ?_); rintro e w7 ⟨r7, rfl, o7, b7⟩; obtain ⟨cf7, ff7⟩ := bcellB b7; have dB7 := fun o => cf7 w.heap.size o (by omega); have z7 := b7.size; clear cf7 ff7)
          | (go_at_call 100; (with_reducible refine HC2.out.mono ?_); rintro e w7 ⟨r7, rfl, o7, b7, hV7⟩; obtain ⟨cf7, ff7⟩ := bcellB b7; have dB7 := fun o => cf7 w.heap.size o (by omega); have z7 := b7.size; clear cf7 ff7)
          | (go_at_call 111; (with_reducible refine (HInA.out _ _ _ o7 b7).mono ?_); rintro e w8 ⟨r8, rfl, rd8, b8⟩; obtain ⟨cf8, ff8⟩ := bcellB b8; have dB8 := fun o => cf8 w.heap.size o (by omega); clear cf8 ff8)
          | (go_at_call 111; (with_reducible refine (HInB.out _ _ _ o7 b7 hV7).mono ?_); rintro e w8 ⟨r8, rfl, rd8, b8⟩; obtain ⟨cf8, ff8⟩ := bcellB b8; have dB8 := fun o => cf8 w.heap.size o (by omega); clear cf8 ff8)
          | fail)
        all_goals
          go_wp2_with fail
          go_ret2
          exact ⟨_, rfl, rd8, below2 HB6.out b8⟩
      · rw [hx] at HIx
        rw [hp] at HInA HInB
        have hi0 : ¬ ((i : Int) < 0) := by omega
        clear hx hp hix
        go_enter Try.func63, Try.ntmps63
        go_upto_region 8 with (first
          | (go_at_call 108; (with_reducible refine (HRt.out _).mono ?_); rintro e w1 ⟨rfl, b1⟩; have hB1 := HBk.out.below b1; have k := peIn_box hB1; obtain ⟨x0, x1, x2, x3, x4, x5, x6, x7, x8, x9⟩ := k; simp only [Nat.zero_add] at x0 x1 x2 x3 x4 x5 x6 x7 x8 x9; have b2 := below2 HB0.out b1)
          | (go_at_call 71; (with_reducible refine (HFd.out _ b2).mono ?_); rintro e w3 ⟨rfl, b3⟩; have b4 := below2 b2 b3; have hB3 := hB1.below b3)
          | (go_at_call 109; (with_reducible refine (HIx.out _ b4 hB3).mono ?_); rintro e W6 ⟨rfl, b5⟩))
        have HP6 := Lib.hid (hB3.below b5); have HB6 := Lib.hid (below2 b4 b5)
        clear x0 x1 x2 x3 x4 x5 x6 x7 x8 x9 b1 b2 b3 b4 b5 hB1 hB3
        have HC1 := Lib.hid (HClA.out W6 HB6.out); have HC2 := Lib.hid (HClB.out W6 HB6.out)
        have K6 := peIn_box HP6.out
        obtain ⟨x0, x1, x2, x3, x4, x5, x6, x7, x8, x9⟩ := K6
        simp only [Nat.zero_add] at x0 x1 x2 x3 x4 x5 x6 x7 x8 x9
        have hPl := HP6.out.lt
        go_region_held3 (fun w' => w'.cell? ⟨w.heap.size, 0, none⟩ = some (.bool p.en.ad.v6) ∧ w'.cell? ⟨w.heap.size, 1, none⟩ = some (.int .u64 p.en.ad.hi) ∧ w'.cell? ⟨w.heap.size, 2, none⟩ = some (.int .u64 p.en.ad.lo) ∧ w'.cell? ⟨w.heap.size, 3, none⟩ = some (.int .i64 p.en.port) ∧ w'.cell? ⟨w.heap.size, 4, none⟩ = some (.bool p.came) ∧ w'.cell? ⟨w.heap.size, 5, none⟩ = some (.int .i64 p.since) ∧ w'.cell? ⟨w.heap.size, 6, none⟩ = some (.int .i64 p.pts) ∧ w'.cell? ⟨w.heap.size, 7, none⟩ = some (.int .i64 p.at_) ∧ w'.cell? ⟨w.heap.size, 8, none⟩ = some (.int .i64 p.ping) ∧ w'.cell? ⟨w.heap.size, 9, none⟩ = some (.int .i64 p.work)) (first | go_keep | (simp (disch := omega) [*])) (first
          | (go_at_call 100; (with_reducible refine HC1.out.mono ?_); rintro e w7 ⟨r7, rfl, o7, b7⟩; obtain ⟨cf7, ff7⟩ := bcellB b7; have dB7 := fun o => cf7 w.heap.size o (by omega); have z7 := b7.size; clear cf7 ff7)
          | (go_at_call 100; (with_reducible refine HC2.out.mono ?_); rintro e w7 ⟨r7, rfl, o7, b7, hV7⟩; obtain ⟨cf7, ff7⟩ := bcellB b7; have dB7 := fun o => cf7 w.heap.size o (by omega); have z7 := b7.size; clear cf7 ff7)
          | (go_at_call 111; (with_reducible refine (HInA.out _ _ _ o7 b7).mono ?_); rintro e w8 ⟨r8, rfl, rd8, b8⟩; obtain ⟨cf8, ff8⟩ := bcellB b8; have dB8 := fun o => cf8 w.heap.size o (by omega); clear cf8 ff8)
          | (go_at_call 111; (with_reducible refine (HInB.out _ _ _ o7 b7 hV7).mono ?_); rintro e w8 ⟨r8, rfl, rd8, b8⟩; obtain ⟨cf8, ff8⟩ := bcellB b8; have dB8 := fun o => cf8 w.heap.size o (by omega); clear cf8 ff8)
          | fail)
        all_goals
          go_wp2_with fail
          go_ret2
          exact ⟨_, rfl, rd8, below2 HB6.out b8⟩
end Go.Proofs.Ytppmjbnhghaffaa
