/- Texts put together: ShB, Ins, Tab, TabC, TabF, SiegeB, TabH, TabJ, TabM, TabN, Nmw. No condition. -/
import Derived.Test.YtnplgagaoeckoaaGreatRfpzzrhnffr
import Derived.Test.YtnplgagaoeckoaaGreatRnpmcecexot
import Derived.Test.YtnplgagaoeckoaaGreatRmtvuvpphfn
import Derived.Test.YtnplgagaoeckoaaGreatRpgazgkwvhb
import Derived.Test.YtnplgagaoeckoaaGreatRjocmslpnog
import Derived.Test.YtnplgagaoeckoaaGreatRqjngbjfvuz
import Derived.Test.YtnplgagaoeckoaaGreatRluqwkbtqlq
import Derived.Lib.Overlaps
import Derived.Test.YtnplgagaoeckoaaGreatRqecjnclujc
import Derived.Test.YtnplgagaoeckoaaGreatRfgjxawdjfq
import Derived.Test.YtnplgagaoeckoaaGreatRmmjmhtuwoe
import Derived.Deep.RegionHeld3
import Derived.Handy
import Derived.WalkKit
import Derived.WalkSpells
import Derived.WalkLawsBesides
set_option maxRecDepth 100000
set_option linter.unusedSimpArgs false
set_option linter.unusedVariables false
namespace Go.Proofs.YtnplgagaoeckoaaGreat
open Go.RowKit Go.Lib
def EnIn (w : World) (b o : Nat) (p : En) : Prop := w.cell? ⟨b, o, none⟩ = some (.bool p.ad.v6) ∧ w.cell? ⟨b, o + 1, none⟩ = some (.int .u64 p.ad.hi) ∧ w.cell? ⟨b, o + 2, none⟩ = some (.int .u64 p.ad.lo) ∧ w.cell? ⟨b, o + 3, none⟩ = some (.int .i64 p.port)
theorem EnIn.below {B : Nat} {w w' : World} {b o : Nat} {p : En} (h : EnIn w b o p) (hb : Below B w w') (hlt : b < B) : EnIn w' b o p := by
 obtain ⟨a0, a1, a2, a3⟩ := h
 exact ⟨keep hb hlt a0, keep hb hlt a1, keep hb hlt a2, keep hb hlt a3⟩
end Go.Proofs.YtnplgagaoeckoaaGreat
namespace Go.Proofs.YtnplgagaoeckoaaGreat
open Go.RowKit
def insL (l : List Pe) (i : Nat) (p : Pe) : List Pe := l.take i ++ p :: l.drop i
end Go.Proofs.YtnplgagaoeckoaaGreat
namespace Go.Proofs.YtnplgagaoeckoaaGreat
open Go.RowKit Go.Lib Go.Sort
set_option maxHeartbeats 4000000 in
theorem order_any (a b : Pe) (w : World) : Calls Tryz.prog 101 #[.agg #[.bool a.en.ad.v6, .int .u64 a.en.ad.hi, .int .u64 a.en.ad.lo, .int .i64 a.en.port, .bool a.came, .int .i64 a.since, .int .i64 a.pts, .int .i64 a.at_, .int .i64 a.ping, .int .i64 a.work], .agg #[.bool b.en.ad.v6, .int .u64 b.en.ad.hi, .int .u64 b.en.ad.lo, .int .i64 b.en.port, .bool b.came, .int .i64 b.since, .int .i64 b.pts, .int .i64 b.at_, .int .i64 b.ping, .int .i64 b.work]] w fun e w' => e = .returned (.int .i64 (enCmp a.en b.en)) ∧ Below w.heap.size w w' := by
 have HC := zh (fun w => enCmp_any a.en b.en w)
 generalize enCmp a.en b.en = y at *
 go_enter Tryz.func101, Tryz.ntmps101
 go_wp2_with (go_at_call 115; (with_reducible refine (HC.out _).mono ?_); rintro e w1 ⟨rfl, b1⟩)
 go_ret
 refine ⟨rfl, ?_⟩
 exact bel
theorem order_cmp : CmpP Tryz.prog 101 #[] (fun a b => enCmp a.en b.en) := fun W x y => order_any x y W
/-- what the sort leaves -/
def srtL (l : List Pe) : List Pe := (stableA (ltOf fun a b : Pe => enCmp a.en b.en) l.toArray).toList
set_option maxHeartbeats 4000000 in
theorem sorted_any (v : Value) (l : List Pe) (w : World) (h : ReadsL peV 10 w v l) (hl : l.length ≤ 1000000) (hz : (srtL l).length = l.length) (hn : l ≠ []) :
  Calls Tryz.prog 79 #[v] w fun e w' => ∃ r, e = .returned r ∧ w'.ownsRow w.heap.size 52 10 r l.length ((srtL l).flatMap peV) ∧ Below w.heap.size w w' := by
 have HCl := zh (clonePe v l w h hl)
 have HS : Hid (∀ (g c : Nat) (W : World), W.ownsRow w.heap.size 52 10 (.slice (some ⟨g, 0, none⟩) l.length c) l.length (l.flatMap peV) → Below w.heap.size w W →
   Calls Tryz.prog 100 #[.slice (some ⟨g, 0, none⟩) l.length c, .func (.func 101) #[] #[]] W fun e w' => e = .returned (.tuple #[]) ∧ w'.ownsRow w.heap.size 52 10 (.slice (some ⟨g, 0, none⟩) l.length c) l.length ((srtL l).flatMap peV) ∧ Below w.heap.size w w') := fun g c W ho hb => by
  have hbg := (owns_blk2 ho).1
  have := sortStable_p (fun a b => enCmp a.en b.en) 101 #[] w.heap.size g c l.toArray w W (enters_of Tryz.func101 (by kernel_rfl) rfl) order_cmp ⟨hbg, by simpa using ho, hb⟩ (by simp; omega)
  rw [List.size_toArray] at this
  refine this.mono ?_
  rintro e w' ⟨rfl, _, o, b⟩
  have hz' : (stableA (ltOf fun a b : Pe => enCmp a.en b.en) l.toArray).size = l.length := by rw [← Array.length_toList]; exact hz
  rw [hz'] at o
  exact ⟨rfl, o, b⟩
 have HN := zh hn
 clear h hn hz
 go_enter Tryz.func79, Tryz.ntmps79
 go_wp2_with (first
  | (go_at_call 99; (with_reducible refine HCl.out.mono ?_); rintro e w1 ⟨r1, rfl, o1, b1, k1⟩; obtain ⟨g, c, rfl⟩ := k1 HN.out; have S1 := HS.out g c w1 o1 b1; clear o1 b1 k1)
  | (go_at_call 100; (with_reducible refine S1.mono ?_); rintro e w2 ⟨rfl, o2, b2⟩))
 go_ret
 exact ⟨_, rfl, o2, b2⟩
end Go.Proofs.YtnplgagaoeckoaaGreat
namespace Go.Proofs.YtnplgagaoeckoaaGreat
open Go.RowKit Go.Lib
theorem peIn_box {w : World} {B : Nat} {p : Pe} {T : TypeId} (h : BlockIs w B (peV p) T) : PeIn w B 0 p :=
 ⟨h.cell rfl, h.cell rfl, h.cell rfl, h.cell rfl, h.cell rfl, h.cell rfl, h.cell rfl, h.cell rfl, h.cell rfl, h.cell rfl⟩
theorem owns_sliceP {w : World} {base n : Nat} {e : TypeId} {size : Nat} {v : Value} {xs : List Value} (h : w.ownsRow base e size v n xs) (hn : 0 < n) : ∃ g c, v = .slice (some ⟨g, 0, none⟩) n c := by
 rcases h.2 with ⟨_, h0⟩ | ⟨g, cap, _, rfl, _⟩
 ·omega
 ·exact ⟨_, _, rfl⟩
end Go.Proofs.YtnplgagaoeckoaaGreat
namespace Go.Proofs.YtnplgagaoeckoaaGreat
open Go.RowKit
/-- how many may come, the quotas, the secret -/
structure St where
 most : Int
 q : Qu
 s : Nat
def St.fits (t : St) : Prop := (-9223372036854775808 ≤ t.most ∧ t.most ≤ 9223372036854775807) ∧ t.q.fits ∧ t.s < 18446744073709551616
theorem reads_blk {w : World} {B size : Nat} {us : List Value} {T : TypeId} (h : BlockIs w B us T) (hl : us.length = size) (hs : 0 < size) : Reads w (.slice (some ⟨B, 0, none⟩) 1 1) 1 size us :=
 ⟨by omega, by omega, Or.inr ⟨by omega, B, 0, 1, rfl, by omega, h.lt, fun j x hj => by rw [Nat.zero_add]; exact h.cell hj⟩⟩
end Go.Proofs.YtnplgagaoeckoaaGreat
namespace Go.Proofs.YtnplgagaoeckoaaGreat
open Go.RowKit Go.Lib

/-- where a peer goes -/
def putI (l : List Pe) (p : Pe) : Nat := (l.findIdx? fun x => decide (0 < enCmp x.en p.en)).getD l.length
theorem putI_hit {l : List Pe} {p x : Pe} {k : Nat} (hk : k < l.length) (hx : l[k]? = some x) (h : 0 < enCmp x.en p.en) (hA : ∀ j q, j < k → l[j]? = some q → enCmp q.en p.en ≤ 0) : putI l p = k := by
 have h' : (l.findIdx? fun x => decide (0 < enCmp x.en p.en)) = some k := by
  rw [List.findIdx?_eq_some_iff_getElem]
  obtain ⟨_, e⟩ := List.getElem?_eq_some_iff.1 hx
  refine ⟨hk, by rw [e]; exact decide_eq_true h, fun j hj => ?_⟩
  have h1 := hA j _ hj (List.getElem?_eq_getElem (by omega))
  have h2 : ¬ 0 < enCmp l[j].en p.en := by omega
  simpa using h2
 unfold putI; rw [h']; rfl
theorem putI_miss {l : List Pe} {p : Pe} (hA : ∀ j q, j < l.length → l[j]? = some q → enCmp q.en p.en ≤ 0) : putI l p = l.length := by
 have h' : (l.findIdx? fun x => decide (0 < enCmp x.en p.en)) = none := by
  rw [List.findIdx?_eq_none_iff]
  intro x hx
  obtain ⟨j, hj, e⟩ := List.getElem_of_mem hx
  have h1 := hA j x hj (by rw [List.getElem?_eq_getElem hj, e])
  exact decide_eq_false (by omega)
 unfold putI; rw [h']; rfl
def putT (l : List Pe) (p : Pe) : List Pe := insL l (putI l p) p
set_option maxHeartbeats 8000000 in
theorem refPutT_any (v : Value) (l : List Pe) (p : Pe) (w : World) (h : ReadsL peV 10 w v l) (hl : l.length ≤ 1000000) :
  Calls Tryz.prog 102 #[v, .agg #[.bool p.en.ad.v6, .int .u64 p.en.ad.hi, .int .u64 p.en.ad.lo, .int .i64 p.en.port, .bool p.came, .int .i64 p.since, .int .i64 p.pts, .int .i64 p.at_, .int .i64 p.ping, .int .i64 p.work]] w fun e w' => ∃ r, e = .returned r ∧ ReadsL peV 10 w' r (putT l p) ∧ Below w.heap.size w w' := by
 obtain ⟨hm, a0, ca, rfl, h3⟩ := pes_open h
 have mixed : Tryz.prog.follows .mixedOrders = true := by kernel_rfl
 have HR := zh h
 have B0 : Below w.heap.size w (w.alloc (.cells #[.bool p.en.ad.v6, .int .u64 p.en.ad.hi, .int .u64 p.en.ad.lo, .int .i64 p.en.port, .bool p.came, .int .i64 p.since, .int .i64 p.pts, .int .i64 p.at_, .int .i64 p.ping, .int .i64 p.work] 52)) := by exact bel
 have hBk : BlockIs (w.alloc (.cells #[.bool p.en.ad.v6, .int .u64 p.en.ad.hi, .int .u64 p.en.ad.lo, .int .i64 p.en.port, .bool p.came, .int .i64 p.since, .int .i64 p.pts, .int .i64 p.at_, .int .i64 p.ping, .int .i64 p.work] 52)) w.heap.size (peV p) 52 := BlockIs.new w (peV p) _
 obtain ⟨HB0, HBk⟩ := zh2 B0 hBk
 clear B0 h hBk
 go_enter Tryz.func102, Tryz.ntmps102
 go_wp2_with fail
 go_loopw [5] (fun i' wr => ∃ k : Nat, k ≤ l.length ∧ i' = .int .i64 k ∧ Hid (∀ j q, j < k → l[j]? = some q → enCmp q.en p.en ≤ 0) ∧ Hid (BlockIs wr w.heap.size (peV p) 52) ∧ Hid (Below w.heap.size w wr)) (fun i' _ => l.length - (intOf i').toNat)
 case atStart => exact ⟨0, by omega, rfl, fun j q hj => absurd hj (Nat.not_lt_zero _), HBk.out, HB0.out⟩
 case round =>
  clear HB0 HBk
  obtain ⟨k, hk, rfl, HA, HPb, HB⟩ := hrel
  have q1 : (0 : Int) ≤ (k : Int) := by omega
  by_cases hlt : k < l.length
  ·obtain ⟨y, hy⟩ : ∃ y, l[k]? = some y := ⟨_, List.getElem?_eq_getElem hlt⟩
   obtain ⟨b, o, rfl, h4, h5, h6⟩ := h3 (by omega)
   have q2 : (k : Int) < (l.length : Int) := by omega
   have hbl := Nat.lt_of_lt_of_le h5 HB.out.size
   have KY : ∀ Y, PeIn (Go.Proofs.YtnplgagaoeckoaaGreat.ext wr Y) b (o + k * 10) y := fun Y => ((h6 k y hy).below HB.out h5).below (ext_below wr Y) hbl
   have KX : ∀ Y, PeIn (Go.Proofs.YtnplgagaoeckoaaGreat.ext wr Y) w.heap.size 0 p := fun Y => peIn_box (HPb.out.below (ext_below wr Y))
   have y0 := fun y => (KY y).1; have y1 := fun y => (KY y).2.1; have y2 := fun y => (KY y).2.2.1; have y3 := fun y => (KY y).2.2.2.1; have y4 := fun y => (KY y).2.2.2.2.1; have y5 := fun y => (KY y).2.2.2.2.2.1; have y6 := fun y => (KY y).2.2.2.2.2.2.1; have y7 := fun y => (KY y).2.2.2.2.2.2.2.1; have y8 := fun y => (KY y).2.2.2.2.2.2.2.2.1; have y9 := fun y => (KY y).2.2.2.2.2.2.2.2.2
   have x0 := fun y => (KX y).1; have x1 := fun y => (KX y).2.1; have x2 := fun y => (KX y).2.2.1; have x3 := fun y => (KX y).2.2.2.1; have x4 := fun y => (KX y).2.2.2.2.1; have x5 := fun y => (KX y).2.2.2.2.2.1; have x6 := fun y => (KX y).2.2.2.2.2.2.1; have x7 := fun y => (KX y).2.2.2.2.2.2.2.1; have x8 := fun y => (KX y).2.2.2.2.2.2.2.2.1; have x9 := fun y => (KX y).2.2.2.2.2.2.2.2.2
   simp only [Nat.zero_add] at x0 x1 x2 x3 x4 x5 x6 x7 x8 x9
   obtain ⟨HY, HKl⟩ := zh2 hy hlt
   have HC := zh (fun W => refEnCmp_any y.en p.en W)
   obtain ⟨z, hz⟩ : ∃ z, z = enCmp y.en p.en := ⟨_, rfl⟩
   rw [← hz] at HC
   have HZ := zh hz
   clear hy hz h6 KY KX hlt
   by_cases hz : z ≤ 0
   ·have hz1 : decide (z ≤ 0) = true := decide_eq_true hz
    go_wp2_with fail
    refine wp_region_ext (by kernel_rfl) (by kernel_rfl) ?_
    repeat (go_big_quiet_step ((first | (go_at_call 85; with_reducible exact qe (HC.out _)))))
    refine wpQuiet_nil ?_
    intro _ hw'
    obtain ⟨gx, HW⟩ := hw'
    subst HW
    clear y0 y1 y2 y3 y4 y5 y6 y7 y8 y9 x0 x1 x2 x3 x4 x5 x6 x7 x8 x9
    go_wp2_with fail
    go_roundw
    case rel =>
     refine ⟨k + 1, by have := HKl.out; omega, by go_num, fun j q hj hq => ?_, HPb.out.below (ext_below wr gx), HB.out.trans ((ext_below wr gx).mono HB.out.size)⟩
     rcases Nat.lt_or_ge j k with e | e
     ·exact HA.out j q e hq
     ·rw [show j = k by omega, HY.out] at hq
      injection hq with hq
      subst hq
      rw [← HZ.out]; exact hz
    case measure => have := HKl.out; simp [intOf]; omega
   ·have hz1 : decide (z ≤ 0) = false := decide_eq_false hz
    have HI : Hid (putI l p = k) := putI_hit HKl.out HY.out (by rw [← HZ.out]; omega) HA.out
    go_wp2_with fail
    refine wp_region_ext (by kernel_rfl) (by kernel_rfl) ?_
    repeat (go_big_quiet_step ((first | (go_at_call 85; with_reducible exact qe (HC.out _)))))
    refine wpQuiet_nil ?_
    intro _ hw'
    obtain ⟨gx, HW⟩ := hw'
    subst HW
    clear y0 y1 y2 y3 y4 y5 y6 y7 y8 y9 x0 x1 x2 x3 x4 x5 x6 x7 x8 x9
    have HB6 := zh (HB.out.trans ((ext_below wr gx).mono HB.out.size))
    have HP6 := zh (HPb.out.below (ext_below wr gx))
    have hkl := HKl.out
    clear HC HA HPb HB hbl HY HZ hz1
    generalize Go.Proofs.YtnplgagaoeckoaaGreat.ext wr gx = W6 at HB6 HP6 ⊢
    clear gx
    go_upto_region 4 with fail
    have K6 := peIn_box HP6.out
    obtain ⟨x0, x1, x2, x3, x4, x5, x6, x7, x8, x9⟩ := K6
    simp only [Nat.zero_add] at x0 x1 x2 x3 x4 x5 x6 x7 x8 x9
    have hPl := HP6.out.lt
    have hRr : ReadsL peV 10 W6 (.slice (some ⟨b, o, none⟩) l.length ca) l := Reads.below HR.out HB6.out
    have hd1 : (l.drop k).length = l.length - k := List.length_drop
    have hd2 : (l.take k).length = k := by rw [List.length_take]; omega
    have r1 := reads_dropP hRr (show k ≤ l.length by omega)
    have r2 := reads_takeP hRr (show k ≤ l.length by omega)
    unfold ReadsL at r1 r2
    rw [hd1] at r1
    rw [hd2] at r2
    have RT := zh r2
    have RD := zh r1
    clear r1 r2 hRr
    have key : ∀ (W8 : World) (v8 : Value), W8.ownsRow W6.heap.size 52 10 v8 (k + 1 + (l.length - k)) ((l.take k).flatMap peV ++ peV p ++ (l.drop k).flatMap peV) → ReadsL peV 10 W8 v8 (putT l p) := fun W8 v8 ho => by
     unfold ReadsL putT insL
     rw [HI.out, show (l.take k ++ p :: l.drop k).length = k + 1 + (l.length - k) by simp; omega, List.flatMap_append, List.flatMap_cons, ← List.append_assoc]
     exact owns_reads ho
    have HK := zh key
    clear key hd1 hd2
    have q3 : (k : Int) ≤ (ca : Int) := by omega
    have q4 : (k : Int) ≤ (l.length : Int) := by omega
    have hckz : ¬ (ca = k) := by omega
    go_region_held3 (fun w' => w'.cell? ⟨w.heap.size, 0, none⟩ = some (.bool p.en.ad.v6) ∧ w'.cell? ⟨w.heap.size, 1, none⟩ = some (.int .u64 p.en.ad.hi) ∧ w'.cell? ⟨w.heap.size, 2, none⟩ = some (.int .u64 p.en.ad.lo) ∧ w'.cell? ⟨w.heap.size, 3, none⟩ = some (.int .i64 p.en.port) ∧ w'.cell? ⟨w.heap.size, 4, none⟩ = some (.bool p.came) ∧ w'.cell? ⟨w.heap.size, 5, none⟩ = some (.int .i64 p.since) ∧ w'.cell? ⟨w.heap.size, 6, none⟩ = some (.int .i64 p.pts) ∧ w'.cell? ⟨w.heap.size, 7, none⟩ = some (.int .i64 p.at_) ∧ w'.cell? ⟨w.heap.size, 8, none⟩ = some (.int .i64 p.ping) ∧ w'.cell? ⟨w.heap.size, 9, none⟩ = some (.int .i64 p.work)) (first | go_keep | (simp (disch := omega) [*])) (first | (refine step_app_reads_g peRow (by rfl) (.tmp 24) (.tmp 27) (by rfl) W6.heap.size (.slice (some ⟨W6.heap.size, 0, none⟩) 0 0) (0) ([]) (by rfl) (by (repeat (first | ((with_reducible refine own_made ?_ ?_); (first | rfl | simp); (first | exact Nat.le_refl _ | simp)) | (with_reducible refine World.ownsRow.alloc ?_ _) | (with_reducible refine World.ownsRow.drew ?_))); done) _ (k) ((l.take k).flatMap peV) (by rfl) (Reads.below RT.out (by exact bel)) (peV_ones _) (by omega) (by omega) (by first | omega | (simp; done) | (simp; omega) | (simp at *; omega)) ?_; intro v1 w1 o1 gr1; have bb1 : Below W6.heap.size W6 w1 := below_grown (base := W6.heap.size) (e := 52) (size := 10) (v := (.slice (some ⟨W6.heap.size, 0, none⟩) 0 0)) (n := 0) (xs := []) (by (repeat (first | ((with_reducible refine own_made ?_ ?_); (first | rfl | simp); (first | exact Nat.le_refl _ | simp)) | (with_reducible refine World.ownsRow.alloc ?_ _) | (with_reducible refine World.ownsRow.drew ?_))); done) (by exact bel) (Nat.le_refl _) (by first | omega | (simp; done) | (simp; omega) | (simp at *; omega)) gr1; simp only [Nat.zero_add, List.nil_append] at o1; obtain ⟨cf1, ff1⟩ := bcellB bb1; have dB1 := fun o => cf1 w.heap.size o (by omega); have z1 := bb1.size; clear cf1 ff1) | (refine step_app_reads_g peRow (by rfl) (.tmp 24) (.tmp 27) (by rfl) W6.heap.size (.slice (some ⟨W6.heap.size + 1, 0, none⟩) 0 0) (0) ([]) (by rfl) (by (repeat (first | ((with_reducible refine own_made ?_ ?_); (first | rfl | simp); (first | exact Nat.le_refl _ | simp)) | (with_reducible refine World.ownsRow.alloc ?_ _) | (with_reducible refine World.ownsRow.drew ?_))); done) _ (k) ((l.take k).flatMap peV) (by rfl) (Reads.below RT.out (by exact bel)) (peV_ones _) (by omega) (by omega) (by first | omega | (simp; done) | (simp; omega) | (simp at *; omega)) ?_; intro v1 w1 o1 gr1; have bb1 : Below W6.heap.size W6 w1 := below_grown (base := W6.heap.size) (e := 52) (size := 10) (v := (.slice (some ⟨W6.heap.size + 1, 0, none⟩) 0 0)) (n := 0) (xs := []) (by (repeat (first | ((with_reducible refine own_made ?_ ?_); (first | rfl | simp); (first | exact Nat.le_refl _ | simp)) | (with_reducible refine World.ownsRow.alloc ?_ _) | (with_reducible refine World.ownsRow.drew ?_))); done) (by exact bel) (Nat.le_refl _) (by first | omega | (simp; done) | (simp; omega) | (simp at *; omega)) gr1; simp only [Nat.zero_add, List.nil_append] at o1; obtain ⟨cf1, ff1⟩ := bcellB bb1; have dB1 := fun o => cf1 w.heap.size o (by omega); have z1 := bb1.size; clear cf1 ff1) | (refine step_app_reads_g peRow (by rfl) (.tmp 28) (.tmp 30) (by rfl) W6.heap.size v1 (k) ((l.take k).flatMap peV) (by rfl) (by (repeat (first | (with_reducible exact o1) | (with_reducible refine World.ownsRow.alloc ?_ _) | (with_reducible refine World.ownsRow.drew ?_))); done) _ (1) (peV p) (by rfl) (reads_blk (B := w1.heap.size) (T := 52) (by (repeat (first | (with_reducible refine BlockIs.drew' ?_) | ((refine BlockIs.newAt' _ _ _ ?_); (first | rfl | (simp; done))) | ((with_reducible refine blk_grown ?_ gr1 ?_); rotate_left; (simp [Value.ownBlock] <;> omega)) |  (with_reducible refine BlockIs.alloc' ?_ _))); done) rfl (Nat.succ_pos 9)) (peV_one1 _) (by omega) (by omega) (by first | exact bb1.size | (refine Nat.le_trans bb1.size ?_; simp)) ?_; intro v2 w2 o2 gr2; have bb2 : Below W6.heap.size W6 w2 := below_grown (base := W6.heap.size) (e := 52) (size := 10) (v := v1) (n := k) (xs := (l.take k).flatMap peV) (by (repeat (first | (with_reducible exact o1) | (with_reducible refine World.ownsRow.alloc ?_ _) | (with_reducible refine World.ownsRow.drew ?_))); done) (by first | exact bb1 | exact bb1.drew | exact Below.alloc bb1 bb1.size _ | exact (Below.alloc bb1 bb1.size _).drew) (Nat.le_refl _) (by first | exact bb1.size | (refine Nat.le_trans bb1.size ?_; simp)) gr2; obtain ⟨cf2, ff2⟩ := bcellB bb2; have dB2 := fun o => cf2 w.heap.size o (by omega); have z2 := bb2.size; clear cf2 ff2) | (refine step_app_reads_g peRow (by rfl) (.tmp 28) (.tmp 30) (by rfl) W6.heap.size v1 (k) ((l.take k).flatMap peV) (by rfl) (by (repeat (first | (with_reducible exact o1) | (with_reducible refine World.ownsRow.alloc ?_ _) | (with_reducible refine World.ownsRow.drew ?_))); done) _ (1) (peV p) (by rfl) (reads_blk (B := (W6.heap.size + 1)) (T := 52) (by (repeat (first | (with_reducible refine BlockIs.drew' ?_) | ((refine BlockIs.newAt' _ _ _ ?_); (first | rfl | (simp; done))) | ((with_reducible refine blk_grown ?_ gr1 ?_); rotate_left; (simp [Value.ownBlock] <;> omega)) |  (with_reducible refine BlockIs.alloc' ?_ _))); done) rfl (Nat.succ_pos 9)) (peV_one1 _) (by omega) (by omega) (by first | exact bb1.size | (refine Nat.le_trans bb1.size ?_; simp)) ?_; intro v2 w2 o2 gr2; have bb2 : Below W6.heap.size W6 w2 := below_grown (base := W6.heap.size) (e := 52) (size := 10) (v := v1) (n := k) (xs := (l.take k).flatMap peV) (by (repeat (first | (with_reducible exact o1) | (with_reducible refine World.ownsRow.alloc ?_ _) | (with_reducible refine World.ownsRow.drew ?_))); done) (by first | exact bb1 | exact bb1.drew | exact Below.alloc bb1 bb1.size _ | exact (Below.alloc bb1 bb1.size _).drew) (Nat.le_refl _) (by first | exact bb1.size | (refine Nat.le_trans bb1.size ?_; simp)) gr2; obtain ⟨cf2, ff2⟩ := bcellB bb2; have dB2 := fun o => cf2 w.heap.size o (by omega); have z2 := bb2.size; clear cf2 ff2) | (refine step_app_reads_g peRow (by rfl) (.tmp 28) (.tmp 30) (by rfl) W6.heap.size v1 (k) ((l.take k).flatMap peV) (by rfl) (by (repeat (first | (with_reducible exact o1) | (with_reducible refine World.ownsRow.alloc ?_ _) | (with_reducible refine World.ownsRow.drew ?_))); done) _ (1) (peV p) (by rfl) (reads_blk (B := W6.heap.size) (T := 52) (by (repeat (first | (with_reducible refine BlockIs.drew' ?_) | ((refine BlockIs.newAt' _ _ _ ?_); (first | rfl | (simp; done))) | ((with_reducible refine blk_grown ?_ gr1 ?_); rotate_left; (simp [Value.ownBlock] <;> omega)) |  (with_reducible refine BlockIs.alloc' ?_ _))); done) rfl (Nat.succ_pos 9)) (peV_one1 _) (by omega) (by omega) (by first | exact bb1.size | (refine Nat.le_trans bb1.size ?_; simp)) ?_; intro v2 w2 o2 gr2; have bb2 : Below W6.heap.size W6 w2 := below_grown (base := W6.heap.size) (e := 52) (size := 10) (v := v1) (n := k) (xs := (l.take k).flatMap peV) (by (repeat (first | (with_reducible exact o1) | (with_reducible refine World.ownsRow.alloc ?_ _) | (with_reducible refine World.ownsRow.drew ?_))); done) (by first | exact bb1 | exact bb1.drew | exact Below.alloc bb1 bb1.size _ | exact (Below.alloc bb1 bb1.size _).drew) (Nat.le_refl _) (by first | exact bb1.size | (refine Nat.le_trans bb1.size ?_; simp)) gr2; obtain ⟨cf2, ff2⟩ := bcellB bb2; have dB2 := fun o => cf2 w.heap.size o (by omega); have z2 := bb2.size; clear cf2 ff2) | fail)
    all_goals
     go_wp2_with (at_builtin; refine list_app_reads peRow rfl (.tmp 32) (.tmp 35) rfl W6.heap.size _ (k + 1) ((l.take k).flatMap peV ++ peV p) rfl o2 _ (l.length - k) ((l.drop k).flatMap peV) rfl (Reads.below RD.out bb2) (peV_ones _) (by omega) (by omega) bb2.size W6.heap.size W6 bb2 (Nat.le_refl _) ?_; intro v3 w3 o3 b3)
     go_ret
     exact ⟨_, rfl, HK.out _ _ o3, below2 HB6.out b3⟩
  ·obtain rfl : k = l.length := by omega
   have HI : Hid (putI l p = l.length) := putI_miss HA.out
   have hca : l.length ≤ ca := by
    rcases Nat.eq_zero_or_pos l.length with h0 | h0
    ·omega
    ·obtain ⟨_, _, _, h4, _⟩ := h3 h0; exact h4
   go_wp2_with fail
   refine wp_region_ext (by kernel_rfl) (by kernel_rfl) ?_
   repeat (go_big_quiet_step ((first | (go_at_call 85; with_reducible exact qe (HC.out _)))))
   refine wpQuiet_nil ?_
   intro _ hw'
   obtain ⟨gx, HW⟩ := hw'
   subst HW
   have HB6 := zh (HB.out.trans ((ext_below wr gx).mono HB.out.size))
   have HP6 := zh (HPb.out.below (ext_below wr gx))
   clear HA HPb HB hlt
   generalize Go.Proofs.YtnplgagaoeckoaaGreat.ext wr gx = W6 at HB6 HP6 ⊢
   clear gx
   cases a0 with
   | none =>
    have h0 : l.length = 0 := by
     rcases Nat.eq_zero_or_pos l.length with h | h
     ·exact h
     ·obtain ⟨b, o, e, _⟩ := h3 h; cases e
    have e : l = [] := List.eq_nil_of_length_eq_zero h0
    clear h3
    subst e
    go_upto_region 4 with fail
    have K6 := peIn_box HP6.out
    obtain ⟨x0, x1, x2, x3, x4, x5, x6, x7, x8, x9⟩ := K6
    simp only [Nat.zero_add] at x0 x1 x2 x3 x4 x5 x6 x7 x8 x9
    have hPl := HP6.out.lt
    have RT : Hid (Reads W6 (.slice none 0 ca) 0 10 []) := ⟨rfl, Nat.zero_le _, Or.inl ⟨rfl, _, _, rfl⟩⟩
    have key : ∀ (W8 : World) (v8 : Value), W8.ownsRow W6.heap.size 52 10 v8 (0 + 1 + 0) ([] ++ peV p ++ []) → ReadsL peV 10 W8 v8 (putT [] p) := fun W8 v8 ho => by
     unfold ReadsL putT insL
     rw [HI.out]
     exact owns_reads ho
    have HK := zh key
    clear key
    go_region_held3 (fun w' => w'.cell? ⟨w.heap.size, 0, none⟩ = some (.bool p.en.ad.v6) ∧ w'.cell? ⟨w.heap.size, 1, none⟩ = some (.int .u64 p.en.ad.hi) ∧ w'.cell? ⟨w.heap.size, 2, none⟩ = some (.int .u64 p.en.ad.lo) ∧ w'.cell? ⟨w.heap.size, 3, none⟩ = some (.int .i64 p.en.port) ∧ w'.cell? ⟨w.heap.size, 4, none⟩ = some (.bool p.came) ∧ w'.cell? ⟨w.heap.size, 5, none⟩ = some (.int .i64 p.since) ∧ w'.cell? ⟨w.heap.size, 6, none⟩ = some (.int .i64 p.pts) ∧ w'.cell? ⟨w.heap.size, 7, none⟩ = some (.int .i64 p.at_) ∧ w'.cell? ⟨w.heap.size, 8, none⟩ = some (.int .i64 p.ping) ∧ w'.cell? ⟨w.heap.size, 9, none⟩ = some (.int .i64 p.work)) (first | go_keep | (simp (disch := omega) [*])) (first | (refine step_app_reads_g peRow (by rfl) (.tmp 24) (.tmp 27) (by rfl) W6.heap.size (.slice (some ⟨W6.heap.size, 0, none⟩) 0 0) (0) ([]) (by rfl) (by (repeat (first | ((with_reducible refine own_made ?_ ?_); (first | rfl | simp); (first | exact Nat.le_refl _ | simp)) | (with_reducible refine World.ownsRow.alloc ?_ _) | (with_reducible refine World.ownsRow.drew ?_))); done) _ (0) ([]) (by rfl) (Reads.below RT.out (by exact bel)) (fun u hu => absurd hu List.not_mem_nil) (by omega) (by omega) (by first | omega | (simp; done) | (simp; omega) | (simp at *; omega)) ?_; intro v1 w1 o1 gr1; have bb1 : Below W6.heap.size W6 w1 := below_grown (base := W6.heap.size) (e := 52) (size := 10) (v := (.slice (some ⟨W6.heap.size, 0, none⟩) 0 0)) (n := 0) (xs := []) (by (repeat (first | ((with_reducible refine own_made ?_ ?_); (first | rfl | simp); (first | exact Nat.le_refl _ | simp)) | (with_reducible refine World.ownsRow.alloc ?_ _) | (with_reducible refine World.ownsRow.drew ?_))); done) (by exact bel) (Nat.le_refl _) (by first | omega | (simp; done) | (simp; omega) | (simp at *; omega)) gr1; simp only [Nat.zero_add, List.nil_append] at o1; obtain ⟨cf1, ff1⟩ := bcellB bb1; have dB1 := fun o => cf1 w.heap.size o (by omega); have z1 := bb1.size; clear cf1 ff1) | (refine step_app_reads_g peRow (by rfl) (.tmp 24) (.tmp 27) (by rfl) W6.heap.size (.slice (some ⟨W6.heap.size + 1, 0, none⟩) 0 0) (0) ([]) (by rfl) (by (repeat (first | ((with_reducible refine own_made ?_ ?_); (first | rfl | simp); (first | exact Nat.le_refl _ | simp)) | (with_reducible refine World.ownsRow.alloc ?_ _) | (with_reducible refine World.ownsRow.drew ?_))); done) _ (0) ([]) (by rfl) (Reads.below RT.out (by exact bel)) (fun u hu => absurd hu List.not_mem_nil) (by omega) (by omega) (by first | omega | (simp; done) | (simp; omega) | (simp at *; omega)) ?_; intro v1 w1 o1 gr1; have bb1 : Below W6.heap.size W6 w1 := below_grown (base := W6.heap.size) (e := 52) (size := 10) (v := (.slice (some ⟨W6.heap.size + 1, 0, none⟩) 0 0)) (n := 0) (xs := []) (by (repeat (first | ((with_reducible refine own_made ?_ ?_); (first | rfl | simp); (first | exact Nat.le_refl _ | simp)) | (with_reducible refine World.ownsRow.alloc ?_ _) | (with_reducible refine World.ownsRow.drew ?_))); done) (by exact bel) (Nat.le_refl _) (by first | omega | (simp; done) | (simp; omega) | (simp at *; omega)) gr1; simp only [Nat.zero_add, List.nil_append] at o1; obtain ⟨cf1, ff1⟩ := bcellB bb1; have dB1 := fun o => cf1 w.heap.size o (by omega); have z1 := bb1.size; clear cf1 ff1) | (refine step_app_reads_g peRow (by rfl) (.tmp 28) (.tmp 30) (by rfl) W6.heap.size v1 (0) ([]) (by rfl) (by (repeat (first | (with_reducible exact o1) | (with_reducible refine World.ownsRow.alloc ?_ _) | (with_reducible refine World.ownsRow.drew ?_))); done) _ (1) (peV p) (by rfl) (reads_blk (B := w1.heap.size) (T := 52) (by (repeat (first | (with_reducible refine BlockIs.drew' ?_) | ((refine BlockIs.newAt' _ _ _ ?_); (first | rfl | (simp; done))) | ((with_reducible refine blk_grown ?_ gr1 ?_); rotate_left; (simp [Value.ownBlock] <;> omega)) |  (with_reducible refine BlockIs.alloc' ?_ _))); done) rfl (Nat.succ_pos 9)) (peV_one1 _) (by omega) (by omega) (by first | exact bb1.size | (refine Nat.le_trans bb1.size ?_; simp)) ?_; intro v2 w2 o2 gr2; have bb2 : Below W6.heap.size W6 w2 := below_grown (base := W6.heap.size) (e := 52) (size := 10) (v := v1) (n := 0) (xs := []) (by (repeat (first | (with_reducible exact o1) | (with_reducible refine World.ownsRow.alloc ?_ _) | (with_reducible refine World.ownsRow.drew ?_))); done) (by first | exact bb1 | exact bb1.drew | exact Below.alloc bb1 bb1.size _ | exact (Below.alloc bb1 bb1.size _).drew) (Nat.le_refl _) (by first | exact bb1.size | (refine Nat.le_trans bb1.size ?_; simp)) gr2; obtain ⟨cf2, ff2⟩ := bcellB bb2; have dB2 := fun o => cf2 w.heap.size o (by omega); have z2 := bb2.size; clear cf2 ff2) | (refine step_app_reads_g peRow (by rfl) (.tmp 28) (.tmp 30) (by rfl) W6.heap.size v1 (0) ([]) (by rfl) (by (repeat (first | (with_reducible exact o1) | (with_reducible refine World.ownsRow.alloc ?_ _) | (with_reducible refine World.ownsRow.drew ?_))); done) _ (1) (peV p) (by rfl) (reads_blk (B := (W6.heap.size + 1)) (T := 52) (by (repeat (first | (with_reducible refine BlockIs.drew' ?_) | ((refine BlockIs.newAt' _ _ _ ?_); (first | rfl | (simp; done))) | ((with_reducible refine blk_grown ?_ gr1 ?_); rotate_left; (simp [Value.ownBlock] <;> omega)) |  (with_reducible refine BlockIs.alloc' ?_ _))); done) rfl (Nat.succ_pos 9)) (peV_one1 _) (by omega) (by omega) (by first | exact bb1.size | (refine Nat.le_trans bb1.size ?_; simp)) ?_; intro v2 w2 o2 gr2; have bb2 : Below W6.heap.size W6 w2 := below_grown (base := W6.heap.size) (e := 52) (size := 10) (v := v1) (n := 0) (xs := []) (by (repeat (first | (with_reducible exact o1) | (with_reducible refine World.ownsRow.alloc ?_ _) | (with_reducible refine World.ownsRow.drew ?_))); done) (by first | exact bb1 | exact bb1.drew | exact Below.alloc bb1 bb1.size _ | exact (Below.alloc bb1 bb1.size _).drew) (Nat.le_refl _) (by first | exact bb1.size | (refine Nat.le_trans bb1.size ?_; simp)) gr2; obtain ⟨cf2, ff2⟩ := bcellB bb2; have dB2 := fun o => cf2 w.heap.size o (by omega); have z2 := bb2.size; clear cf2 ff2) | (refine step_app_reads_g peRow (by rfl) (.tmp 28) (.tmp 30) (by rfl) W6.heap.size v1 (0) ([]) (by rfl) (by (repeat (first | (with_reducible exact o1) | (with_reducible refine World.ownsRow.alloc ?_ _) | (with_reducible refine World.ownsRow.drew ?_))); done) _ (1) (peV p) (by rfl) (reads_blk (B := W6.heap.size) (T := 52) (by (repeat (first | (with_reducible refine BlockIs.drew' ?_) | ((refine BlockIs.newAt' _ _ _ ?_); (first | rfl | (simp; done))) | ((with_reducible refine blk_grown ?_ gr1 ?_); rotate_left; (simp [Value.ownBlock] <;> omega)) |  (with_reducible refine BlockIs.alloc' ?_ _))); done) rfl (Nat.succ_pos 9)) (peV_one1 _) (by omega) (by omega) (by first | exact bb1.size | (refine Nat.le_trans bb1.size ?_; simp)) ?_; intro v2 w2 o2 gr2; have bb2 : Below W6.heap.size W6 w2 := below_grown (base := W6.heap.size) (e := 52) (size := 10) (v := v1) (n := 0) (xs := []) (by (repeat (first | (with_reducible exact o1) | (with_reducible refine World.ownsRow.alloc ?_ _) | (with_reducible refine World.ownsRow.drew ?_))); done) (by first | exact bb1 | exact bb1.drew | exact Below.alloc bb1 bb1.size _ | exact (Below.alloc bb1 bb1.size _).drew) (Nat.le_refl _) (by first | exact bb1.size | (refine Nat.le_trans bb1.size ?_; simp)) gr2; obtain ⟨cf2, ff2⟩ := bcellB bb2; have dB2 := fun o => cf2 w.heap.size o (by omega); have z2 := bb2.size; clear cf2 ff2) | fail)
    all_goals
     go_wp2_with (at_builtin; refine list_app_reads peRow rfl (.tmp 32) (.tmp 35) rfl W6.heap.size _ (0 + 1) ([] ++ peV p) rfl o2 _ 0 [] rfl ⟨rfl, Nat.zero_le _, Or.inl ⟨rfl, _, _, rfl⟩⟩ (fun u hu => absurd hu List.not_mem_nil) (by omega) (by omega) bb2.size W6.heap.size W6 bb2 (Nat.le_refl _) ?_; intro v3 w3 o3 b3)
     go_ret
     exact ⟨_, rfl, HK.out _ _ o3, below2 HB6.out b3⟩
   | some ad =>
    clear h3
    by_cases hck : ca = l.length
    ·subst hck
     go_upto_region 4 with fail
     have K6 := peIn_box HP6.out
     obtain ⟨x0, x1, x2, x3, x4, x5, x6, x7, x8, x9⟩ := K6
     simp only [Nat.zero_add] at x0 x1 x2 x3 x4 x5 x6 x7 x8 x9
     have hPl := HP6.out.lt
     have RT := zh (Reads.below HR.out HB6.out)
     have key : ∀ (W8 : World) (v8 : Value), W8.ownsRow W6.heap.size 52 10 v8 (l.length + 1 + 0) (l.flatMap peV ++ peV p ++ []) → ReadsL peV 10 W8 v8 (putT l p) := fun W8 v8 ho => by
      unfold ReadsL putT insL
      rw [HI.out, List.take_length, List.drop_length, show (l ++ [p]).length = l.length + 1 + 0 by simp, List.flatMap_append, show [p].flatMap peV = peV p ++ [] by simp, ← List.append_assoc]
      exact owns_reads ho
     have HK := zh key
     clear key
     have q4 : (l.length : Int) ≤ (l.length : Int) := by omega
     go_region_held3 (fun w' => w'.cell? ⟨w.heap.size, 0, none⟩ = some (.bool p.en.ad.v6) ∧ w'.cell? ⟨w.heap.size, 1, none⟩ = some (.int .u64 p.en.ad.hi) ∧ w'.cell? ⟨w.heap.size, 2, none⟩ = some (.int .u64 p.en.ad.lo) ∧ w'.cell? ⟨w.heap.size, 3, none⟩ = some (.int .i64 p.en.port) ∧ w'.cell? ⟨w.heap.size, 4, none⟩ = some (.bool p.came) ∧ w'.cell? ⟨w.heap.size, 5, none⟩ = some (.int .i64 p.since) ∧ w'.cell? ⟨w.heap.size, 6, none⟩ = some (.int .i64 p.pts) ∧ w'.cell? ⟨w.heap.size, 7, none⟩ = some (.int .i64 p.at_) ∧ w'.cell? ⟨w.heap.size, 8, none⟩ = some (.int .i64 p.ping) ∧ w'.cell? ⟨w.heap.size, 9, none⟩ = some (.int .i64 p.work)) (first | go_keep | (simp (disch := omega) [*])) (first | (refine step_app_reads_g peRow (by rfl) (.tmp 24) (.tmp 27) (by rfl) W6.heap.size (.slice (some ⟨W6.heap.size, 0, none⟩) 0 0) (0) ([]) (by rfl) (by (repeat (first | ((with_reducible refine own_made ?_ ?_); (first | rfl | simp); (first | exact Nat.le_refl _ | simp)) | (with_reducible refine World.ownsRow.alloc ?_ _) | (with_reducible refine World.ownsRow.drew ?_))); done) _ (l.length) (l.flatMap peV) (by rfl) (Reads.below RT.out (by exact bel)) (peV_ones _) (by omega) (by omega) (by first | omega | (simp; done) | (simp; omega) | (simp at *; omega)) ?_; intro v1 w1 o1 gr1; have bb1 : Below W6.heap.size W6 w1 := below_grown (base := W6.heap.size) (e := 52) (size := 10) (v := (.slice (some ⟨W6.heap.size, 0, none⟩) 0 0)) (n := 0) (xs := []) (by (repeat (first | ((with_reducible refine own_made ?_ ?_); (first | rfl | simp); (first | exact Nat.le_refl _ | simp)) | (with_reducible refine World.ownsRow.alloc ?_ _) | (with_reducible refine World.ownsRow.drew ?_))); done) (by exact bel) (Nat.le_refl _) (by first | omega | (simp; done) | (simp; omega) | (simp at *; omega)) gr1; simp only [Nat.zero_add, List.nil_append] at o1; obtain ⟨cf1, ff1⟩ := bcellB bb1; have dB1 := fun o => cf1 w.heap.size o (by omega); have z1 := bb1.size; clear cf1 ff1) | (refine step_app_reads_g peRow (by rfl) (.tmp 24) (.tmp 27) (by rfl) W6.heap.size (.slice (some ⟨W6.heap.size + 1, 0, none⟩) 0 0) (0) ([]) (by rfl) (by (repeat (first | ((with_reducible refine own_made ?_ ?_); (first | rfl | simp); (first | exact Nat.le_refl _ | simp)) | (with_reducible refine World.ownsRow.alloc ?_ _) | (with_reducible refine World.ownsRow.drew ?_))); done) _ (l.length) (l.flatMap peV) (by rfl) (Reads.below RT.out (by exact bel)) (peV_ones _) (by omega) (by omega) (by first | omega | (simp; done) | (simp; omega) | (simp at *; omega)) ?_; intro v1 w1 o1 gr1; have bb1 : Below W6.heap.size W6 w1 := below_grown (base := W6.heap.size) (e := 52) (size := 10) (v := (.slice (some ⟨W6.heap.size + 1, 0, none⟩) 0 0)) (n := 0) (xs := []) (by (repeat (first | ((with_reducible refine own_made ?_ ?_); (first | rfl | simp); (first | exact Nat.le_refl _ | simp)) | (with_reducible refine World.ownsRow.alloc ?_ _) | (with_reducible refine World.ownsRow.drew ?_))); done) (by exact bel) (Nat.le_refl _) (by first | omega | (simp; done) | (simp; omega) | (simp at *; omega)) gr1; simp only [Nat.zero_add, List.nil_append] at o1; obtain ⟨cf1, ff1⟩ := bcellB bb1; have dB1 := fun o => cf1 w.heap.size o (by omega); have z1 := bb1.size; clear cf1 ff1) | (refine step_app_reads_g peRow (by rfl) (.tmp 28) (.tmp 30) (by rfl) W6.heap.size v1 (l.length) (l.flatMap peV) (by rfl) (by (repeat (first | (with_reducible exact o1) | (with_reducible refine World.ownsRow.alloc ?_ _) | (with_reducible refine World.ownsRow.drew ?_))); done) _ (1) (peV p) (by rfl) (reads_blk (B := w1.heap.size) (T := 52) (by (repeat (first | (with_reducible refine BlockIs.drew' ?_) | ((refine BlockIs.newAt' _ _ _ ?_); (first | rfl | (simp; done))) | ((with_reducible refine blk_grown ?_ gr1 ?_); rotate_left; (simp [Value.ownBlock] <;> omega)) |  (with_reducible refine BlockIs.alloc' ?_ _))); done) rfl (Nat.succ_pos 9)) (peV_one1 _) (by omega) (by omega) (by first | exact bb1.size | (refine Nat.le_trans bb1.size ?_; simp)) ?_; intro v2 w2 o2 gr2; have bb2 : Below W6.heap.size W6 w2 := below_grown (base := W6.heap.size) (e := 52) (size := 10) (v := v1) (n := l.length) (xs := l.flatMap peV) (by (repeat (first | (with_reducible exact o1) | (with_reducible refine World.ownsRow.alloc ?_ _) | (with_reducible refine World.ownsRow.drew ?_))); done) (by first | exact bb1 | exact bb1.drew | exact Below.alloc bb1 bb1.size _ | exact (Below.alloc bb1 bb1.size _).drew) (Nat.le_refl _) (by first | exact bb1.size | (refine Nat.le_trans bb1.size ?_; simp)) gr2; obtain ⟨cf2, ff2⟩ := bcellB bb2; have dB2 := fun o => cf2 w.heap.size o (by omega); have z2 := bb2.size; clear cf2 ff2) | (refine step_app_reads_g peRow (by rfl) (.tmp 28) (.tmp 30) (by rfl) W6.heap.size v1 (l.length) (l.flatMap peV) (by rfl) (by (repeat (first | (with_reducible exact o1) | (with_reducible refine World.ownsRow.alloc ?_ _) | (with_reducible refine World.ownsRow.drew ?_))); done) _ (1) (peV p) (by rfl) (reads_blk (B := (W6.heap.size + 1)) (T := 52) (by (repeat (first | (with_reducible refine BlockIs.drew' ?_) | ((refine BlockIs.newAt' _ _ _ ?_); (first | rfl | (simp; done))) | ((with_reducible refine blk_grown ?_ gr1 ?_); rotate_left; (simp [Value.ownBlock] <;> omega)) |  (with_reducible refine BlockIs.alloc' ?_ _))); done) rfl (Nat.succ_pos 9)) (peV_one1 _) (by omega) (by omega) (by first | exact bb1.size | (refine Nat.le_trans bb1.size ?_; simp)) ?_; intro v2 w2 o2 gr2; have bb2 : Below W6.heap.size W6 w2 := below_grown (base := W6.heap.size) (e := 52) (size := 10) (v := v1) (n := l.length) (xs := l.flatMap peV) (by (repeat (first | (with_reducible exact o1) | (with_reducible refine World.ownsRow.alloc ?_ _) | (with_reducible refine World.ownsRow.drew ?_))); done) (by first | exact bb1 | exact bb1.drew | exact Below.alloc bb1 bb1.size _ | exact (Below.alloc bb1 bb1.size _).drew) (Nat.le_refl _) (by first | exact bb1.size | (refine Nat.le_trans bb1.size ?_; simp)) gr2; obtain ⟨cf2, ff2⟩ := bcellB bb2; have dB2 := fun o => cf2 w.heap.size o (by omega); have z2 := bb2.size; clear cf2 ff2) | (refine step_app_reads_g peRow (by rfl) (.tmp 28) (.tmp 30) (by rfl) W6.heap.size v1 (l.length) (l.flatMap peV) (by rfl) (by (repeat (first | (with_reducible exact o1) | (with_reducible refine World.ownsRow.alloc ?_ _) | (with_reducible refine World.ownsRow.drew ?_))); done) _ (1) (peV p) (by rfl) (reads_blk (B := W6.heap.size) (T := 52) (by (repeat (first | (with_reducible refine BlockIs.drew' ?_) | ((refine BlockIs.newAt' _ _ _ ?_); (first | rfl | (simp; done))) | ((with_reducible refine blk_grown ?_ gr1 ?_); rotate_left; (simp [Value.ownBlock] <;> omega)) |  (with_reducible refine BlockIs.alloc' ?_ _))); done) rfl (Nat.succ_pos 9)) (peV_one1 _) (by omega) (by omega) (by first | exact bb1.size | (refine Nat.le_trans bb1.size ?_; simp)) ?_; intro v2 w2 o2 gr2; have bb2 : Below W6.heap.size W6 w2 := below_grown (base := W6.heap.size) (e := 52) (size := 10) (v := v1) (n := l.length) (xs := l.flatMap peV) (by (repeat (first | (with_reducible exact o1) | (with_reducible refine World.ownsRow.alloc ?_ _) | (with_reducible refine World.ownsRow.drew ?_))); done) (by first | exact bb1 | exact bb1.drew | exact Below.alloc bb1 bb1.size _ | exact (Below.alloc bb1 bb1.size _).drew) (Nat.le_refl _) (by first | exact bb1.size | (refine Nat.le_trans bb1.size ?_; simp)) gr2; obtain ⟨cf2, ff2⟩ := bcellB bb2; have dB2 := fun o => cf2 w.heap.size o (by omega); have z2 := bb2.size; clear cf2 ff2) | fail)
     all_goals
      go_wp2_with (at_builtin; refine list_app_reads peRow rfl (.tmp 32) (.tmp 35) rfl W6.heap.size _ (l.length + 1) (l.flatMap peV ++ peV p) rfl o2 _ 0 [] rfl ⟨rfl, Nat.zero_le _, Or.inl ⟨rfl, _, _, rfl⟩⟩ (fun u hu => absurd hu List.not_mem_nil) (by omega) (by omega) bb2.size W6.heap.size W6 bb2 (Nat.le_refl _) ?_; intro v3 w3 o3 b3)
      go_ret
      exact ⟨_, rfl, HK.out _ _ o3, below2 HB6.out b3⟩
    ·have hckz : ¬ (ca : Int) = (l.length : Int) := by omega
     go_upto_region 4 with fail
     have K6 := peIn_box HP6.out
     obtain ⟨x0, x1, x2, x3, x4, x5, x6, x7, x8, x9⟩ := K6
     simp only [Nat.zero_add] at x0 x1 x2 x3 x4 x5 x6 x7 x8 x9
     have hPl := HP6.out.lt
     have RT := zh (Reads.below HR.out HB6.out)
     have key : ∀ (W8 : World) (v8 : Value), W8.ownsRow W6.heap.size 52 10 v8 (l.length + 1 + 0) (l.flatMap peV ++ peV p ++ []) → ReadsL peV 10 W8 v8 (putT l p) := fun W8 v8 ho => by
      unfold ReadsL putT insL
      rw [HI.out, List.take_length, List.drop_length, show (l ++ [p]).length = l.length + 1 + 0 by simp, List.flatMap_append, show [p].flatMap peV = peV p ++ [] by simp, ← List.append_assoc]
      exact owns_reads ho
     have HK := zh key
     clear key
     have q4 : (l.length : Int) ≤ (ca : Int) := by omega
     go_region_held3 (fun w' => w'.cell? ⟨w.heap.size, 0, none⟩ = some (.bool p.en.ad.v6) ∧ w'.cell? ⟨w.heap.size, 1, none⟩ = some (.int .u64 p.en.ad.hi) ∧ w'.cell? ⟨w.heap.size, 2, none⟩ = some (.int .u64 p.en.ad.lo) ∧ w'.cell? ⟨w.heap.size, 3, none⟩ = some (.int .i64 p.en.port) ∧ w'.cell? ⟨w.heap.size, 4, none⟩ = some (.bool p.came) ∧ w'.cell? ⟨w.heap.size, 5, none⟩ = some (.int .i64 p.since) ∧ w'.cell? ⟨w.heap.size, 6, none⟩ = some (.int .i64 p.pts) ∧ w'.cell? ⟨w.heap.size, 7, none⟩ = some (.int .i64 p.at_) ∧ w'.cell? ⟨w.heap.size, 8, none⟩ = some (.int .i64 p.ping) ∧ w'.cell? ⟨w.heap.size, 9, none⟩ = some (.int .i64 p.work)) (first | go_keep | (simp (disch := omega) [*])) (first | (refine step_app_reads_g peRow (by rfl) (.tmp 24) (.tmp 27) (by rfl) W6.heap.size (.slice (some ⟨W6.heap.size, 0, none⟩) 0 0) (0) ([]) (by rfl) (by (repeat (first | ((with_reducible refine own_made ?_ ?_); (first | rfl | simp); (first | exact Nat.le_refl _ | simp)) | (with_reducible refine World.ownsRow.alloc ?_ _) | (with_reducible refine World.ownsRow.drew ?_))); done) _ (l.length) (l.flatMap peV) (by rfl) (Reads.below RT.out (by exact bel)) (peV_ones _) (by omega) (by omega) (by first | omega | (simp; done) | (simp; omega) | (simp at *; omega)) ?_; intro v1 w1 o1 gr1; have bb1 : Below W6.heap.size W6 w1 := below_grown (base := W6.heap.size) (e := 52) (size := 10) (v := (.slice (some ⟨W6.heap.size, 0, none⟩) 0 0)) (n := 0) (xs := []) (by (repeat (first | ((with_reducible refine own_made ?_ ?_); (first | rfl | simp); (first | exact Nat.le_refl _ | simp)) | (with_reducible refine World.ownsRow.alloc ?_ _) | (with_reducible refine World.ownsRow.drew ?_))); done) (by exact bel) (Nat.le_refl _) (by first | omega | (simp; done) | (simp; omega) | (simp at *; omega)) gr1; simp only [Nat.zero_add, List.nil_append] at o1; obtain ⟨cf1, ff1⟩ := bcellB bb1; have dB1 := fun o => cf1 w.heap.size o (by omega); have z1 := bb1.size; clear cf1 ff1) | (refine step_app_reads_g peRow (by rfl) (.tmp 24) (.tmp 27) (by rfl) W6.heap.size (.slice (some ⟨W6.heap.size + 1, 0, none⟩) 0 0) (0) ([]) (by rfl) (by (repeat (first | ((with_reducible refine own_made ?_ ?_); (first | rfl | simp); (first | exact Nat.le_refl _ | simp)) | (with_reducible refine World.ownsRow.alloc ?_ _) | (with_reducible refine World.ownsRow.drew ?_))); done) _ (l.length) (l.flatMap peV) (by rfl) (Reads.below RT.out (by exact bel)) (peV_ones _) (by omega) (by omega) (by first | omega | (simp; done) | (simp; omega) | (simp at *; omega)) ?_; intro v1 w1 o1 gr1; have bb1 : Below W6.heap.size W6 w1 := below_grown (base := W6.heap.size) (e := 52) (size := 10) (v := (.slice (some ⟨W6.heap.size + 1, 0, none⟩) 0 0)) (n := 0) (xs := []) (by (repeat (first | ((with_reducible refine own_made ?_ ?_); (first | rfl | simp); (first | exact Nat.le_refl _ | simp)) | (with_reducible refine World.ownsRow.alloc ?_ _) | (with_reducible refine World.ownsRow.drew ?_))); done) (by exact bel) (Nat.le_refl _) (by first | omega | (simp; done) | (simp; omega) | (simp at *; omega)) gr1; simp only [Nat.zero_add, List.nil_append] at o1; obtain ⟨cf1, ff1⟩ := bcellB bb1; have dB1 := fun o => cf1 w.heap.size o (by omega); have z1 := bb1.size; clear cf1 ff1) | (refine step_app_reads_g peRow (by rfl) (.tmp 28) (.tmp 30) (by rfl) W6.heap.size v1 (l.length) (l.flatMap peV) (by rfl) (by (repeat (first | (with_reducible exact o1) | (with_reducible refine World.ownsRow.alloc ?_ _) | (with_reducible refine World.ownsRow.drew ?_))); done) _ (1) (peV p) (by rfl) (reads_blk (B := w1.heap.size) (T := 52) (by (repeat (first | (with_reducible refine BlockIs.drew' ?_) | ((refine BlockIs.newAt' _ _ _ ?_); (first | rfl | (simp; done))) | ((with_reducible refine blk_grown ?_ gr1 ?_); rotate_left; (simp [Value.ownBlock] <;> omega)) |  (with_reducible refine BlockIs.alloc' ?_ _))); done) rfl (Nat.succ_pos 9)) (peV_one1 _) (by omega) (by omega) (by first | exact bb1.size | (refine Nat.le_trans bb1.size ?_; simp)) ?_; intro v2 w2 o2 gr2; have bb2 : Below W6.heap.size W6 w2 := below_grown (base := W6.heap.size) (e := 52) (size := 10) (v := v1) (n := l.length) (xs := l.flatMap peV) (by (repeat (first | (with_reducible exact o1) | (with_reducible refine World.ownsRow.alloc ?_ _) | (with_reducible refine World.ownsRow.drew ?_))); done) (by first | exact bb1 | exact bb1.drew | exact Below.alloc bb1 bb1.size _ | exact (Below.alloc bb1 bb1.size _).drew) (Nat.le_refl _) (by first | exact bb1.size | (refine Nat.le_trans bb1.size ?_; simp)) gr2; obtain ⟨cf2, ff2⟩ := bcellB bb2; have dB2 := fun o => cf2 w.heap.size o (by omega); have z2 := bb2.size; clear cf2 ff2) | (refine step_app_reads_g peRow (by rfl) (.tmp 28) (.tmp 30) (by rfl) W6.heap.size v1 (l.length) (l.flatMap peV) (by rfl) (by (repeat (first | (with_reducible exact o1) | (with_reducible refine World.ownsRow.alloc ?_ _) | (with_reducible refine World.ownsRow.drew ?_))); done) _ (1) (peV p) (by rfl) (reads_blk (B := (W6.heap.size + 1)) (T := 52) (by (repeat (first | (with_reducible refine BlockIs.drew' ?_) | ((refine BlockIs.newAt' _ _ _ ?_); (first | rfl | (simp; done))) | ((with_reducible refine blk_grown ?_ gr1 ?_); rotate_left; (simp [Value.ownBlock] <;> omega)) |  (with_reducible refine BlockIs.alloc' ?_ _))); done) rfl (Nat.succ_pos 9)) (peV_one1 _) (by omega) (by omega) (by first | exact bb1.size | (refine Nat.le_trans bb1.size ?_; simp)) ?_; intro v2 w2 o2 gr2; have bb2 : Below W6.heap.size W6 w2 := below_grown (base := W6.heap.size) (e := 52) (size := 10) (v := v1) (n := l.length) (xs := l.flatMap peV) (by (repeat (first | (with_reducible exact o1) | (with_reducible refine World.ownsRow.alloc ?_ _) | (with_reducible refine World.ownsRow.drew ?_))); done) (by first | exact bb1 | exact bb1.drew | exact Below.alloc bb1 bb1.size _ | exact (Below.alloc bb1 bb1.size _).drew) (Nat.le_refl _) (by first | exact bb1.size | (refine Nat.le_trans bb1.size ?_; simp)) gr2; obtain ⟨cf2, ff2⟩ := bcellB bb2; have dB2 := fun o => cf2 w.heap.size o (by omega); have z2 := bb2.size; clear cf2 ff2) | (refine step_app_reads_g peRow (by rfl) (.tmp 28) (.tmp 30) (by rfl) W6.heap.size v1 (l.length) (l.flatMap peV) (by rfl) (by (repeat (first | (with_reducible exact o1) | (with_reducible refine World.ownsRow.alloc ?_ _) | (with_reducible refine World.ownsRow.drew ?_))); done) _ (1) (peV p) (by rfl) (reads_blk (B := W6.heap.size) (T := 52) (by (repeat (first | (with_reducible refine BlockIs.drew' ?_) | ((refine BlockIs.newAt' _ _ _ ?_); (first | rfl | (simp; done))) | ((with_reducible refine blk_grown ?_ gr1 ?_); rotate_left; (simp [Value.ownBlock] <;> omega)) |  (with_reducible refine BlockIs.alloc' ?_ _))); done) rfl (Nat.succ_pos 9)) (peV_one1 _) (by omega) (by omega) (by first | exact bb1.size | (refine Nat.le_trans bb1.size ?_; simp)) ?_; intro v2 w2 o2 gr2; have bb2 : Below W6.heap.size W6 w2 := below_grown (base := W6.heap.size) (e := 52) (size := 10) (v := v1) (n := l.length) (xs := l.flatMap peV) (by (repeat (first | (with_reducible exact o1) | (with_reducible refine World.ownsRow.alloc ?_ _) | (with_reducible refine World.ownsRow.drew ?_))); done) (by first | exact bb1 | exact bb1.drew | exact Below.alloc bb1 bb1.size _ | exact (Below.alloc bb1 bb1.size _).drew) (Nat.le_refl _) (by first | exact bb1.size | (refine Nat.le_trans bb1.size ?_; simp)) gr2; obtain ⟨cf2, ff2⟩ := bcellB bb2; have dB2 := fun o => cf2 w.heap.size o (by omega); have z2 := bb2.size; clear cf2 ff2) | fail)
     all_goals
      go_wp2_with (at_builtin; refine list_app_reads peRow rfl (.tmp 32) (.tmp 35) rfl W6.heap.size _ (l.length + 1) (l.flatMap peV ++ peV p) rfl o2 _ 0 [] rfl ⟨rfl, Nat.zero_le _, Or.inl ⟨rfl, _, _, rfl⟩⟩ (fun u hu => absurd hu List.not_mem_nil) (by omega) (by omega) bb2.size W6.heap.size W6 bb2 (Nat.le_refl _) ?_; intro v3 w3 o3 b3)
      go_ret
      exact ⟨_, rfl, HK.out _ _ o3, below2 HB6.out b3⟩
theorem putT_len (l : List Pe) (p : Pe) : (putT l p).length = l.length + 1 := by
 unfold putT insL
 simp only [List.length_append, List.length_take, List.length_cons, List.length_drop]
 omega
/-- peers put one by one -/
def pstL (l : List Pe) : List Pe := l.foldl putT []
theorem pst_len : ∀ (l a : List Pe), (l.foldl putT a).length = a.length + l.length
 | [], a => rfl
 | p :: r, a => by rw [List.foldl_cons, pst_len r, putT_len, List.length_cons]; omega
theorem pstL_len (l : List Pe) : (pstL l).length = l.length := by unfold pstL; rw [pst_len]; simp
theorem pstL_snoc (l : List Pe) (x : Pe) : pstL (l ++ [x]) = putT (pstL l) x := by unfold pstL; rw [List.foldl_append]; rfl
set_option maxHeartbeats 4000000 in
theorem refTsorted_any (v : Value) (l : List Pe) (w : World) (h : ReadsL peV 10 w v l) (hl : l.length ≤ 1000000) :
  Calls Tryz.prog 81 #[v] w fun e w' => ∃ r, e = .returned r ∧ ReadsL peV 10 w' r (pstL l) ∧ Below w.heap.size w w' := by
 obtain ⟨hm, a0, c, rfl, h3⟩ := pes_open h
 clear h
 have HMade := zh (fun (e : TypeId) => owns_readsL (f := peV) (n := 10) (l := []) (own_made (w := w) (base := w.heap.size) (g := w.heap.size) (size := 10) (e := e) rfl (Nat.le_refl _)))
 go_enter Tryz.func81, Tryz.ntmps81
 go_wp2_with fail
 go_loopw [3, 4] (fun u' i' wr => ∃ k : Nat, k ≤ l.length ∧ i' = .int .i64 k ∧ Hid (ReadsL peV 10 wr u' (pstL (l.take k))) ∧ Hid (Below w.heap.size w wr)) (fun _ i' _ => l.length - (intOf i').toNat)
 case atStart => exact ⟨0, by omega, rfl, HMade.out _, (Below.refl _ _).alloc (Nat.le_refl _) _⟩
 case round =>
  clear HMade
  obtain ⟨k, hk, rfl, HU, HB⟩ := hrel
  by_cases hlt : k < l.length
  ·obtain ⟨x, hx⟩ : ∃ x, l[k]? = some x := ⟨_, List.getElem?_eq_getElem hlt⟩
   obtain ⟨b, o, rfl, h4, h5, h6⟩ := h3 (by omega)
   have K := (h6 k x hx).below HB.out h5
   have q1 : (0 : Int) ≤ (k : Int) := by omega
   have q2 : (k : Int) < (l.length : Int) := by omega
   have hS := pstL_snoc (l.take k) x
   rw [← show l.take (k + 1) = l.take k ++ [x] by rw [List.take_add_one, hx, Option.toList_some]] at hS
   have HS := zh hS
   have HPt := zh (refPutT_any _ _ x wr HU.out (by rw [pstL_len, List.length_take]; omega))
   obtain ⟨k0, k1, k2, k3, k4, k5, k6, k7, k8, k9⟩ := K
   clear hx h6 hS
   go_wp2_with (go_at_call 102; (with_reducible refine HPt.out.mono ?_); rintro e w5 ⟨r5, rfl, h5r, b5⟩)
   rw [← HS.out] at h5r
   go_roundw
   case rel => exact ⟨k + 1, by omega, by go_num, h5r, below2 HB.out b5⟩
   case measure => simp [intOf]; omega
  ·obtain rfl : k = l.length := by omega
   have HF : Hid (l.take l.length = l) := List.take_length
   go_wp2_with fail
   go_ret
   exact ⟨_, rfl, by have := HU.out; rwa [HF.out] at this, HB.out⟩
end Go.Proofs.YtnplgagaoeckoaaGreat
namespace Go.Proofs.YtnplgagaoeckoaaGreat
open Go.Lib Go.Sort
theorem anti_en (a b : En) : enCmp a b < 0 ↔ 0 < enCmp b a := by
 have h := cmp_en.neg a b
 omega
theorem sput_put (p : Pe) : ∀ l : List Pe, sput (ltOf fun a b : Pe => enCmp a.en b.en) p l = putT l p
 | [] => rfl
 | y :: r => by
  have ih := sput_put p r
  unfold sput
  by_cases h : 0 < enCmp y.en p.en
  ·have h' : ltOf (fun a b : Pe => enCmp a.en b.en) p y = true := decide_eq_true ((anti_en _ _).2 h)
   rw [if_pos h']
   unfold putT putI insL
   rw [List.findIdx?_cons, if_pos (decide_eq_true h)]
   rfl
  ·have h' : ¬ ltOf (fun a b : Pe => enCmp a.en b.en) p y = true := fun e => h ((anti_en _ _).1 (of_decide_eq_true e))
   rw [if_neg h', ih]
   unfold putT putI insL
   rw [List.findIdx?_cons, if_neg (by simpa using h)]
   cases r.findIdx? (fun x => decide (0 < enCmp x.en p.en)) <;> simp
theorem ssort_pst : ∀ (l a : List Pe), l.foldl (fun o x => sput (ltOf fun a b : Pe => enCmp a.en b.en) x o) a = l.foldl putT a
 | [], _ => rfl
 | x :: r, a => by rw [List.foldl_cons, List.foldl_cons, sput_put, ssort_pst r]
theorem wo_en : WO (ltOf fun a b : Pe => enCmp a.en b.en) := wo_of (cmp_on cmp_en Pe.en)
theorem srtL_is (l : List Pe) : srtL l = pstL l := by
 unfold srtL
 rw [stableA_is wo_en]
 exact ssort_pst l []
theorem srtL_len (l : List Pe) : (srtL l).length = l.length := by rw [srtL_is, pstL_len]
end Go.Proofs.YtnplgagaoeckoaaGreat
namespace Go.Proofs.YtnplgagaoeckoaaGreat
open Go.RowKit Go.Lib
theorem insSort_noneP (a : Option Addr) (c : Nat) (fv : Value) (w : World) : Calls Tryz.prog 125 #[.slice a 0 c, .int .i64 0, .int .i64 0, fv] w fun e w' => e = .returned (.tuple #[]) ∧ w = w' := by
 go_enter Tryz.func125, Tryz.ntmps125
 go_wp2_with fail
 refine wp_loop_rounds 1 ?_
 rw [rounds_succ]
 go_wp2_with fail
 go_end0
 exact ⟨rfl, rfl⟩
theorem stable_noneP (a : Option Addr) (c : Nat) (fv : Value) (w : World) : Calls Tryz.prog 114 #[.slice a 0 c, .int .i64 0, fv] w fun e w' => e = .returned (.tuple #[]) ∧ w = w' := by
 go_enter Tryz.func114, Tryz.ntmps114
 go_wp2_with fail
 refine wp_loop_rounds 1 ?_
 rw [rounds_succ]
 go_wp2_with (go_at_call 125; refine (insSort_noneP _ _ _ _).mono ?_; rintro e w2 ⟨rfl, rfl⟩)
 refine wp_loop_rounds 1 ?_
 rw [rounds_succ]
 go_wp2_with fail
 go_end0
 exact ⟨rfl, rfl⟩
theorem sortStable_noneP (a : Option Addr) (c : Nat) (fv : Value) (w : World) : Calls Tryz.prog 100 #[.slice a 0 c, fv] w fun e w' => e = .returned (.tuple #[]) ∧ w = w' := by
 go_enter Tryz.func100, Tryz.ntmps100
 go_wp2_with (go_at_call 114; refine (stable_noneP _ _ _ _).mono ?_; rintro e w2 ⟨rfl, rfl⟩)
 go_end0
 exact ⟨rfl, rfl⟩
set_option maxHeartbeats 4000000 in
theorem sorted_none (v : Value) (w : World) (h : ReadsL peV 10 w v []) :
  Calls Tryz.prog 79 #[v] w fun e w' => ∃ r, e = .returned r ∧ ReadsL peV 10 w' r [] ∧ Below w.heap.size w w' := by
 have HCl := zh (clonePe v [] w h (by simp))
 clear h
 go_enter Tryz.func79, Tryz.ntmps79
 go_wp2_with (first
  | (go_at_call 99; (with_reducible refine HCl.out.mono ?_); rintro e w1 ⟨r1, rfl, o1, b1, k1⟩; obtain ⟨a1, c1, rfl⟩ := owns_slice o1)
  | (go_at_call 100; (refine (sortStable_noneP _ _ _ _).mono ?_); rintro e w2 ⟨rfl, rfl⟩))
 go_ret
 exact ⟨_, rfl, owns_readsL (l := []) o1, b1⟩
end Go.Proofs.YtnplgagaoeckoaaGreat
namespace Go.Proofs.YtnplgagaoeckoaaGreat
open Go.RowKit
theorem nmw2 {P : Program} {c : Code} {Q : Exit → Act → World → Prop} {a : Act} {w : World} {c0 c1 : List Value} {T0 T1 : TypeId} (h : ∀ W : World, Below w.heap.size w W → BlockIs W w.heap.size c0 T0 → BlockIs W (w.heap.size + 1) c1 T1 → W.heap.size = w.heap.size + 1 + 1 → c.wp P Q a W) : c.wp P Q a ((w.alloc (.cells c0.toArray T0)).alloc (.cells c1.toArray T1)) :=
 h _ (((Below.refl _ _).alloc (Nat.le_refl _) _).alloc (by simp) _) ((BlockIs.new _ _ _).alloc' _) (BlockIs.newAt' _ _ _ (by simp)) (by simp)
theorem nmw1 {P : Program} {c : Code} {Q : Exit → Act → World → Prop} {a : Act} {w : World} {c0 : List Value} {T0 : TypeId} (h : ∀ W : World, Below w.heap.size w W → BlockIs W w.heap.size c0 T0 → W.heap.size = w.heap.size + 1 → c.wp P Q a W) : c.wp P Q a (w.alloc (.cells c0.toArray T0)) :=
 h _ ((Below.refl _ _).alloc (Nat.le_refl _) _) (BlockIs.new _ _ _) (by simp)
theorem nmw4 {P : Program} {c : Code} {Q : Exit → Act → World → Prop} {a : Act} {w : World} {c0 c1 c2 c3 : List Value} {T0 T1 T2 T3 : TypeId} (h : ∀ W : World, Below w.heap.size w W → BlockIs W w.heap.size c0 T0 → BlockIs W (w.heap.size + 1) c1 T1 → BlockIs W (w.heap.size + 1 + 1) c2 T2 → BlockIs W (w.heap.size + 1 + 1 + 1) c3 T3 → W.heap.size = w.heap.size + 1 + 1 + 1 + 1 → c.wp P Q a W) : c.wp P Q a ((((w.alloc (.cells c0.toArray T0)).alloc (.cells c1.toArray T1)).alloc (.cells c2.toArray T2)).alloc (.cells c3.toArray T3)) :=
 h _ (((((Below.refl _ _).alloc (Nat.le_refl _) _).alloc (by simp) _).alloc (by simp; omega) _).alloc (by simp; omega) _) ((((BlockIs.new _ _ _).alloc' _).alloc' _).alloc' _) (((BlockIs.newAt' _ _ _ (by simp)).alloc' _).alloc' _) ((BlockIs.newAt' _ _ _ (by simp)).alloc' _) (BlockIs.newAt' _ _ _ (by simp)) (by simp)
section
variable {P : Program} {ops : Array Oper} {rest : List Oper} {o : Oper} {a : Act} {w : World} {Q : Exit → Act → World → Prop}
theorem list_skipM (hw : Region.wanted o (yielded ops a.tmps) = false) (h : wpList P ops Q rest (a.put o.dst undef) w) : wpList P ops Q (o :: rest) a w :=
 wpList_step fun K hK => by rw [if_neg (by rw [hw]; decide)]; exact hK _ _ h
end
end Go.Proofs.YtnplgagaoeckoaaGreat
