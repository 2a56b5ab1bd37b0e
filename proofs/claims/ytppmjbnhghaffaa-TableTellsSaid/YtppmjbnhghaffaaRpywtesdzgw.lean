/- Texts put together: TabC. No condition. -/
import Derived.Test.YtppmjbnhghaffaaRzqnbbcrcnh
namespace Go.Proofs.Ytppmjbnhghaffaa
open Go.RowKit Go.Lib

theorem peIn_box {w : World} {B : Nat} {p : Pe} {T : TypeId} (h : BlockIs w B (peV p) T) : PeIn w B 0 p :=
  ⟨h.cell rfl, h.cell rfl, h.cell rfl, h.cell rfl, h.cell rfl, h.cell rfl, h.cell rfl, h.cell rfl, h.cell rfl, h.cell rfl⟩
set_option maxRecDepth 100000 in
set_option maxHeartbeats 4000000 in
theorem tset_any (v : Value) (l : List Pe) (p : Pe) (w : World) (h : ReadsL peV 10 w v l) (hl : l.length ≤ 1000000) :
    Calls Try.prog 72 #[v, .agg #[.bool p.en.ad.v6, .int .u64 p.en.ad.hi, .int .u64 p.en.ad.lo, .int .i64 p.en.port, .bool p.came, .int .i64 p.since, .int .i64 p.pts, .int .i64 p.at_, .int .i64 p.ping, .int .i64 p.work]] w fun e w' => ∃ r, e = .returned r ∧ w'.ownsRow w.heap.size 66 10 r l.length ((setT l p).flatMap peV) ∧ Below w.heap.size w w' := by
  have HFd := Lib.hid (fun (W : World) (hb : Below w.heap.size w W) => tfind_any v l p.en W (ReadsL.below h hb))
  have HCl := Lib.hid (fun (W : World) (hb : Below w.heap.size w W) => clonePe v l W (ReadsL.below h hb) hl)
  have B0 : Below w.heap.size w (w.alloc (.cells #[.bool p.en.ad.v6, .int .u64 p.en.ad.hi, .int .u64 p.en.ad.lo, .int .i64 p.en.port, .bool p.came, .int .i64 p.since, .int .i64 p.pts, .int .i64 p.at_, .int .i64 p.ping, .int .i64 p.work] 66)) := by (repeat (first | with_reducible assumption | with_reducible exact Below.refl _ _ | with_reducible refine Below.setCell ?_ (by first | omega | (simp; done) | (simp; omega)) _ | with_reducible refine Below.alloc ?_ (by first | omega | (simp; done) | (simp; omega)) _ | with_reducible refine Below.drew ?_ | (with_reducible refine Below.trans ?_ (Below.mono (by with_reducible assumption) (by first | omega | (simp; done) | (simp; omega)))) | (refine Below.trans ?_ (Below.mono (by assumption) (by first | omega | (simp; done) | (simp; omega))))))
  have hBk : BlockIs (w.alloc (.cells #[.bool p.en.ad.v6, .int .u64 p.en.ad.hi, .int .u64 p.en.ad.lo, .int .i64 p.en.port, .bool p.came, .int .i64 p.since, .int .i64 p.pts, .int .i64 p.at_, .int .i64 p.ping, .int .i64 p.work] 66)) w.heap.size (peV p) 66 := BlockIs.new w (peV p) _
  have HB0 := Lib.hid B0; have HBk := Lib.hid hBk
  clear B0 h hBk
  rcases fnI_cases l (fun q => decide (q.en = p.en)) with hc | ⟨i, hc, hi⟩
  · have hc' : fdI l p.en = -1 := hc
    have hd : setT l p = l := by unfold setT; rw [hc', if_pos (by omega)]
    rw [hd]
    rw [hc'] at HFd
    clear hc hc' hd
    go_enter Try.func72, Try.ntmps72
    go_wp2_with (first
      | (go_at_call 100; (with_reducible refine (HCl.out _ HB0.out).mono ?_); rintro e w3 ⟨r3, rfl, o3, b3, k3⟩; have k := peIn_box (HBk.out.below b3); obtain ⟨x0, x1, x2, x3, x4, x5, x6, x7, x8, x9⟩ := k; simp only [Nat.zero_add] at x0 x1 x2 x3 x4 x5 x6 x7 x8 x9; have b4 := below2 HB0.out b3)
      | (go_at_call 71; (with_reducible refine (HFd.out _ b4).mono ?_); rintro e w5 ⟨rfl, b5⟩))
    go_ret
    exact ⟨_, rfl, owns_base (owns_below o3 b5) HB0.out.size, below2 b4 b5⟩
  · have hc' : fdI l p.en = i := hc
    have hd : setT l p = l.set i p := by unfold setT; rw [hc', if_neg (by omega), Int.toNat_natCast]
    rw [hd]
    rw [hc'] at HFd
    have HN : Hid (l ≠ []) := by rintro rfl; simp at hi
    have hg0 : (0 : Int) ≤ (i : Int) := by omega
    have hg1 : (i : Int) < (l.length : Int) := by omega
    have HI := Lib.hid hi
    clear hc hc' hd hi
    go_enter Try.func72, Try.ntmps72
    go_upto_region 4 with (first
      | (go_at_call 100; (with_reducible refine (HCl.out _ HB0.out).mono ?_); rintro e w3 ⟨r3, rfl, o3, b3, k3⟩; obtain ⟨g, c, rfl⟩ := k3 HN.out; have k := peIn_box (HBk.out.below b3); obtain ⟨x0, x1, x2, x3, x4, x5, x6, x7, x8, x9⟩ := k; simp only [Nat.zero_add] at x0 x1 x2 x3 x4 x5 x6 x7 x8 x9; have b4 := below2 HB0.out b3)
      | (go_at_call 71; (with_reducible refine (HFd.out _ b4).mono ?_); rintro e w5 ⟨rfl, b5⟩))
    have o5 := owns_below o3 b5
    have hB5 := (HBk.out.below b3).below b5
    have hgl := (o5.lt g rfl).2
    have hgb := (owns_blk2 o5).1
    have hne : g ≠ w.heap.size := by
      have : w.heap.size < (w.alloc (.cells #[.bool p.en.ad.v6, .int .u64 p.en.ad.hi, .int .u64 p.en.ad.lo, .int .i64 p.en.port, .bool p.came, .int .i64 p.since, .int .i64 p.pts, .int .i64 p.at_, .int .i64 p.ping, .int .i64 p.work] 66)).heap.size := by simp
      omega
    have HO := Lib.hid o5; have HB := Lib.hid (below2 b4 b5)
    obtain ⟨arr, hA⟩ := own_blk o5
    have hfz := hA.frozen
    obtain ⟨q, hq⟩ : ∃ q, l[i]? = some q := ⟨_, List.getElem?_eq_getElem HI.out⟩
    have Y := own_pe o5 hq
    obtain ⟨y0, y1, y2, y3, y4, y5, y6, y7, y8, y9⟩ := Y
    clear x0 x1 x2 x3 x4 x5 x6 x7 x8 x9
    have K := peIn_box hB5
    obtain ⟨x0, x1, x2, x3, x4, x5, x6, x7, x8, x9⟩ := K
    simp only [Nat.zero_add] at x0 x1 x2 x3 x4 x5 x6 x7 x8 x9
    have HG := Lib.hid (Nat.le_trans HB0.out.size hgb); have HL := Lib.hid hgl
    clear o3 o5 b3 b4 b5 hA hB5 hq k3 HBk hgb hgl
    go_upto_region 5 with fail
    go_name_world W6 hW6
    obtain ⟨hO6, hG6⟩ := own_setP HO.out i p HI.out
    rw [hW6] at hO6 hG6
    have HF := Lib.hid (And.intro (owns_base hO6 HB0.out.size) (below_far HB.out hG6 HG.out HL.out))
    clear hO6 hG6 hW6 x0 x1 x2 x3 x4 x5 x6 x7 x8 x9 y0 y1 y2 y3 y4 y5 y6 y7 y8 y9 hfz
    go_wp2_with fail
    go_ret
    exact ⟨_, rfl, HF.out⟩
end Go.Proofs.Ytppmjbnhghaffaa
