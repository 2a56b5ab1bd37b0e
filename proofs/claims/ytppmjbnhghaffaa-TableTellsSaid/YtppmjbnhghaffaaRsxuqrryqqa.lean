/- Texts put together: TabF. No condition. -/
import Derived.Test.YtppmjbnhghaffaaRpywtesdzgw
import Derived.Test.YtppmjbnhghaffaaRxbhweavuqn
namespace Go.Proofs.Ytppmjbnhghaffaa
open Go.RowKit Go.Lib

theorem owns_sliceP {w : World} {base n : Nat} {e : TypeId} {size : Nat} {v : Value} {xs : List Value} (h : w.ownsRow base e size v n xs) (hn : 0 < n) : ∃ g c, v = .slice (some ⟨g, 0, none⟩) n c := by
  rcases h.2 with ⟨_, h0⟩ | ⟨g, cap, _, rfl, _⟩
  · omega
  · exact ⟨_, _, rfl⟩
set_option maxRecDepth 100000 in
set_option maxHeartbeats 4000000 in
theorem refTset_any (v : Value) (l : List Pe) (p : Pe) (w : World) (h : ReadsL peV 10 w v l) (hl : l.length ≤ 1000000) :
    Calls Try.prog 73 #[v, .agg #[.bool p.en.ad.v6, .int .u64 p.en.ad.hi, .int .u64 p.en.ad.lo, .int .i64 p.en.port, .bool p.came, .int .i64 p.since, .int .i64 p.pts, .int .i64 p.at_, .int .i64 p.ping, .int .i64 p.work]] w fun e w' => ∃ r, e = .returned r ∧ ReadsL peV 10 w' r (setT l p) ∧ Below w.heap.size w w' := by
  have HFd := Lib.hid (fun (W : World) (hb : Below w.heap.size w W) => refIndex_any v l p.en W (ReadsL.below h hb))
  have B0 : Below w.heap.size w (w.alloc (.cells #[.bool p.en.ad.v6, .int .u64 p.en.ad.hi, .int .u64 p.en.ad.lo, .int .i64 p.en.port, .bool p.came, .int .i64 p.since, .int .i64 p.pts, .int .i64 p.at_, .int .i64 p.ping, .int .i64 p.work] 66)) := by (repeat (first | with_reducible assumption | with_reducible exact Below.refl _ _ | with_reducible refine Below.setCell ?_ (by first | omega | (simp; done) | (simp; omega)) _ | with_reducible refine Below.alloc ?_ (by first | omega | (simp; done) | (simp; omega)) _ | with_reducible refine Below.drew ?_ | (with_reducible refine Below.trans ?_ (Below.mono (by with_reducible assumption) (by first | omega | (simp; done) | (simp; omega)))) | (refine Below.trans ?_ (Below.mono (by assumption) (by first | omega | (simp; done) | (simp; omega))))))
  have hBk : BlockIs (w.alloc (.cells #[.bool p.en.ad.v6, .int .u64 p.en.ad.hi, .int .u64 p.en.ad.lo, .int .i64 p.en.port, .bool p.came, .int .i64 p.since, .int .i64 p.pts, .int .i64 p.at_, .int .i64 p.ping, .int .i64 p.work] 66)) w.heap.size (peV p) 66 := BlockIs.new w (peV p) _
  have HB0 := Lib.hid B0; have HBk := Lib.hid hBk
  have HV := Lib.hid h
  clear B0 h hBk
  rcases fnI_cases l (fun q => decide (q.en = p.en)) with hc | ⟨i, hc, hi⟩
  · have hc' : fdI l p.en = -1 := hc
    have hd : setT l p = l := by unfold setT; rw [hc', if_pos (by omega)]
    rw [hd]
    rw [hc'] at HFd
    clear hc hc' hd
    go_enter Try.func73, Try.ntmps73
    go_wp2_with (go_at_call 60; (with_reducible refine (HFd.out _ HB0.out).mono ?_); rintro e w5 ⟨rfl, b5⟩)
    have b6 := below2 HB0.out b5
    go_ret
    exact ⟨_, rfl, ReadsL.below HV.out b6, b6⟩
  · have hc' : fdI l p.en = i := hc
    have hd : setT l p = l.set i p := by unfold setT; rw [hc', if_neg (by omega), Int.toNat_natCast]
    rw [hd]
    rw [hc'] at HFd
    have hg0 : ¬ ((i : Int) < 0) := by omega
    have hg2 : (0 : Int) ≤ (i : Int) := by omega
    have hg1 : (i : Int) < (l.length : Int) := by omega
    have HI := Lib.hid hi
    clear hc hc' hd hi
    go_enter Try.func73, Try.ntmps73
    go_upto_region 5 with (first
      | (go_at_call 60; (with_reducible refine (HFd.out _ HB0.out).mono ?_); rintro e w5 ⟨rfl, b5⟩; have b6 := below2 HB0.out b5; have z6 := b6.size; have hBk5 := HBk.out.below b5)
      | (at_builtin; refine list_app_reads peRow rfl (.tmp 14) (.tmp 15) rfl w5.heap.size _ 0 [] rfl (own_made (e := 66) rfl (Nat.le_refl _)) _ l.length (l.flatMap peV) rfl (Reads.below HV.out (b6.alloc (by exact z6) _)) (peV_ones _) (by omega) (by omega) (by simp) w5.heap.size w5 ((Below.refl _ _).alloc (Nat.le_refl _) _) (Nat.le_refl _) ?_; intro v7 w7 o7 b7; simp only [Nat.zero_add, List.nil_append] at o7))
    obtain ⟨g, c, rfl⟩ := owns_sliceP o7 (by have := HI.out; omega)
    have hB7 := hBk5.below b7
    have hgl := (o7.lt g rfl).2
    have hgb := (owns_blk2 o7).1
    have hne : g ≠ w.heap.size := by
      have := hBk5.lt
      omega
    have HO := Lib.hid o7; have HB := Lib.hid (below2 b6 b7)
    obtain ⟨arr, hA⟩ := own_blk o7
    have hfz := hA.frozen
    obtain ⟨q, hq⟩ : ∃ q, l[i]? = some q := ⟨_, List.getElem?_eq_getElem HI.out⟩
    have Y := own_pe o7 hq
    obtain ⟨y0, y1, y2, y3, y4, y5, y6, y7, y8, y9⟩ := Y
    have K := peIn_box hB7
    obtain ⟨x0, x1, x2, x3, x4, x5, x6, x7, x8, x9⟩ := K
    simp only [Nat.zero_add] at x0 x1 x2 x3 x4 x5 x6 x7 x8 x9
    have HG := Lib.hid (Nat.le_trans z6 hgb); have HL := Lib.hid hgl
    clear o7 b5 b6 b7 hA hB7 hq hBk5 HBk hgb hgl
    go_upto_region 6 with fail
    go_name_world W6 hW6
    obtain ⟨hO6, hG6⟩ := own_setP HO.out i p HI.out
    rw [hW6] at hO6 hG6
    have hR6 : ReadsL peV 10 W6 (.slice (some ⟨g, 0, none⟩) l.length c) (l.set i p) := owns_readsL (by rw [List.length_set]; exact hO6)
    have HF := Lib.hid (And.intro hR6 (below_far HB.out hG6 HG.out HL.out))
    clear hR6
    clear hO6 hG6 hW6 x0 x1 x2 x3 x4 x5 x6 x7 x8 x9 y0 y1 y2 y3 y4 y5 y6 y7 y8 y9 hfz
    go_wp2_with fail
    go_ret
    exact ⟨_, rfl, HF.out⟩
end Go.Proofs.Ytppmjbnhghaffaa
