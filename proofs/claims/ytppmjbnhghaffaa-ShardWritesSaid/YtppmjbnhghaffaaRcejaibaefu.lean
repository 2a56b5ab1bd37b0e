/- Texts put together: ShC. No condition. -/
import Derived.Test.YtppmjbnhghaffaaRlibceagekv
import Derived.Test.YtppmjbnhghaffaaRyjgkeyybdp
import Derived.Test.YtppmjbnhghaffaaRvdesaezpuu
import Derived.Test.YtppmjbnhghaffaaRzqyryztvmm
import Derived.Test.YtppmjbnhghaffaaRxibhyvekih
namespace Go.Proofs.Ytppmjbnhghaffaa
open Go.RowKit Go.Lib

def restL (gone : List En) (l : List Pe) : List Pe := l.filter fun p => !hasE gone p.en
theorem filt_snoc (t : Pe → Bool) (l : List Pe) (k : Nat) (x : Pe) (hx : l[k]? = some x) : (l.take (k + 1)).filter t = if t x = true then (l.take k).filter t ++ [x] else (l.take k).filter t := by
  rw [List.take_add_one, hx, Option.toList_some, List.filter_append]
  by_cases h : t x = true <;> simp [h]
/-- what stands in the row when k were looked at: what stays, then what was there -/
theorem mid_set {m F : List Pe} {i k : Nat} {l : List Pe} {x : Pe} (h1 : m.take i = F) (h2 : m.drop k = l.drop k) (hx : l[k]? = some x) (hi : i ≤ k) (hm : m.length = l.length) :
    (m.set i x).take (i + 1) = F ++ [x] ∧ (m.set i x).drop (k + 1) = l.drop (k + 1) ∧ (m.set i x).length = l.length := by
  have hk := (List.getElem?_eq_some_iff.1 hx).1
  refine ⟨?_, ?_, by simpa using hm⟩
  · rw [List.take_add_one, List.take_set_of_le (Nat.le_refl _), h1, List.getElem?_set_self (by omega), Option.toList_some]
  · rw [List.drop_set_of_lt (by omega), ← List.drop_drop, ← List.drop_drop, h2]
theorem mid_skip {m : List Pe} {k : Nat} {l : List Pe} (h2 : m.drop k = l.drop k) : m.drop (k + 1) = l.drop (k + 1) := by
  rw [← List.drop_drop, ← List.drop_drop, h2]
theorem mid_at {m l : List Pe} {k : Nat} {x : Pe} (h2 : m.drop k = l.drop k) (hx : l[k]? = some x) : m[k]? = some x := by
  have := congrArg (fun z => z[0]?) h2
  simpa [List.getElem?_drop, hx] using this
theorem fnI_first {l : List Pe} {t : Pe → Bool} {i : Nat} (h : fnI l t = i) : i < l.length ∧ (l.take (i + 1)).filter (fun x => !t x) = l.take i := by
  unfold fnI at h
  cases hq : l.findIdx? t with
  | none => rw [hq] at h; simp only at h; omega
  | some q =>
    rw [hq] at h
    have e : q = i := by simp only at h; omega
    subst e
    rw [List.findIdx?_eq_some_iff_getElem] at hq
    obtain ⟨hi, h1, h2⟩ := hq
    refine ⟨hi, ?_⟩
    rw [List.take_add_one, List.getElem?_eq_getElem hi, Option.toList_some, List.filter_append]
    rw [show [l[q]].filter (fun x => !t x) = [] by simp [h1], List.append_nil, List.filter_eq_self]
    intro x hx
    obtain ⟨j, hj, rfl⟩ := List.getElem_of_mem hx
    rw [List.length_take] at hj
    have := h2 j (by omega)
    rw [List.getElem_take]
    simpa using this
set_option maxRecDepth 100000 in
set_option maxHeartbeats 8000000 in
/-- slices.DeleteFunc at peers, whatever the test, where one is hit -/
theorem peDelFunc_hit (g0 : Nat) (lb : Array Value) (t : Pe → Bool) (l : List Pe) (hl : l.length ≤ 1000000) (base g cap : Nat) (w : World) (hown : w.ownsRow base 66 10 (.slice (some ⟨g, 0, none⟩) l.length cap) l.length (l.flatMap peV)) (i : Nat) (hi : fnI l t = i)
    (hbase : base ≤ w.heap.size)
    (hp : ∀ (W : World) (x : Pe), x ∈ l → Below base w W → Calls Try.prog g0 (#[.agg #[.bool x.en.ad.v6, .int .u64 x.en.ad.hi, .int .u64 x.en.ad.lo, .int .i64 x.en.port, .bool x.came, .int .i64 x.since, .int .i64 x.pts, .int .i64 x.at_, .int .i64 x.ping, .int .i64 x.work]] ++ lb) W fun e w' => e = .returned (.bool (t x)) ∧ Below W.heap.size W w')
    (eg : ∀ args w, (callFunc g0 args).run Try.prog w = .ok (.enter g0 args) w) :
    Calls Try.prog 101 #[.slice (some ⟨g, 0, none⟩) l.length cap, .func (.func g0) #[] lb] w fun e w' =>
      ∃ r, e = .returned r ∧ w'.ownsRow base 66 10 r (l.filter fun x => !t x).length ((l.filter fun x => !t x).flatMap peV) ∧ Below base w w' := by
  obtain ⟨hil, hfi⟩ := fnI_first hi
  have HIx := Lib.hid (peIndexFunc g0 lb t _ l w (owns_readsL hown) (fun W x hx hb => (hp W x hx (hb.mono hbase)).mono fun e w' ⟨he, hb'⟩ => ⟨he, below2 hb hb'⟩) eg)
  rw [hi] at HIx
  have hbg := (owns_blk2 hown).1
  have hcap := (owns_blk2 hown).2.1
  have HO := Lib.hid hown; have HP := Lib.hid hp; have HFi := Lib.hid hfi
  have q0 : ¬ ((i : Int) = -1) := by omega
  have q0b : ((i : Int) == -1) = false := beq_eq_false_iff_ne.2 q0
  have qw : IntKind.i64.wrap ((i : Int) + 1) = (i : Int) + 1 := by rw [IntKind.wrap_i64]; omega
  clear hown hp hfi hi
  go_enter Try.func101, Try.ntmps101
  go_wp2_with (go_at_call 109; (with_reducible refine HIx.out.mono ?_); rintro e w1 ⟨rfl, b1⟩)
  have HO1 := Lib.hid (owns_below HO.out b1); have HB1 := Lib.hid (b1.mono hbase)
  clear b1 HO HIx
  go_loopw [5, 6] (fun i' j' wr => ∃ (c k : Nat) (m : List Pe), c < k ∧ k ≤ l.length ∧ i' = .int .i64 c ∧ j' = .int .i64 k ∧ Hid (m.take c = (l.take k).filter fun x => !t x) ∧ Hid (c = ((l.take k).filter fun x => !t x).length) ∧ Hid (m.drop k = l.drop k) ∧ Hid (m.length = l.length) ∧ Hid (wr.ownsRow base 66 10 (.slice (some ⟨g, 0, none⟩) l.length cap) l.length (m.flatMap peV)) ∧ Hid (Below base w wr)) (fun _ j' _ => l.length - (intOf j').toNat)
  case atStart => exact ⟨i, i + 1, l, by omega, by omega, rfl, by go_num, by show _ = _; rw [HFi.out], by show _ = _; rw [HFi.out, List.length_take]; omega, rfl, rfl, HO1.out, HB1.out⟩
  case round =>
    clear HO1 HB1 HFi
    obtain ⟨c, k, m, hck, hk, rfl, rfl, HT, HC, HD, HM, HO, HB⟩ := hrel
    by_cases hlt : k < l.length
    · obtain ⟨x, hx⟩ : ∃ x, l[k]? = some x := ⟨_, List.getElem?_eq_getElem hlt⟩
      have q1 : (0 : Int) ≤ (k : Int) := by omega
      have q2 : (k : Int) < (l.length : Int) := by omega
      have q3 : (0 : Int) ≤ (c : Int) := by omega
      have q4 : (c : Int) < (l.length : Int) := by omega
      have hgl := (HO.out.lt g rfl).2
      have hmx := mid_at HD.out hx
      have HX := Lib.hid hx
      have HMem := Lib.hid (List.mem_of_getElem? hx)
      have hFs := filt_snoc (fun x => !t x) l k x hx
      have HFs := Lib.hid hFs
      have K := own_pe HO.out hmx
      obtain ⟨k0, k1, k2, k3, k4, k5, k6, k7, k8, k9⟩ := K
      clear hx hmx hFs
      go_upto_region 8 with (refine list_store_blk rfl 66 _ _ rfl (wr.heap.size) _ _ 66 (BlockIs.newAt' _ _ _ (by simp)) rfl rfl (by kernel_rfl) rfl (by simp [Value.oneCell']) wr.heap.size wr (by (repeat (first | with_reducible assumption | with_reducible exact Below.refl _ _ | with_reducible refine Below.setCell ?_ (by first | omega | (simp; done) | (simp; omega)) _ | with_reducible refine Below.alloc ?_ (by first | omega | (simp; done) | (simp; omega)) _ | with_reducible refine Below.drew ?_ | (with_reducible refine Below.trans ?_ (Below.mono (by with_reducible assumption) (by first | omega | (simp; done) | (simp; omega)))) | (refine Below.trans ?_ (Below.mono (by assumption) (by first | omega | (simp; done) | (simp; omega))))))) (Nat.le_refl _) ?_; intro W5 hP hoth hsz b5; clear hoth; dsimp only [Act.put])
      clear k0 k1 k2 k3 k4 k5 k6 k7 k8 k9
      have HB5 := Lib.hid (HB.out.trans (b5.mono (Nat.le_trans hbase HB.out.size)))
      have HO5 := Lib.hid (owns_below HO.out b5)
      have HX5 := Lib.hid hP
      obtain ⟨X, hX⟩ : ∃ X, X = wr.heap.size := ⟨_, rfl⟩
      rw [← hX] at HX5 hP
      try rw [← hX]
      have hgX : g ≠ X := by omega
      have x0 := hP.cell (i := 0) rfl; have x1 := hP.cell (i := 1) rfl; have x2 := hP.cell (i := 2) rfl; have x3 := hP.cell (i := 3) rfl; have x4 := hP.cell (i := 4) rfl; have x5 := hP.cell (i := 5) rfl; have x6 := hP.cell (i := 6) rfl; have x7 := hP.cell (i := 7) rfl; have x8 := hP.cell (i := 8) rfl; have x9 := hP.cell (i := 9) rfl
      have HCl := Lib.hid (HP.out W5 x HMem.out HB5.out)
      clear hP b5 hsz hX hgl HO HB
      cases ht : t x with
      | true =>
        rw [ht] at HCl
        have HN : Hid ((l.take (k + 1)).filter (fun x => !t x) = (l.take k).filter fun x => !t x) := by show _ = _; rw [HFs.out, ht]; rfl
        clear ht
        go_wp2_with (go_at_fn g0; (with_reducible refine HCl.out.mono ?_); rintro e W6 ⟨rfl, b6⟩)
        have HB6 := Lib.hid (HB5.out.trans (b6.mono (Nat.le_trans hbase HB5.out.size)))
        have HO6 := Lib.hid (owns_below HO5.out b6)
        clear b6
        go_roundw
        case rel => exact ⟨c, k + 1, m, by omega, by omega, rfl, by go_num, by show _ = _; rw [HN.out]; exact HT.out, by show _ = _; rw [HN.out]; exact HC.out, mid_skip HD.out, HM.out, HO6.out, HB6.out⟩
        case measure => simp [intOf]; omega
      | false =>
        rw [ht] at HCl
        have HN : Hid ((l.take (k + 1)).filter (fun x => !t x) = (l.take k).filter (fun x => !t x) ++ [x]) := by show _ = _; rw [HFs.out, ht]; rfl
        clear ht
        go_upto_region 9 with (go_at_fn g0; (with_reducible refine HCl.out.mono ?_); rintro e W6 ⟨rfl, b6⟩)
        have hX6 := HX5.out.below b6
        have HB6 := Lib.hid (HB5.out.trans (b6.mono (Nat.le_trans hbase HB5.out.size)))
        have HO6 := Lib.hid (owns_below HO5.out b6)
        clear b6 x0 x1 x2 x3 x4 x5 x6 x7 x8 x9
        have hgl := (HO6.out.lt g rfl).2
        obtain ⟨arr, hA⟩ := own_blk HO6.out
        have hfz := hA.frozen
        have hcm : c < m.length := by have := HM.out; omega
        obtain ⟨q, hq⟩ : ∃ q, m[c]? = some q := ⟨_, List.getElem?_eq_getElem hcm⟩
        have Y := own_pe HO6.out hq
        obtain ⟨y0, y1, y2, y3, y4, y5, y6, y7, y8, y9⟩ := Y
        have x0 := hX6.cell (i := 0) rfl; have x1 := hX6.cell (i := 1) rfl; have x2 := hX6.cell (i := 2) rfl; have x3 := hX6.cell (i := 3) rfl; have x4 := hX6.cell (i := 4) rfl; have x5 := hX6.cell (i := 5) rfl; have x6 := hX6.cell (i := 6) rfl; have x7 := hX6.cell (i := 7) rfl; have x8 := hX6.cell (i := 8) rfl; have x9 := hX6.cell (i := 9) rfl
        have HCM := Lib.hid hcm; have HGL := Lib.hid hgl
        clear hX6 hA hq hcm hgl
        go_upto_region 10 with fail
        go_name_world W7 hW7
        obtain ⟨hO7, hG7⟩ := own_setP HO6.out c x HCM.out
        rw [hW7] at hO7 hG7
        have HO7 := Lib.hid hO7; have HB7 := Lib.hid (below_far HB6.out hG7 hbg HGL.out)
        clear hO7 hG7 hW7 x0 x1 x2 x3 x4 x5 x6 x7 x8 x9 y0 y1 y2 y3 y4 y5 y6 y7 y8 y9 hfz
        go_wp2_with fail
        go_roundw
        case rel =>
          obtain ⟨e1, e2, e3⟩ := mid_set HT.out HD.out HX.out (Nat.le_of_lt hck) HM.out
          exact ⟨c + 1, k + 1, m.set c x, by omega, by omega, by go_num, by go_num, by show _ = _; rw [HN.out]; exact e1, by show _ = _; rw [HN.out, List.length_append, ← HC.out]; rfl, e2, e3, HO7.out, HB7.out⟩
        case measure => simp [intOf]; omega
    · obtain rfl : k = l.length := by omega
      have hTk : l.take l.length = l := List.take_length
      rw [hTk] at HT HC
      have hgl := (HO.out.lt g rfl).2
      obtain ⟨hbg', hnc, hcm, cur, hR, hcur⟩ := owns_blk2 HO.out
      obtain ⟨w2, cur2, hr2, hg2, hR2, ht2⟩ := run_clear2 (P := Try.prog) peRow hR _ zeroPe (fun u hu => by simp [go_sem] at hu; rcases hu with rfl | rfl | rfl | rfl | rfl | rfl | rfl | rfl | rfl | rfl <;> rfl) (by simp [go_sem]) c (l.length - c) (by omega) (by omega) 0 (cap - c)
      have hfin : w2.ownsRow base 66 10 (.slice (some ⟨g, 0, none⟩) c cap) (l.filter fun x => !t x).length ((l.filter fun x => !t x).flatMap peV) := by
        have := blk_owns (e := 66) (size := 10) (n := c) hR2 hbg' (by omega) hcm
        rw [ht2, show cur.take (c * 10) = (cur.take (l.length * 10)).take (c * 10) by rw [List.take_take, Nat.min_eq_left (by omega)], hcur, pe_take m c, HT.out] at this
        rw [← HC.out]; exact this
      have HF := Lib.hid (And.intro hfin (below_far HB.out hg2 hbg' hgl))
      have q1 : (0 : Int) ≤ (c : Int) := by omega
      have q2 : (c : Int) ≤ (l.length : Int) := by omega
      have q3 : (c : Int) ≤ (cap : Int) := by omega
      have zt1 : ((l.length : Int) - (c : Int)).toNat = l.length - c := by omega
      have zt2 : ((cap : Int) - (c : Int)).toNat = cap - c := by omega
      have hck' : ¬ cap = c := by omega
      clear hfin hg2 hR2 ht2 hR hcur hgl hTk HO HB
      go_wp2_with fail
      go_ret
      exact ⟨_, rfl, HF.out⟩
end Go.Proofs.Ytppmjbnhghaffaa
