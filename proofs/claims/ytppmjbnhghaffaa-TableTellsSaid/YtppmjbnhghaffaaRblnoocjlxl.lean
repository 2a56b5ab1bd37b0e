/- Texts put together: TabP. No condition. -/
import Derived.Test.YtppmjbnhghaffaaRvumgikddth
import Derived.Test.YtppmjbnhghaffaaRowesqlpzqc
namespace Go.Proofs.Ytppmjbnhghaffaa
open Go.RowKit Go.Lib

set_option maxRecDepth 100000 in
set_option maxHeartbeats 8000000 in
theorem tsplit_any (v : Value) (l : List Pe) (n : Nt) (fn : n.ad.fits) (hf : ∀ p ∈ l, p.en.ad.fits) (w : World) (h : ReadsL peV 10 w v l) (hl : l.length ≤ 1000000) :
    Calls Try.prog 69 #[v, .agg #[.bool n.ad.v6, .int .u64 n.ad.hi, .int .u64 n.ad.lo, .int .i64 n.bits]] w fun e w' => ∃ r r2, e = .returned (.tuple #[r, r2]) ∧ ReadsL peV 10 w' r (ofL n true l) ∧ ReadsL peV 10 w' r2 (ofL n false l) ∧ Below w.heap.size w w' := by
  obtain ⟨hm, a0, c, rfl, h3⟩ := pes_open h
  clear h
  have HBk : Hid (BlockIs (w.alloc (.cells #[.bool n.ad.v6, .int .u64 n.ad.hi, .int .u64 n.ad.lo, .int .i64 n.bits] 92)) w.heap.size [.bool n.ad.v6, .int .u64 n.ad.hi, .int .u64 n.ad.lo, .int .i64 n.bits] 92) := BlockIs.new w [.bool n.ad.v6, .int .u64 n.ad.hi, .int .u64 n.ad.lo, .int .i64 n.bits] _
  have HB0 : Hid (Below w.heap.size w (w.alloc (.cells #[.bool n.ad.v6, .int .u64 n.ad.hi, .int .u64 n.ad.lo, .int .i64 n.bits] 92))) := (Below.refl _ _).alloc (Nat.le_refl _) _
  go_enter Try.func69, Try.ntmps69
  go_wp2_with fail
  go_loopw [4, 5, 10] (fun u' o' i' wr => ∃ k : Nat, k ≤ l.length ∧ i' = .int .i64 k ∧ Hid (wr.ownsRow (w.heap.size + 1) 66 10 u' (ofL n true (l.take k)).length ((ofL n true (l.take k)).flatMap peV)) ∧ Hid (wr.ownsRow (w.heap.size + 1) 66 10 o' (ofL n false (l.take k)).length ((ofL n false (l.take k)).flatMap peV)) ∧ Hid (ApartV u' o') ∧ Hid (BlockIs wr w.heap.size [.bool n.ad.v6, .int .u64 n.ad.hi, .int .u64 n.ad.lo, .int .i64 n.bits] 92) ∧ Hid (Below w.heap.size w wr)) (fun _ _ i' _ => l.length - (intOf i').toNat)
  case atStart => exact ⟨0, by omega, rfl, World.ownsRow_nil _ _ _ _, World.ownsRow_nil _ _ _ _, apart_nil _, HBk.out, HB0.out⟩
  case round =>
    clear HBk HB0
    obtain ⟨k, hk, rfl, HU, HO, HA, HPb, HB⟩ := hrel
    by_cases hlt : k < l.length
    · obtain ⟨x, hx⟩ : ∃ x, l[k]? = some x := ⟨_, List.getElem?_eq_getElem hlt⟩
      obtain ⟨b, o, rfl, h4, h5, h6⟩ := h3 (by omega)
      have K := (h6 k x hx).below HB.out h5
      have q1 : (0 : Int) ≤ (k : Int) := by omega
      have q2 : (k : Int) < (l.length : Int) := by omega
      have hS := ofL_snoc n true (l.take k) x
      rw [← show l.take (k + 1) = l.take k ++ [x] by rw [List.take_add_one, hx, Option.toList_some]] at hS
      have hS2 := ofL_snoc n false (l.take k) x
      rw [← show l.take (k + 1) = l.take k ++ [x] by rw [List.take_add_one, hx, Option.toList_some]] at hS2
      have HS := Lib.hid hS; have HS2 := Lib.hid hS2
      have hcl : (ofL n true (l.take k)).length ≤ k := Nat.le_trans (ofL_le _ _ _) (by rw [List.length_take]; omega)
      have hcl2 : (ofL n false (l.take k)).length ≤ k := Nat.le_trans (ofL_le _ _ _) (by rw [List.length_take]; omega)
      have hfx := hf x (List.mem_of_getElem? hx)
      have HH := Lib.hid (fun W => ntHas_any n x.en.ad fn hfx W)
      obtain ⟨k0, k1, k2, k3, k4, k5, k6, k7, k8, k9⟩ := K
      clear hx hS hS2 h6
      have lP := HPb.out.lt
      go_upto_region 4 with (refine list_store_blk rfl 66 _ _ rfl (wr.heap.size) _ _ 66 (BlockIs.newAt' _ _ _ (by simp)) rfl rfl (by kernel_rfl) rfl (by simp [Value.oneCell']) wr.heap.size wr (by (repeat (first | with_reducible assumption | with_reducible exact Below.refl _ _ | with_reducible refine Below.setCell ?_ (by first | omega | (simp; done) | (simp; omega)) _ | with_reducible refine Below.alloc ?_ (by first | omega | (simp; done) | (simp; omega)) _ | with_reducible refine Below.drew ?_ | (with_reducible refine Below.trans ?_ (Below.mono (by with_reducible assumption) (by first | omega | (simp; done) | (simp; omega)))) | (refine Below.trans ?_ (Below.mono (by assumption) (by first | omega | (simp; done) | (simp; omega))))))) (Nat.le_refl _) ?_; intro W5 hP hoth hsz b5; clear hoth; dsimp only [Act.put])
      clear k0 k1 k2 k3 k4 k5 k6 k7 k8 k9
      have HB5 := Lib.hid (HB.out.trans (b5.mono HB.out.size))
      have HU5 := Lib.hid (owns_below HU.out b5); have HO5 := Lib.hid (owns_below HO.out b5); have HP5 := Lib.hid (HPb.out.below b5)
      have HX5 := Lib.hid hP
      obtain ⟨X, hX⟩ : ∃ X, X = wr.heap.size := ⟨_, rfl⟩
      rw [← hX] at HX5 hP
      try rw [← hX]
      have lX5 := hP.lt
      have hsz' : w.heap.size + 1 ≤ X := by omega
      have x0 := hP.cell (i := 0) rfl; have x1 := hP.cell (i := 1) rfl; have x2 := hP.cell (i := 2) rfl
      have hN5 := HP5.out
      have m0 := hN5.cell (i := 0) rfl; have m1 := hN5.cell (i := 1) rfl; have m2 := hN5.cell (i := 2) rfl; have m3 := hN5.cell (i := 3) rfl
      clear hP hN5 b5 HU HO HPb HB hX hsz
      cases hb : ntHas n x.en.ad with
      | true =>
        rw [hb] at HH
        have HN : Hid (ofL n true (l.take (k + 1)) = ofL n true (l.take k) ++ [x]) := by show _ = _; rw [HS.out, hb]; rfl
        have HN2 : Hid (ofL n false (l.take (k + 1)) = ofL n false (l.take k)) := by show _ = _; rw [HS2.out, hb]; rfl
        clear hb
        go_upto_region 5 with (go_at_call 114; (with_reducible refine (HH.out _).mono ?_); rintro e W6 ⟨rfl, b6⟩)
        clear x0 x1 x2 m0 m1 m2 m3
        have hX6 := HX5.out.below b6
        have HP6 := Lib.hid (HP5.out.below b6); have HU6 := Lib.hid (owns_below HU5.out b6); have HO6 := Lib.hid (owns_below HO5.out b6); have HB6 := Lib.hid (below2 HB5.out b6)
        have z6 := b6.size
        have x0 := hX6.cell (i := 0) rfl; have x1 := hX6.cell (i := 1) rfl; have x2 := hX6.cell (i := 2) rfl; have x3 := hX6.cell (i := 3) rfl; have x4 := hX6.cell (i := 4) rfl; have x5 := hX6.cell (i := 5) rfl; have x6 := hX6.cell (i := 6) rfl; have x7 := hX6.cell (i := 7) rfl; have x8 := hX6.cell (i := 8) rfl; have x9 := hX6.cell (i := 9) rfl
        clear hX6 HU5 HO5 HP5 HB5 HX5 b6
        have lP6 := HP6.out.lt
        have hlen : (ofL n true (l.take k) ++ [x]).length = (ofL n true (l.take k)).length + 1 := by simp
        have hfl : (ofL n true (l.take k) ++ [x]).flatMap peV = (ofL n true (l.take k)).flatMap peV ++ peV x := by rw [List.flatMap_append]; simp
        have HL := Lib.hid hlen; have HFl := Lib.hid hfl
        clear hlen hfl
        go_wp2_with (at_builtin; refine list_app_reads_at peRow rfl (.tmp 19) (.tmp 21) rfl (w.heap.size + 1) _ (ofL n true (l.take k)).length ((ofL n true (l.take k)).flatMap peV) rfl (HU6.out.alloc _) _ 1 (peV x) rfl (reads_one (us := peV x) rfl (Nat.succ_pos 9)) (peV_one1 x) (by omega) (by omega) (by simp; omega) ?_; intro v7 w7 o7 g7 a7)
        have HO7 := Lib.hid (owns_apart (HO6.out.alloc _) g7 (fun g hg1 hg2 => HA.out g hg2 hg1))
        have HA7 := Lib.hid (apart_new HA.out (HO6.out) (k := (World.alloc W6 (.cells (peV x).toArray 66)).heap.size) (by simp) a7)
        have b7 : Below (w.heap.size + 1) W6 w7 := below_grown (HU6.out.alloc _) ((Below.refl _ _).alloc (by omega) _) (Nat.le_refl _) (by simp; omega) g7
        have hP7 : BlockIs w7 w.heap.size [.bool n.ad.v6, .int .u64 n.ad.hi, .int .u64 n.ad.lo, .int .i64 n.bits] 92 := by
          show w7.heap[w.heap.size]? = _
          rw [b7.block w.heap.size (by omega)]; exact HP6.out
        go_roundw
        case rel => exact ⟨k + 1, by omega, by go_num, by rw [HN.out, HL.out, HFl.out]; exact o7, by rw [HN2.out]; exact HO7.out, HA7.out, hP7, HB6.out.trans (b7.mono (by omega))⟩
        case measure => simp [intOf]; omega
      | false =>
        rw [hb] at HH
        have HN : Hid (ofL n false (l.take (k + 1)) = ofL n false (l.take k) ++ [x]) := by show _ = _; rw [HS2.out, hb]; rfl
        have HN2 : Hid (ofL n true (l.take (k + 1)) = ofL n true (l.take k)) := by show _ = _; rw [HS.out, hb]; rfl
        clear hb
        go_upto_region 6 with (go_at_call 114; (with_reducible refine (HH.out _).mono ?_); rintro e W6 ⟨rfl, b6⟩)
        clear x0 x1 x2 m0 m1 m2 m3
        have hX6 := HX5.out.below b6
        have HP6 := Lib.hid (HP5.out.below b6); have HU6 := Lib.hid (owns_below HU5.out b6); have HO6 := Lib.hid (owns_below HO5.out b6); have HB6 := Lib.hid (below2 HB5.out b6)
        have z6 := b6.size
        have x0 := hX6.cell (i := 0) rfl; have x1 := hX6.cell (i := 1) rfl; have x2 := hX6.cell (i := 2) rfl; have x3 := hX6.cell (i := 3) rfl; have x4 := hX6.cell (i := 4) rfl; have x5 := hX6.cell (i := 5) rfl; have x6 := hX6.cell (i := 6) rfl; have x7 := hX6.cell (i := 7) rfl; have x8 := hX6.cell (i := 8) rfl; have x9 := hX6.cell (i := 9) rfl
        clear hX6 HU5 HO5 HP5 HB5 HX5 b6
        have lP6 := HP6.out.lt
        have hlen : (ofL n false (l.take k) ++ [x]).length = (ofL n false (l.take k)).length + 1 := by simp
        have hfl : (ofL n false (l.take k) ++ [x]).flatMap peV = (ofL n false (l.take k)).flatMap peV ++ peV x := by rw [List.flatMap_append]; simp
        have HL := Lib.hid hlen; have HFl := Lib.hid hfl
        clear hlen hfl
        go_wp2_with (at_builtin; refine list_app_reads_at peRow rfl (.tmp 23) (.tmp 25) rfl (w.heap.size + 1) _ (ofL n false (l.take k)).length ((ofL n false (l.take k)).flatMap peV) rfl (HO6.out.alloc _) _ 1 (peV x) rfl (reads_one (us := peV x) rfl (Nat.succ_pos 9)) (peV_one1 x) (by omega) (by omega) (by simp; omega) ?_; intro v7 w7 o7 g7 a7)
        have HU7 := Lib.hid (owns_apart (HU6.out.alloc _) g7 (fun g hg1 hg2 => HA.out g hg1 hg2))
        have HA7 := Lib.hid (apart_new HA.out.symm (HU6.out) (k := (World.alloc W6 (.cells (peV x).toArray 66)).heap.size) (by simp) a7)
        have b7 : Below (w.heap.size + 1) W6 w7 := below_grown (HO6.out.alloc _) ((Below.refl _ _).alloc (by omega) _) (Nat.le_refl _) (by simp; omega) g7
        have hP7 : BlockIs w7 w.heap.size [.bool n.ad.v6, .int .u64 n.ad.hi, .int .u64 n.ad.lo, .int .i64 n.bits] 92 := by
          show w7.heap[w.heap.size]? = _
          rw [b7.block w.heap.size (by omega)]; exact HP6.out
        go_roundw
        case rel => exact ⟨k + 1, by omega, by go_num, by rw [HN2.out]; exact HU7.out, by rw [HN.out, HL.out, HFl.out]; exact o7, HA7.out.symm, hP7, HB6.out.trans (b7.mono (by omega))⟩
        case measure => simp [intOf]; omega
    · obtain rfl : k = l.length := by omega
      have HF : Hid (l.take l.length = l) := List.take_length
      go_wp2_with fail
      go_ret2
      have hU := owns_readsL HU.out
      have hO := owns_readsL HO.out
      rw [HF.out] at hU hO
      exact ⟨_, _, rfl, hU, hO, HB.out⟩
end Go.Proofs.Ytppmjbnhghaffaa
