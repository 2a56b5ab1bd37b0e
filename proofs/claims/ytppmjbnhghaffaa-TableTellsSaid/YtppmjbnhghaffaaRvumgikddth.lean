/- Texts put together: TabK. No condition. -/
import Derived.Test.YtppmjbnhghaffaaRpywtesdzgw
import Derived.Test.YtppmjbnhghaffaaRovaakangde
import Derived.Test.YtppmjbnhghaffaaRpuvmqlftoc
import Derived.Test.YtppmjbnhghaffaaRxbhweavuqn
namespace Go.Proofs.Ytppmjbnhghaffaa
open Go.RowKit Go.Lib
set_option linter.unusedSimpArgs false
set_option linter.unusedVariables false

def ofL (n : Nt) (b : Bool) (l : List Pe) : List Pe := l.filter fun p => ntHas n p.en.ad == b
theorem ofL_snoc (n : Nt) (b : Bool) (l : List Pe) (x : Pe) : ofL n b (l ++ [x]) = if ntHas n x.en.ad = b then ofL n b l ++ [x] else ofL n b l := by
  unfold ofL
  rw [List.filter_append]
  by_cases h : ntHas n x.en.ad = b <;> simp [h]
theorem ofL_le (n : Nt) (b : Bool) (l : List Pe) : (ofL n b l).length ≤ l.length := List.length_filter_le _ _
set_option maxRecDepth 100000 in
set_option maxHeartbeats 4000000 in
theorem refTof_true (v : Value) (l : List Pe) (n : Nt) (fn : n.ad.fits) (hf : ∀ p ∈ l, p.en.ad.fits) (w : World) (h : ReadsL peV 10 w v l) (hl : l.length ≤ 1000000) :
    Calls Try.prog 70 #[v, .agg #[.bool n.ad.v6, .int .u64 n.ad.hi, .int .u64 n.ad.lo, .int .i64 n.bits], .bool true] w fun e w' => ∃ r, e = .returned r ∧ ReadsL peV 10 w' r (ofL n true l) ∧ Below w.heap.size w w' := by
  obtain ⟨hm, a0, c, rfl, h3⟩ := pes_open h
  clear h
  have mixed : Try.prog.follows .mixedOrders = true := by kernel_rfl
  have hBk : BlockIs (w.alloc (.cells #[.bool n.ad.v6, .int .u64 n.ad.hi, .int .u64 n.ad.lo, .int .i64 n.bits] 92)) w.heap.size [.bool n.ad.v6, .int .u64 n.ad.hi, .int .u64 n.ad.lo, .int .i64 n.bits] 92 := BlockIs.new w [.bool n.ad.v6, .int .u64 n.ad.hi, .int .u64 n.ad.lo, .int .i64 n.bits] _
  have HMade : Hid (((w.alloc (.cells #[.bool n.ad.v6, .int .u64 n.ad.hi, .int .u64 n.ad.lo, .int .i64 n.bits] 92)).alloc (.cells #[] 66)).ownsRow (w.heap.size + 1) 66 10 (.slice (some ⟨w.heap.size + 1, 0, none⟩) 0 0) 0 []) := own_made (by simp) (by simp)
  have HB0 : Hid (Below w.heap.size w ((w.alloc (.cells #[.bool n.ad.v6, .int .u64 n.ad.hi, .int .u64 n.ad.lo, .int .i64 n.bits] 92)).alloc (.cells #[] 66))) := ((Below.refl _ _).alloc (Nat.le_refl _) _).alloc (by simp) _
  have HBk := Lib.hid (hBk.alloc' (.cells #[] 66))
  clear hBk
  go_enter Try.func70, Try.ntmps70
  go_wp2_with fail
  go_loopw [7, 8] (fun u' i' wr => ∃ k : Nat, k ≤ l.length ∧ i' = .int .i64 k ∧ Hid (wr.ownsRow (w.heap.size + 1) 66 10 u' (ofL n true (l.take k)).length ((ofL n true (l.take k)).flatMap peV)) ∧ Hid (BlockIs wr w.heap.size [.bool n.ad.v6, .int .u64 n.ad.hi, .int .u64 n.ad.lo, .int .i64 n.bits] 92) ∧ Hid (Below w.heap.size w wr)) (fun _ i' _ => l.length - (intOf i').toNat)
  case atStart => exact ⟨0, by omega, rfl, HMade.out, HBk.out, HB0.out⟩
  case round =>
    clear HMade HBk HB0
    obtain ⟨k, hk, rfl, HU, HPb, HB⟩ := hrel
    by_cases hlt : k < l.length
    · obtain ⟨x, hx⟩ : ∃ x, l[k]? = some x := ⟨_, List.getElem?_eq_getElem hlt⟩
      obtain ⟨b, o, rfl, h4, h5, h6⟩ := h3 (by omega)
      have q1 : (0 : Int) ≤ (k : Int) := by omega
      have q2 : (k : Int) < (l.length : Int) := by omega
      have hS := ofL_snoc n true (l.take k) x
      rw [← show l.take (k + 1) = l.take k ++ [x] by rw [List.take_add_one, hx, Option.toList_some]] at hS
      have HS := Lib.hid hS
      have hcl : (ofL n true (l.take k)).length ≤ k := Nat.le_trans (ofL_le _ _ _) (by rw [List.length_take]; omega)
      have hfx := hf x (List.mem_of_getElem? hx)
      have KX : ∀ Y, PeIn (Go.Proofs.Ytppmjbnhghaffaa.ext wr Y) b (o + k * 10) x := fun Y => ((h6 k x hx).below HB.out h5).below (ext_below wr Y) (Nat.lt_of_lt_of_le h5 HB.out.size)
      have m0 : ∀ Y, (Go.Proofs.Ytppmjbnhghaffaa.ext wr Y).cell? ⟨w.heap.size, 0, none⟩ = some (.bool n.ad.v6) := fun Y => (HPb.out.below (ext_below wr Y)).cell rfl
      have m1 : ∀ Y, (Go.Proofs.Ytppmjbnhghaffaa.ext wr Y).cell? ⟨w.heap.size, 1, none⟩ = some (.int .u64 n.ad.hi) := fun Y => (HPb.out.below (ext_below wr Y)).cell rfl
      have m2 : ∀ Y, (Go.Proofs.Ytppmjbnhghaffaa.ext wr Y).cell? ⟨w.heap.size, 2, none⟩ = some (.int .u64 n.ad.lo) := fun Y => (HPb.out.below (ext_below wr Y)).cell rfl
      have m3 : ∀ Y, (Go.Proofs.Ytppmjbnhghaffaa.ext wr Y).cell? ⟨w.heap.size, 3, none⟩ = some (.int .i64 n.bits) := fun Y => (HPb.out.below (ext_below wr Y)).cell rfl
      have x0 := fun y => (KX y).1; have x1 := fun y => (KX y).2.1; have x2 := fun y => (KX y).2.2.1; have x3 := fun y => (KX y).2.2.2.1; have x4 := fun y => (KX y).2.2.2.2.1; have x5 := fun y => (KX y).2.2.2.2.2.1; have x6 := fun y => (KX y).2.2.2.2.2.2.1; have x7 := fun y => (KX y).2.2.2.2.2.2.2.1; have x8 := fun y => (KX y).2.2.2.2.2.2.2.2.1; have x9 := fun y => (KX y).2.2.2.2.2.2.2.2.2
      have HH := Lib.hid (fun W => refNtHas_any n x.en.ad fn hfx W)
      clear hx hS
      cases hb : ntHas n x.en.ad with
      | false =>
        rw [hb] at HH
        have HN : Hid (ofL n true (l.take (k + 1)) = ofL n true (l.take k)) := by show _ = _; rw [HS.out, hb]; rfl
        clear hb h6 KX
        go_wp2_with fail
        refine wp_region_ext (by kernel_rfl) (by kernel_rfl) ?_
        repeat (go_big_quiet_step ((first | (go_at_call 115; with_reducible exact qe (HH.out _)))))
        refine wpQuiet_nil ?_
        intro _ hw'
        obtain ⟨gx, HW⟩ := hw'
        subst HW
        clear x0 x1 x2 x3 x4 x5 x6 x7 x8 x9 m0 m1 m2 m3
        go_wp2_with fail
        go_roundw
        case rel => exact ⟨k + 1, by omega, by go_num, by rw [HN.out]; exact owns_below HU.out (ext_below wr gx), HPb.out.below (ext_below wr gx), HB.out.trans ((ext_below wr gx).mono HB.out.size)⟩
        case measure => simp [intOf]; omega
      | true =>
        rw [hb] at HH
        have HN : Hid (ofL n true (l.take (k + 1)) = ofL n true (l.take k) ++ [x]) := by show _ = _; rw [HS.out, hb]; rfl
        clear hb h6 KX
        go_wp2_with fail
        refine wp_region_ext (by kernel_rfl) (by kernel_rfl) ?_
        repeat (go_big_quiet_step ((first | (go_at_call 115; with_reducible exact qe (HH.out _)))))
        refine wpQuiet_nil ?_
        intro _ hw'
        obtain ⟨gx, HW⟩ := hw'
        subst HW
        have HU6 := Lib.hid (owns_below HU.out (ext_below wr gx)); have HP6 := Lib.hid (HPb.out.below (ext_below wr gx)); have HB6 := Lib.hid (HB.out.trans ((ext_below wr gx).mono HB.out.size))
        have y0 := x0 gx; have y1 := x1 gx; have y2 := x2 gx; have y3 := x3 gx; have y4 := x4 gx; have y5 := x5 gx; have y6 := x6 gx; have y7 := x7 gx; have y8 := x8 gx; have y9 := x9 gx
        clear x0 x1 x2 x3 x4 x5 x6 x7 x8 x9 m0 m1 m2 m3 HU HPb HB HH HS
        generalize Go.Proofs.Ytppmjbnhghaffaa.ext wr gx = W6 at *
        clear gx
        have hP6 := HP6.out.lt
        have HW6 : Hid (w.heap.size + 1 ≤ W6.heap.size) := by show _ ≤ _; omega
        have hlen : (ofL n true (l.take k) ++ [x]).length = (ofL n true (l.take k)).length + 1 := by simp
        have hfl : (ofL n true (l.take k) ++ [x]).flatMap peV = (ofL n true (l.take k)).flatMap peV ++ peV x := by rw [List.flatMap_append]; simp
        have HL := Lib.hid hlen; have HFl := Lib.hid hfl
        clear hlen hfl
        go_wp2_with (at_builtin; refine list_app_reads peRow rfl (.tmp 26) (.tmp 31) rfl (w.heap.size + 1) _ (ofL n true (l.take k)).length ((ofL n true (l.take k)).flatMap peV) rfl (HU6.out.alloc _) _ 1 (peV x) rfl (reads_one (us := peV x) rfl (Nat.succ_pos 9)) (peV_one1 x) (by omega) (by omega) (by simp; omega) (w.heap.size + 1) W6 ((Below.refl _ _).alloc HW6.out _) (Nat.le_refl _) ?_; intro v7 w7 o7 b7)
        have hP7 : BlockIs w7 w.heap.size [.bool n.ad.v6, .int .u64 n.ad.hi, .int .u64 n.ad.lo, .int .i64 n.bits] 92 := by
          show w7.heap[w.heap.size]? = _
          rw [b7.block w.heap.size (by omega)]; exact HP6.out
        go_roundw
        case rel => exact ⟨k + 1, by omega, by go_num, by rw [HN.out, HL.out, HFl.out]; exact o7, hP7, HB6.out.trans (b7.mono (by omega))⟩
        case measure => simp [intOf]; omega
    · obtain rfl : k = l.length := by omega
      have HF : Hid (l.take l.length = l) := List.take_length
      go_wp2_with fail
      go_ret
      exact ⟨_, rfl, by have := owns_readsL HU.out; rwa [HF.out] at this, HB.out⟩
set_option maxRecDepth 100000 in
set_option maxHeartbeats 4000000 in
theorem refTof_false (v : Value) (l : List Pe) (n : Nt) (fn : n.ad.fits) (hf : ∀ p ∈ l, p.en.ad.fits) (w : World) (h : ReadsL peV 10 w v l) (hl : l.length ≤ 1000000) :
    Calls Try.prog 70 #[v, .agg #[.bool n.ad.v6, .int .u64 n.ad.hi, .int .u64 n.ad.lo, .int .i64 n.bits], .bool false] w fun e w' => ∃ r, e = .returned r ∧ ReadsL peV 10 w' r (ofL n false l) ∧ Below w.heap.size w w' := by
  obtain ⟨hm, a0, c, rfl, h3⟩ := pes_open h
  clear h
  have mixed : Try.prog.follows .mixedOrders = true := by kernel_rfl
  have hBk : BlockIs (w.alloc (.cells #[.bool n.ad.v6, .int .u64 n.ad.hi, .int .u64 n.ad.lo, .int .i64 n.bits] 92)) w.heap.size [.bool n.ad.v6, .int .u64 n.ad.hi, .int .u64 n.ad.lo, .int .i64 n.bits] 92 := BlockIs.new w [.bool n.ad.v6, .int .u64 n.ad.hi, .int .u64 n.ad.lo, .int .i64 n.bits] _
  have HMade : Hid (((w.alloc (.cells #[.bool n.ad.v6, .int .u64 n.ad.hi, .int .u64 n.ad.lo, .int .i64 n.bits] 92)).alloc (.cells #[] 66)).ownsRow (w.heap.size + 1) 66 10 (.slice (some ⟨w.heap.size + 1, 0, none⟩) 0 0) 0 []) := own_made (by simp) (by simp)
  have HB0 : Hid (Below w.heap.size w ((w.alloc (.cells #[.bool n.ad.v6, .int .u64 n.ad.hi, .int .u64 n.ad.lo, .int .i64 n.bits] 92)).alloc (.cells #[] 66))) := ((Below.refl _ _).alloc (Nat.le_refl _) _).alloc (by simp) _
  have HBk := Lib.hid (hBk.alloc' (.cells #[] 66))
  clear hBk
  go_enter Try.func70, Try.ntmps70
  go_wp2_with fail
  go_loopw [7, 8] (fun u' i' wr => ∃ k : Nat, k ≤ l.length ∧ i' = .int .i64 k ∧ Hid (wr.ownsRow (w.heap.size + 1) 66 10 u' (ofL n false (l.take k)).length ((ofL n false (l.take k)).flatMap peV)) ∧ Hid (BlockIs wr w.heap.size [.bool n.ad.v6, .int .u64 n.ad.hi, .int .u64 n.ad.lo, .int .i64 n.bits] 92) ∧ Hid (Below w.heap.size w wr)) (fun _ i' _ => l.length - (intOf i').toNat)
  case atStart => exact ⟨0, by omega, rfl, HMade.out, HBk.out, HB0.out⟩
  case round =>
    clear HMade HBk HB0
    obtain ⟨k, hk, rfl, HU, HPb, HB⟩ := hrel
    by_cases hlt : k < l.length
    · obtain ⟨x, hx⟩ : ∃ x, l[k]? = some x := ⟨_, List.getElem?_eq_getElem hlt⟩
      obtain ⟨b, o, rfl, h4, h5, h6⟩ := h3 (by omega)
      have q1 : (0 : Int) ≤ (k : Int) := by omega
      have q2 : (k : Int) < (l.length : Int) := by omega
      have hS := ofL_snoc n false (l.take k) x
      rw [← show l.take (k + 1) = l.take k ++ [x] by rw [List.take_add_one, hx, Option.toList_some]] at hS
      have HS := Lib.hid hS
      have hcl : (ofL n false (l.take k)).length ≤ k := Nat.le_trans (ofL_le _ _ _) (by rw [List.length_take]; omega)
      have hfx := hf x (List.mem_of_getElem? hx)
      have KX : ∀ Y, PeIn (Go.Proofs.Ytppmjbnhghaffaa.ext wr Y) b (o + k * 10) x := fun Y => ((h6 k x hx).below HB.out h5).below (ext_below wr Y) (Nat.lt_of_lt_of_le h5 HB.out.size)
      have m0 : ∀ Y, (Go.Proofs.Ytppmjbnhghaffaa.ext wr Y).cell? ⟨w.heap.size, 0, none⟩ = some (.bool n.ad.v6) := fun Y => (HPb.out.below (ext_below wr Y)).cell rfl
      have m1 : ∀ Y, (Go.Proofs.Ytppmjbnhghaffaa.ext wr Y).cell? ⟨w.heap.size, 1, none⟩ = some (.int .u64 n.ad.hi) := fun Y => (HPb.out.below (ext_below wr Y)).cell rfl
      have m2 : ∀ Y, (Go.Proofs.Ytppmjbnhghaffaa.ext wr Y).cell? ⟨w.heap.size, 2, none⟩ = some (.int .u64 n.ad.lo) := fun Y => (HPb.out.below (ext_below wr Y)).cell rfl
      have m3 : ∀ Y, (Go.Proofs.Ytppmjbnhghaffaa.ext wr Y).cell? ⟨w.heap.size, 3, none⟩ = some (.int .i64 n.bits) := fun Y => (HPb.out.below (ext_below wr Y)).cell rfl
      have x0 := fun y => (KX y).1; have x1 := fun y => (KX y).2.1; have x2 := fun y => (KX y).2.2.1; have x3 := fun y => (KX y).2.2.2.1; have x4 := fun y => (KX y).2.2.2.2.1; have x5 := fun y => (KX y).2.2.2.2.2.1; have x6 := fun y => (KX y).2.2.2.2.2.2.1; have x7 := fun y => (KX y).2.2.2.2.2.2.2.1; have x8 := fun y => (KX y).2.2.2.2.2.2.2.2.1; have x9 := fun y => (KX y).2.2.2.2.2.2.2.2.2
      have HH := Lib.hid (fun W => refNtHas_any n x.en.ad fn hfx W)
      clear hx hS
      cases hb : ntHas n x.en.ad with
      | true =>
        rw [hb] at HH
        have HN : Hid (ofL n false (l.take (k + 1)) = ofL n false (l.take k)) := by show _ = _; rw [HS.out, hb]; rfl
        clear hb h6 KX
        go_wp2_with fail
        refine wp_region_ext (by kernel_rfl) (by kernel_rfl) ?_
        repeat (go_big_quiet_step ((first | (go_at_call 115; with_reducible exact qe (HH.out _)))))
        refine wpQuiet_nil ?_
        intro _ hw'
        obtain ⟨gx, HW⟩ := hw'
        subst HW
        clear x0 x1 x2 x3 x4 x5 x6 x7 x8 x9 m0 m1 m2 m3
        go_wp2_with fail
        go_roundw
        case rel => exact ⟨k + 1, by omega, by go_num, by rw [HN.out]; exact owns_below HU.out (ext_below wr gx), HPb.out.below (ext_below wr gx), HB.out.trans ((ext_below wr gx).mono HB.out.size)⟩
        case measure => simp [intOf]; omega
      | false =>
        rw [hb] at HH
        have HN : Hid (ofL n false (l.take (k + 1)) = ofL n false (l.take k) ++ [x]) := by show _ = _; rw [HS.out, hb]; rfl
        clear hb h6 KX
        go_wp2_with fail
        refine wp_region_ext (by kernel_rfl) (by kernel_rfl) ?_
        repeat (go_big_quiet_step ((first | (go_at_call 115; with_reducible exact qe (HH.out _)))))
        refine wpQuiet_nil ?_
        intro _ hw'
        obtain ⟨gx, HW⟩ := hw'
        subst HW
        have HU6 := Lib.hid (owns_below HU.out (ext_below wr gx)); have HP6 := Lib.hid (HPb.out.below (ext_below wr gx)); have HB6 := Lib.hid (HB.out.trans ((ext_below wr gx).mono HB.out.size))
        have y0 := x0 gx; have y1 := x1 gx; have y2 := x2 gx; have y3 := x3 gx; have y4 := x4 gx; have y5 := x5 gx; have y6 := x6 gx; have y7 := x7 gx; have y8 := x8 gx; have y9 := x9 gx
        clear x0 x1 x2 x3 x4 x5 x6 x7 x8 x9 m0 m1 m2 m3 HU HPb HB HH HS
        generalize Go.Proofs.Ytppmjbnhghaffaa.ext wr gx = W6 at *
        clear gx
        have hP6 := HP6.out.lt
        have HW6 : Hid (w.heap.size + 1 ≤ W6.heap.size) := by show _ ≤ _; omega
        have hlen : (ofL n false (l.take k) ++ [x]).length = (ofL n false (l.take k)).length + 1 := by simp
        have hfl : (ofL n false (l.take k) ++ [x]).flatMap peV = (ofL n false (l.take k)).flatMap peV ++ peV x := by rw [List.flatMap_append]; simp
        have HL := Lib.hid hlen; have HFl := Lib.hid hfl
        clear hlen hfl
        go_wp2_with (at_builtin; refine list_app_reads peRow rfl (.tmp 26) (.tmp 31) rfl (w.heap.size + 1) _ (ofL n false (l.take k)).length ((ofL n false (l.take k)).flatMap peV) rfl (HU6.out.alloc _) _ 1 (peV x) rfl (reads_one (us := peV x) rfl (Nat.succ_pos 9)) (peV_one1 x) (by omega) (by omega) (by simp; omega) (w.heap.size + 1) W6 ((Below.refl _ _).alloc HW6.out _) (Nat.le_refl _) ?_; intro v7 w7 o7 b7)
        have hP7 : BlockIs w7 w.heap.size [.bool n.ad.v6, .int .u64 n.ad.hi, .int .u64 n.ad.lo, .int .i64 n.bits] 92 := by
          show w7.heap[w.heap.size]? = _
          rw [b7.block w.heap.size (by omega)]; exact HP6.out
        go_roundw
        case rel => exact ⟨k + 1, by omega, by go_num, by rw [HN.out, HL.out, HFl.out]; exact o7, hP7, HB6.out.trans (b7.mono (by omega))⟩
        case measure => simp [intOf]; omega
    · obtain rfl : k = l.length := by omega
      have HF : Hid (l.take l.length = l) := List.take_length
      go_wp2_with fail
      go_ret
      exact ⟨_, rfl, by have := owns_readsL HU.out; rwa [HF.out] at this, HB.out⟩
theorem refTof_any (v : Value) (l : List Pe) (n : Nt) (b : Bool) (fn : n.ad.fits) (hf : ∀ p ∈ l, p.en.ad.fits) (w : World) (h : ReadsL peV 10 w v l) (hl : l.length ≤ 1000000) :
    Calls Try.prog 70 #[v, .agg #[.bool n.ad.v6, .int .u64 n.ad.hi, .int .u64 n.ad.lo, .int .i64 n.bits], .bool b] w fun e w' => ∃ r, e = .returned r ∧ ReadsL peV 10 w' r (ofL n b l) ∧ Below w.heap.size w w' := by
  cases b
  · exact refTof_false v l n fn hf w h hl
  · exact refTof_true v l n fn hf w h hl
end Go.Proofs.Ytppmjbnhghaffaa
