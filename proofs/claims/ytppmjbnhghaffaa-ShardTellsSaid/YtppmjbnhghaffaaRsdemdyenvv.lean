/- Texts put together: ShH. No condition. -/
import Derived.Test.YtppmjbnhghaffaaRogmlgjxdoh
import Derived.Test.YtppmjbnhghaffaaRmcavooviyn
namespace Go.Proofs.Ytppmjbnhghaffaa
open Go.RowKit Go.Lib

set_option maxRecDepth 100000 in
set_option maxHeartbeats 8000000 in
theorem refShPeers_any (z : Int) (v : Value) (l : List Pe) (w : World) (h : ReadsL peV 10 w v l) (hl : l.length ≤ 1000000) :
    Calls Try.prog 46 #[.agg #[.int .i64 z, v]] w fun e w' => ∃ r, e = .returned r ∧ ReadsL peV 10 w' r (l.take z.toNat) ∧ Below w.heap.size w w' := by
  obtain ⟨hm, a0, c, rfl, h3⟩ := pes_open h
  clear h
  obtain ⟨B, hB⟩ : ∃ B, B = w.heap.size := ⟨_, rfl⟩
  have HBk : Hid (BlockIs ((w.alloc (.cells #[.int .i64 z, .slice a0 l.length c] 70)).alloc (.cells #[] 66)) B [.int .i64 z, .slice a0 l.length c] 70) := by subst hB; exact (BlockIs.new w [.int .i64 z, .slice a0 l.length c] _).alloc' _
  have HMade : Hid (((w.alloc (.cells #[.int .i64 z, .slice a0 l.length c] 70)).alloc (.cells #[] 66)).ownsRow (B + 1) 66 10 (.slice (some ⟨B + 1, 0, none⟩) 0 0) 0 []) := by subst hB; exact own_made (by simp) (by simp)
  have HB0 : Hid (Below w.heap.size w ((w.alloc (.cells #[.int .i64 z, .slice a0 l.length c] 70)).alloc (.cells #[] 66))) := ((Below.refl _ _).alloc (Nat.le_refl _) _).alloc (by simp) _
  have HBw := Lib.hid hB
  go_enter Try.func46, Try.ntmps46
  go_wp2_with fail
  rw [← hB]
  go_loopw [3, 4] (fun u' i' wr => ∃ k : Nat, k ≤ l.length ∧ i' = .int .i64 k ∧ Hid ((k : Int) ≤ max z 0) ∧ Hid (wr.ownsRow (B + 1) 66 10 u' k ((l.take k).flatMap peV)) ∧ Hid (BlockIs wr B [.int .i64 z, .slice a0 l.length c] 70) ∧ Hid (Below w.heap.size w wr)) (fun _ i' _ => l.length - (intOf i').toNat)
  case atStart => exact ⟨0, by omega, rfl, by show _ ≤ _; omega, HMade.out, HBk.out, HB0.out⟩
  case round =>
    clear HMade HB0 HBk hB
    obtain ⟨k, hk, rfl, HZ, HU, HP, HB⟩ := hrel
    have hP := HP.out
    have s0 := hP.cell (i := 0) rfl; have s1 := hP.cell (i := 1) rfl
    have lB := hP.lt
    have q1 : (0 : Int) ≤ (k : Int) := by omega
    clear hP
    by_cases hkz : (k : Int) < z
    · have q5 : decide ((k : Int) < z) = true := decide_eq_true hkz
      by_cases hlt : k < l.length
      · obtain ⟨x, hx⟩ : ∃ x, l[k]? = some x := ⟨_, List.getElem?_eq_getElem hlt⟩
        obtain ⟨b, o, rfl, h4, h5, h6⟩ := h3 (by omega)
        have hK := (h6 k x hx).below HB.out h5
        obtain ⟨k0, k1, k2, k3, k4, k5, k6, k7, k8, k9⟩ := hK
        have q2 : (k : Int) < (l.length : Int) := by omega
        have q6 : decide ((k : Int) < (l.length : Int)) = true := decide_eq_true q2
        have q7 : decide (k < l.length) = true := decide_eq_true hlt
        have hS : l.take (k + 1) = l.take k ++ [x] := by rw [List.take_add_one, hx, Option.toList_some]
        have HS := Lib.hid hS
        have HFl : Hid ((l.take k ++ [x]).flatMap peV = (l.take k).flatMap peV ++ peV x) := by show _ = _; rw [List.flatMap_append]; simp
        have HW : Hid (B + 1 ≤ wr.heap.size) := lB
        clear hx h6 h3 hS
        go_wp2_with (at_builtin; refine list_app_reads peRow rfl (.tmp 19) (.tmp 25) rfl (B + 1) _ k ((l.take k).flatMap peV) rfl (HU.out.alloc _) _ 1 (peV x) rfl (reads_one (us := peV x) rfl (Nat.succ_pos 9)) (peV_one1 x) (by omega) (by omega) (by have := HW.out; simp; omega) (B + 1) wr ((Below.refl _ _).alloc HW.out _) (Nat.le_refl _) ?_; intro v7 w7 o7 b7)
        have hP7 : BlockIs w7 B [.int .i64 z, .slice (some ⟨b, o, none⟩) l.length c] 70 := by
          show w7.heap[B]? = _
          rw [b7.block B (by omega)]; exact HP.out
        go_roundw
        case rel => exact ⟨k + 1, by omega, by go_num, by show _ ≤ _; omega, by rw [HS.out, HFl.out]; exact o7, hP7, HB.out.trans (b7.mono (by have := HBw.out; omega))⟩
        case measure => simp [intOf]; omega
      · obtain rfl : k = l.length := by omega
        have hT : l.take z.toNat = l.take l.length := by rw [List.take_of_length_le (by omega), List.take_length]
        have HT := Lib.hid hT
        have hlen : (l.take l.length).length = l.length := by rw [List.take_length]
        have HRd : Hid (∀ (r : Value) (W : World), W.ownsRow (B + 1) 66 10 r l.length ((l.take l.length).flatMap peV) → ReadsL peV 10 W r (l.take l.length)) := fun r W ho => owns_readsL (by rw [hlen]; exact ho)
        have q6 : decide ((l.length : Int) < (l.length : Int)) = false := decide_eq_false (by omega)
        clear hT hlen hlt h3
        go_wp2_with fail
        go_ret
        exact ⟨_, rfl, by rw [HT.out]; exact HRd.out _ _ HU.out, HB.out⟩
    · have q5 : decide ((k : Int) < z) = false := decide_eq_false hkz
      have hkk : z.toNat = k := by have := HZ.out; omega
      have hlen : (l.take k).length = k := by rw [List.length_take]; omega
      have HT : Hid (l.take z.toNat = l.take k) := by show _ = _; rw [hkk]
      have HRd : Hid (∀ (r : Value) (W : World), W.ownsRow (B + 1) 66 10 r k ((l.take k).flatMap peV) → ReadsL peV 10 W r (l.take k)) := fun r W ho => owns_readsL (by rw [hlen]; exact ho)
      clear hkk hlen h3
      go_wp2_with fail
      go_ret
      exact ⟨_, rfl, by rw [HT.out]; exact HRd.out _ _ HU.out, HB.out⟩
set_option maxRecDepth 100000 in
set_option maxHeartbeats 8000000 in
theorem shJoin_any (v : Value) (ss : List Sh) (w : World) (h : ReadsSh w v ss) (hs : ∀ s ∈ ss, s.l.length ≤ 1000000) (hl : ∀ k, ((ss.take k).flatMap pesS).length ≤ 1000000) :
    Calls Try.prog 53 #[v] w fun e w' => ∃ r, e = .returned r ∧ ReadsL peV 10 w' r (pstL (ss.flatMap pesS)) ∧ Below w.heap.size w w' := by
  obtain ⟨hm, a0, c, rfl, h3⟩ := shs_open h.1
  have HV := Lib.hid h; have HL := Lib.hid hl
  clear h hl
  go_enter Try.func53, Try.ntmps53
  go_wp2_with fail
  go_loopw [3, 8] (fun u' i' wr => ∃ k : Nat, k ≤ ss.length ∧ i' = .int .i64 k ∧ Hid (wr.ownsRow w.heap.size 66 10 u' ((ss.take k).flatMap pesS).length (((ss.take k).flatMap pesS).flatMap peV)) ∧ Hid (Below w.heap.size w wr)) (fun _ i' _ => ss.length - (intOf i').toNat)
  case atStart => exact ⟨0, by omega, rfl, World.ownsRow_nil _ _ _ _, Below.refl _ _⟩
  case round =>
    obtain ⟨k, hk, rfl, HU, HB⟩ := hrel
    by_cases hlt : k < ss.length
    · obtain ⟨⟨z, y, m⟩, hx⟩ : ∃ x, ss[k]? = some x := ⟨_, List.getElem?_eq_getElem hlt⟩
      obtain ⟨b, o, rfl, h4, h5, h6⟩ := h3 (by omega)
      obtain ⟨c0, c1⟩ := h6 k _ hx
      have k0 := keep HB.out h5 c0; have k1 := keep HB.out h5 c1
      have hmem := List.mem_of_getElem? hx
      have hrd := HV.out.2 _ hmem
      have hml := hs _ hmem
      simp only at k0 k1 hrd hml
      have q1 : (0 : Int) ≤ (k : Int) := by omega
      have q2 : (k : Int) < (ss.length : Int) := by omega
      have hS : (ss.take (k + 1)).flatMap pesS = (ss.take k).flatMap pesS ++ m.take z.toNat := by rw [List.take_add_one, hx, Option.toList_some, List.flatMap_append]; simp [pesS]
      have hll := HL.out (k + 1)
      rw [hS, List.length_append] at hll
      have HS := Lib.hid hS
      have hb0 : Below w.heap.size w (wr.alloc (.cells #[.int .i64 z, y] 70)) := HB.out.alloc HB.out.size _
      have hP := fun W (hW : Below w.heap.size w W) => shPeers_any z y m W (ReadsL.below hrd hW) hml
      generalize m.take z.toNat = q at hP HS hll
      have HP := Lib.hid hP
      obtain ⟨hmm, pm, cm, rfl, -⟩ := pes_open hrd
      clear hx h6 h3 c0 c1 hmem hrd hS hs hP
      have HA := Lib.hid hb0
      clear hb0
      go_wp2_with (first
        | (go_at_call 45; (with_reducible refine (HP.out _ HA.out).mono ?_); rintro e w6 ⟨r6, rfl, rd6, b6⟩; obtain ⟨hm6, p6, c6, rfl, -⟩ := pes_open rd6; have HB6 : Hid (Below wr.heap.size wr w6) := ((Below.refl wr.heap.size wr).alloc (Nat.le_refl _) _).trans (b6.mono (by simp)))
        | (at_builtin; refine list_app_reads peRow rfl (.tmp 12) (.tmp 14) rfl w.heap.size _ ((ss.take k).flatMap pesS).length (((ss.take k).flatMap pesS).flatMap peV) rfl (owns_below HU.out HB6.out) _ q.length (q.flatMap peV) rfl rd6 (peV_ones _) (by omega) (by omega) (Nat.le_trans HB.out.size HB6.out.size) w.heap.size w6 (Below.refl _ _) (Nat.le_refl _) ?_; intro v7 w7 o7 b7; rw [← List.length_append, ← List.flatMap_append, ← HS.out] at o7))
      go_roundw
      case rel => exact ⟨k + 1, by omega, by go_num, o7, (HB.out.trans (HB6.out.mono HB.out.size)).trans b7⟩
      case measure => simp [intOf]; omega
    · obtain rfl : k = ss.length := by omega
      have hTk : ss.take ss.length = ss := List.take_length
      have hll := HL.out ss.length
      rw [hTk] at HU hll
      obtain ⟨AL, hAL⟩ : ∃ AL, AL = ss.flatMap pesS := ⟨_, rfl⟩
      rw [← hAL] at HU hll
      have HAL := Lib.hid hAL
      have HSo := Lib.hid (tsorted_any _ _ wr (owns_readsL HU.out) hll)
      clear hTk h3 hs hAL
      obtain ⟨g, cc, rfl⟩ := owns_slice HU.out
      go_wp2_with (go_at_call 62; (with_reducible refine HSo.out.mono ?_); rintro e w6 ⟨r6, rfl, rd6, b6⟩)
      go_ret
      exact ⟨_, rfl, by rw [← HAL.out]; exact rd6, below2 HB.out b6⟩
set_option maxRecDepth 100000 in
set_option maxHeartbeats 8000000 in
theorem refShJoin_any (v : Value) (ss : List Sh) (w : World) (h : ReadsSh w v ss) (hs : ∀ s ∈ ss, s.l.length ≤ 1000000) (hl : ∀ k, ((ss.take k).flatMap pesS).length ≤ 1000000) :
    Calls Try.prog 54 #[v] w fun e w' => ∃ r, e = .returned r ∧ ReadsL peV 10 w' r (pstL (ss.flatMap pesS)) ∧ Below w.heap.size w w' := by
  obtain ⟨hm, a0, c, rfl, h3⟩ := shs_open h.1
  have HV := Lib.hid h; have HL := Lib.hid hl
  clear h hl
  have HMade : Hid ((w.alloc (.cells #[] 66)).ownsRow w.heap.size 66 10 (.slice (some ⟨w.heap.size, 0, none⟩) 0 0) 0 []) := own_made rfl (Nat.le_refl _)
  have HB0 : Hid (Below w.heap.size w (w.alloc (.cells #[] 66))) := (Below.refl _ _).alloc (Nat.le_refl _) _
  go_enter Try.func54, Try.ntmps54
  go_wp2_with fail
  go_loopw [3, 4] (fun u' i' wr => ∃ k : Nat, k ≤ ss.length ∧ i' = .int .i64 k ∧ Hid (wr.ownsRow w.heap.size 66 10 u' ((ss.take k).flatMap pesS).length (((ss.take k).flatMap pesS).flatMap peV)) ∧ Hid (Below w.heap.size w wr)) (fun _ i' _ => ss.length - (intOf i').toNat)
  case atStart => exact ⟨0, by omega, rfl, HMade.out, HB0.out⟩
  case round =>
    clear HMade HB0
    obtain ⟨k, hk, rfl, HU, HB⟩ := hrel
    by_cases hlt : k < ss.length
    · obtain ⟨⟨z, y, m⟩, hx⟩ : ∃ x, ss[k]? = some x := ⟨_, List.getElem?_eq_getElem hlt⟩
      obtain ⟨b, o, rfl, h4, h5, h6⟩ := h3 (by omega)
      obtain ⟨c0, c1⟩ := h6 k _ hx
      have k0 := keep HB.out h5 c0; have k1 := keep HB.out h5 c1
      have hmem := List.mem_of_getElem? hx
      have hrd := HV.out.2 _ hmem
      have hml := hs _ hmem
      simp only at k0 k1 hrd hml
      have q1 : (0 : Int) ≤ (k : Int) := by omega
      have q2 : (k : Int) < (ss.length : Int) := by omega
      have hS : (ss.take (k + 1)).flatMap pesS = (ss.take k).flatMap pesS ++ m.take z.toNat := by rw [List.take_add_one, hx, Option.toList_some, List.flatMap_append]; simp [pesS]
      have hll := HL.out (k + 1)
      rw [hS, List.length_append] at hll
      have HS := Lib.hid hS
      have hP := fun W (hW : Below w.heap.size w W) => refShPeers_any z y m W (ReadsL.below hrd hW) hml
      generalize m.take z.toNat = q at hP HS hll
      have HP := Lib.hid hP
      obtain ⟨hmm, pm, cm, rfl, -⟩ := pes_open hrd
      clear hx h6 h3 c0 c1 hmem hrd hS hs hP
      go_wp2_with (first
        | (go_at_call 46; (with_reducible refine (HP.out _ HB.out).mono ?_); rintro e w6 ⟨r6, rfl, rd6, b6⟩; obtain ⟨hm6, p6, c6, rfl, -⟩ := pes_open rd6; have HB6 : Hid (Below wr.heap.size wr w6) := b6)
        | (at_builtin; refine list_app_reads peRow rfl (.tmp 12) (.tmp 17) rfl w.heap.size _ ((ss.take k).flatMap pesS).length (((ss.take k).flatMap pesS).flatMap peV) rfl (owns_below HU.out HB6.out) _ q.length (q.flatMap peV) rfl rd6 (peV_ones _) (by omega) (by omega) (Nat.le_trans HB.out.size HB6.out.size) w.heap.size w6 (Below.refl _ _) (Nat.le_refl _) ?_; intro v7 w7 o7 b7; rw [← List.length_append, ← List.flatMap_append, ← HS.out] at o7))
      go_roundw
      case rel => exact ⟨k + 1, by omega, by go_num, o7, (HB.out.trans (HB6.out.mono HB.out.size)).trans b7⟩
      case measure => simp [intOf]; omega
    · obtain rfl : k = ss.length := by omega
      have hTk : ss.take ss.length = ss := List.take_length
      have hll := HL.out ss.length
      rw [hTk] at HU hll
      obtain ⟨AL, hAL⟩ : ∃ AL, AL = ss.flatMap pesS := ⟨_, rfl⟩
      rw [← hAL] at HU hll
      have HAL := Lib.hid hAL
      have HSo := Lib.hid (refTsorted_any _ _ wr (owns_readsL HU.out) hll)
      clear hTk h3 hs hAL
      obtain ⟨g, cc, rfl⟩ := owns_slice HU.out
      go_wp2_with (go_at_call 75; (with_reducible refine HSo.out.mono ?_); rintro e w6 ⟨r6, rfl, rd6, b6⟩)
      go_ret
      exact ⟨_, rfl, by rw [← HAL.out]; exact rd6, below2 HB.out b6⟩
end Go.Proofs.Ytppmjbnhghaffaa
