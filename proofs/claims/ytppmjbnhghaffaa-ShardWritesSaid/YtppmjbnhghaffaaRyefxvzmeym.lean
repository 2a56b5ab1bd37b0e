/- Texts put together: ShH. No condition. -/
import Derived.Test.YtppmjbnhghaffaaRwmscjfdrqf
import Derived.Test.YtppmjbnhghaffaaRvdesaezpuu
namespace Go.Proofs.Ytppmjbnhghaffaa
open Go.RowKit Go.Lib

set_option maxRecDepth 100000 in
set_option maxHeartbeats 8000000 in
theorem shJoin_any (v : Value) (ss : List Sh) (w : World) (h : ReadsSh w v ss) (hs : ∀ s ∈ ss, s.l.length ≤ 1000000) (hl : ∀ k, ((ss.take k).flatMap pesS).length ≤ 1000000) :
    Calls Try.prog 53 #[v] w fun e w' => ∃ r, e = .returned r ∧ ReadsL peV 10 w' r (pstL (ss.flatMap pesS)) ∧ Below w.heap.size w w' := by
  obtain ⟨hm, a0, c, rfl, h3⟩ := shs_open h.1
  have HV := Lib.hid h; have HL := Lib.hid hl
  clear h hl
  go_enter Try.func53, Try.ntmps53
  go_wp2_with fail
  go_loopw [3, 8] (fun u' i' wr => ∃ k : Nat, k ≤ ss.length ∧ i' = .int .i64 k ∧ Hid (wr.ownsRow w.heap.size 66 10 u' ((ss.take k).flatMap pesS).length (((ss.take k).flatMap pesS).flatMap peV)) ∧ Hid (Below w.heap.size w wr)) (fun _ i' _ => ss.length - (intOf i').toNat)
  case atStart => exact ⟨0, by omega, rfl, World.ownsRow_nil _ _ _ _, Below.refl _ _⟩
  case round =>
    obtain ⟨k, hk, rfl, HU, HB⟩ := hrel
    by_cases hlt : k < ss.length
    · obtain ⟨⟨z, y, m⟩, hx⟩ : ∃ x, ss[k]? = some x := ⟨_, List.getElem?_eq_getElem hlt⟩
      obtain ⟨b, o, rfl, h4, h5, h6⟩ := h3 (by omega)
      obtain ⟨c0, c1⟩ := h6 k _ hx
      have k0 := keep HB.out h5 c0; have k1 := keep HB.out h5 c1
      have hmem := List.mem_of_getElem? hx
      have hrd := HV.out.2 _ hmem
      have hml := hs _ hmem
      simp only at k0 k1 hrd hml
      have q1 : (0 : Int) ≤ (k : Int) := by omega
      have q2 : (k : Int) < (ss.length : Int) := by omega
      have hS : (ss.take (k + 1)).flatMap pesS = (ss.take k).flatMap pesS ++ m.take z.toNat := by rw [List.take_add_one, hx, Option.toList_some, List.flatMap_append]; simp [pesS]
      have hll := HL.out (k + 1)
      rw [hS, List.length_append] at hll
      have HS := Lib.hid hS
      have hb0 : Below w.heap.size w (wr.alloc (.cells #[.int .i64 z, y] 70)) := HB.out.alloc HB.out.size _
      have hP := fun W (hW : Below w.heap.size w W) => shPeers_any z y m W (ReadsL.below hrd hW) hml
      generalize m.take z.toNat = q at hP HS hll
      have HP := Lib.hid hP
      obtain ⟨hmm, pm, cm, rfl, -⟩ := pes_open hrd
      clear hx h6 h3 c0 c1 hmem hrd hS hs hP
      have HA := Lib.hid hb0
      clear hb0
      go_wp2_with (first
        | (go_at_call 45; (with_reducible refine (HP.out _ HA.out).mono ?_); rintro e w6 ⟨r6, rfl, rd6, b6⟩; obtain ⟨hm6, p6, c6, rfl, -⟩ := pes_open rd6; have HB6 : Hid (Below wr.heap.size wr w6) := ((Below.refl wr.heap.size wr).alloc (Nat.le_refl _) _).trans (b6.mono (by simp)))
        | (at_builtin; refine list_app_reads peRow rfl (.tmp 12) (.tmp 14) rfl w.heap.size _ ((ss.take k).flatMap pesS).length (((ss.take k).flatMap pesS).flatMap peV) rfl (owns_below HU.out HB6.out) _ q.length (q.flatMap peV) rfl rd6 (peV_ones _) (by omega) (by omega) (Nat.le_trans HB.out.size HB6.out.size) w.heap.size w6 (Below.refl _ _) (Nat.le_refl _) ?_; intro v7 w7 o7 b7; rw [← List.length_append, ← List.flatMap_append, ← HS.out] at o7))
      go_roundw
      case rel => exact ⟨k + 1, by omega, by go_num, o7, (HB.out.trans (HB6.out.mono HB.out.size)).trans b7⟩
      case measure => simp [intOf]; omega
    · obtain rfl : k = ss.length := by omega
      have hTk : ss.take ss.length = ss := List.take_length
      have hll := HL.out ss.length
      rw [hTk] at HU hll
      obtain ⟨AL, hAL⟩ : ∃ AL, AL = ss.flatMap pesS := ⟨_, rfl⟩
      rw [← hAL] at HU hll
      have HAL := Lib.hid hAL
      have HSo := Lib.hid (tsorted_any _ _ wr (owns_readsL HU.out) hll)
      clear hTk h3 hs hAL
      obtain ⟨g, cc, rfl⟩ := owns_slice HU.out
      go_wp2_with (go_at_call 62; (with_reducible refine HSo.out.mono ?_); rintro e w6 ⟨r6, rfl, rd6, b6⟩)
      go_ret
      exact ⟨_, rfl, by rw [← HAL.out]; exact rd6, below2 HB.out b6⟩
end Go.Proofs.Ytppmjbnhghaffaa
