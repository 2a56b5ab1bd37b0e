/- Texts put together: Del. No condition. -/
import Derived.Test.YtppmjbnhghaffaaRrncnnvzmkh
import Derived.Deep.RegionLaw
import Derived.Lib.SliceRun
namespace Go.Proofs.Ytppmjbnhghaffaa
open Go.RowKit

set_option maxRecDepth 100000 in
theorem clonePe (v : Value) (l : List Pe) (w : World) (h : ReadsL peV 10 w v l) (hl : l.length ≤ 1000000) :
    Calls Try.prog 100 #[v] w fun e w' => ∃ r, e = .returned r ∧ w'.ownsRow w.heap.size 66 10 r l.length (l.flatMap peV) ∧ Below w.heap.size w w' ∧ (l ≠ [] → ∃ g c, r = .slice (some ⟨g, 0, none⟩) l.length c) := by
  obtain ⟨hm, a, c, rfl, h3⟩ := pes_open h
  have hnil := fun (W : World) (a : Option Addr) (n c : Nat) => Lib.run_eql_slice_nil (P := Try.prog) W 58 66 a n c 0 0 Try.underlying58
  cases a with
  | none =>
    have h0 : l.length = 0 := by
      rcases Nat.eq_zero_or_pos l.length with h | h
      · exact h
      · obtain ⟨b, o, e, _⟩ := h3 h; cases e
    have e : l = [] := List.eq_nil_of_length_eq_zero h0
    subst e
    go_enter Try.func100, Try.ntmps100
    go_wp2_with fail
    go_ret
    exact ⟨_, rfl, World.ownsRow_nil _ _ _ _, Below.refl _ _, fun h => absurd rfl h⟩
  | some ad =>
    have hr : Reads (w.alloc (.cells #[] 66)) (.slice (some ad) l.length c) l.length 10 (l.flatMap peV) := Reads.below h ((Below.refl _ _).alloc (Nat.le_refl _) _)
    go_enter Try.func100, Try.ntmps100
    go_wp2_with (at_builtin; refine list_app_reads peRow rfl (.tmp 5) (.tmp 6) rfl w.heap.size _ 0 [] rfl (World.ownsRow_made w #[] 0 (Nat.le_refl _) (Nat.zero_le _) rfl) _ l.length (l.flatMap peV) rfl hr (peV_ones _) (by omega) (by omega) (by simp) w.heap.size w ((Below.refl _ _).alloc (Nat.le_refl _) _) (Nat.le_refl _) ?_; intro v' w' hown hb')
    go_ret
    simp only [Nat.zero_add, List.nil_append] at hown
    refine ⟨_, rfl, hown, hb', fun hne => ?_⟩
    have hp : 0 < l.length := by
      rcases Nat.eq_zero_or_pos l.length with h | h
      · exact absurd (List.eq_nil_of_length_eq_zero h) hne
      · exact h
    rcases hown.2 with ⟨_, h0⟩ | ⟨g, cap, cur, rfl, _⟩
    · omega
    · exact ⟨_, _, rfl⟩

theorem pe_take (l : List Pe) (i : Nat) : (l.flatMap peV).take (i * 10) = (l.take i).flatMap peV := by
  rcases Nat.lt_or_ge l.length i with h | h
  · rw [List.take_of_length_le (by rw [pes_len]; omega), List.take_of_length_le (by omega)]
  · conv => lhs; rw [← List.take_append_drop i l, List.flatMap_append]
    have e : i * 10 = ((l.take i).flatMap peV).length := by rw [pes_len, List.length_take, Nat.min_eq_left h]
    rw [e]; exact List.take_left
theorem pe_drop (l : List Pe) (i : Nat) : (l.flatMap peV).drop (i * 10) = (l.drop i).flatMap peV := by
  rcases Nat.lt_or_ge l.length i with h | h
  · rw [List.drop_of_length_le (by rw [pes_len]; omega), List.drop_of_length_le (by omega)]; rfl
  · conv => lhs; rw [← List.take_append_drop i l, List.flatMap_append]
    have e : i * 10 = ((l.take i).flatMap peV).length := by rw [pes_len, List.length_take, Nat.min_eq_left h]
    rw [e]; exact List.drop_left
theorem zeroPe (w : World) : (zeroValue 66).run Try.prog w = .ok (.agg #[.bool false, .int .u64 0, .int .u64 0, .int .i64 0, .bool false, .int .i64 0, .int .i64 0, .int .i64 0, .int .i64 0, .int .i64 0]) w := by
  have hi : (Try.prog.info? 66).map (fun i => (i.zero, i.size, i.bytes)) = some (some (.agg #[.bool false, .int .u64 0, .int .u64 0, .int .i64 0, .bool false, .int .i64 0, .int .i64 0, .int .i64 0, .int .i64 0, .int .i64 0]), 10, 80) := by kernel_rfl
  obtain ⟨i, hi, hz0, _⟩ := info_parts hi
  simp [zeroValue, typeInfo, hi, hz0]
set_option maxRecDepth 100000 in
set_option maxHeartbeats 4000000 in
theorem peDelete (l : List Pe) (i j : Nat) (hij : i < j) (hj : j ≤ l.length) (hl : l.length ≤ 1000000) (g cap base : Nat) (w : World) (hown : w.ownsRow base 66 10 (.slice (some ⟨g, 0, none⟩) l.length cap) l.length (l.flatMap peV)) :
    Calls Try.prog 113 #[.slice (some ⟨g, 0, none⟩) l.length cap, .int .i64 i, .int .i64 j] w fun e w' =>
      e = .returned (.slice (some ⟨g, 0, none⟩) (i + (l.length - j)) cap) ∧ w'.ownsRow base 66 10 (.slice (some ⟨g, 0, none⟩) (i + (l.length - j)) cap) (i + (l.length - j)) ((l.take i ++ l.drop j).flatMap peV) ∧ w.grownBy w' (some g) := by
  obtain ⟨hbg, hnc, hcm, cur, hR, hcur⟩ := owns_blk2 hown
  have hRd : RowBlk w.drew 66 g cap 10 cur := hR
  have h1 : ∀ u ∈ cur.take (l.length * 10), u.oneCell' = true := by rw [hcur]; exact peV_ones l
  have hcap : cap ≤ 9223372036854775807 := by unfold maxLen at hcm; omega
  obtain ⟨A, hA, hA2⟩ : ∃ A : Addr, (if cap = j then some (⟨g, 0, none⟩ : Addr) else some ⟨g, j * 10, none⟩) = some A ∧ (j < l.length → A = ⟨g, j * 10, none⟩) := by
    by_cases h : cap = j
    · exact ⟨_, by rw [if_pos h], fun h' => by omega⟩
    · exact ⟨_, by rw [if_neg h], fun _ => rfl⟩
  have hap := fun ty => run_app_room2 (P := Try.prog) peRow hRd i j (by omega) hj hnc h1 ty A (cap - j) hA2
  obtain ⟨w1, cur1, hr1, hg1, hR1, ht1⟩ := hap 58
  obtain ⟨w2, cur2, hr2, hg2, hR2, ht2⟩ := run_clear2 (P := Try.prog) peRow hR1 _ zeroPe (fun u hu => by simp [go_sem] at hu; rcases hu with rfl | rfl | rfl | rfl | rfl | rfl | rfl | rfl | rfl | rfl <;> rfl) (by simp [go_sem]) (i + (l.length - j)) (j - i) (by omega) (by omega) 0 (cap - (i + (l.length - j)))
  have e1 : l.length - (i + (l.length - j)) = j - i := by omega
  have hfin : w2.ownsRow base 66 10 (.slice (some ⟨g, 0, none⟩) (i + (l.length - j)) cap) (i + (l.length - j)) ((l.take i ++ l.drop j).flatMap peV) := by
    have := blk_owns (e := 66) (size := 10) (n := i + (l.length - j)) hR2 hbg (by omega) hcm
    rw [ht2, ht1, hcur, show cur.take (i * 10) = (cur.take (l.length * 10)).take (i * 10) by rw [List.take_take, Nat.min_eq_left (by omega)], hcur, pe_take l i, pe_drop l j, ← List.flatMap_append] at this
    exact this
  have hgr : w.grownBy w2 (some g) := ⟨hg2.os.trans hg1.os, hg2.tape.trans hg1.tape, hg2.output.trans hg1.output, Nat.le_trans hg1.size hg2.size, fun k hk hne => (hg2.block k (Nat.lt_of_lt_of_le hk hg1.size) hne).trans (hg1.block k hk hne)⟩
  have HF := Lib.hid (And.intro hfin hgr)
  have hic : i ≤ cap := by omega
  have hjc : j ≤ cap := by omega
  clear hfin hgr hg1 hg2 hR1 hR2 ht1 ht2 hap hRd hR hcur h1 hown hbg hA2
  go_enter Try.func113, Try.ntmps113
  go_wp2_with fail
  go_region_law (refine step_room2 rfl (.tmp 22) (.tmp 25) rfl rfl rfl hr1 ?_)
  go_wp2
  go_ret
  exact ⟨rfl, HF.out⟩
end Go.Proofs.Ytppmjbnhghaffaa
