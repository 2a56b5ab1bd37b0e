/- Texts put together: Ip6T. No condition. -/
import Derived.Test.YtdmobgdgeiiicaaRhxtyzjbyry
import Derived.Test.YtdmobgdgeiiicaaRows
import Derived.Deep.WholeRow
import Derived.WalkKit
import Derived.WalkSpells
import Derived.WalkLawsBesides
import Derived.BigGuardPart
import Derived.BigQuiet
import Derived.Deep.QuietTactic
import Derived.Deep.Light
import Derived.OwnWalk
namespace Go.Proofs.Ytdmobgdgeiiicaa
open Go.RowKit


set_option maxRecDepth 100000 in
set_option maxHeartbeats 2000000 in
theorem v6Text_any (hi lo : Nat) (h1 : hi < 18446744073709551616) (h2 : lo < 18446744073709551616) (w : World) :
    Calls Try.prog 79 #[.int .u64 hi, .int .u64 lo] w fun e w' => e = .returned (.string (bs (v6text hi lo))) ∧ Below w.heap.size w w' := by
  have hal := fun w => all_any hi lo h1 h2 w
  have hg := grps_lt hi lo h1 h2
  have hT : v6text hi lo = textG (grps hi lo) (runL (grps hi lo)) := rfl
  have h8 : (grps hi lo).length = 8 := rfl
  have hsh := v6text_len hi lo h1 h2
  generalize grps hi lo = g at *
  have hrn := fun w => run_any g h8 hg w
  have hok := runK_ok g 8
  have hle := runK_le g h8 8
  rw [show runK g 8 = runL g from rfl] at hok hle
  unfold textG at hT
  generalize runL g = r at *
  obtain ⟨f, t⟩ := r
  simp only at hT hok hle hrn
  have hft := hok.1
  generalize hL : (g.map uv).toArray = L at *
  have hLs : L.size = 8 := by rw [← hL]; simp [h8]
  have hLo : L.all (·.oneCell') = true := by rw [← hL]; simp [uv, Value.oneCell']
  have hst : ∀ w1 : World, (storeCells ⟨w1.heap.size, 0, none⟩ L.toList 0).run Try.prog (w1.alloc (.cells #[.int .u16 0, .int .u16 0, .int .u16 0, .int .u16 0, .int .u16 0, .int .u16 0, .int .u16 0, .int .u16 0] 126)) = .ok () (w1.alloc (.cells L 126)) := by
    intro w1
    refine run_storeCells_new w1 _ _ L ?_ ?_ hLo
    · rw [hLs]; kernel_rfl
    · rw [hLs]; rfl
  have HST := Lib.hid hst; clear hst
  have HLD := Lib.hid (fun w1 : World => run_loadCellsFrom_new (P := Try.prog) w1 126 L 8 hLs)
  have e8 : (#[L[0], L[1], L[2], L[3], L[4], L[5], L[6], L[7]] : Array Value) = L := by
    apply Array.ext
    · simp [hLs]
    · intro i hi1 hi2
      rcases (by omega : i = 0 ∨ i = 1 ∨ i = 2 ∨ i = 3 ∨ i = 4 ∨ i = 5 ∨ i = 6 ∨ i = 7) with rfl | rfl | rfl | rfl | rfl | rfl | rfl | rfl <;> rfl
  have hrn' := hrn
  rw [← e8] at hrn'
  have HRN2 := Lib.hid hrn'; clear hrn' e8
  have HAL := Lib.hid hal; have HRN := Lib.hid hrn; have HT := Lib.hid hT; have HG := Lib.hid hg; have HL := Lib.hid hL; have H8 := Lib.hid h8
  clear hal hrn hT hg hL hok h8
  by_cases h22 : t - f < 2
  · have q1 : (t : Int) - (f : Int) < 2 := by omega
    go_enter Try.func79, Try.ntmps79
    go_wp2_with (first | (go_at_call 105; refine (HAL.out _).mono ?_; rintro e w1 ⟨rfl, b1⟩; have hst := HST.out w1; have hld := HLD.out w1) | (go_at_call 106; (with_reducible refine (HRN2.out _).mono ?_); rintro e w2 ⟨rfl, b2⟩))
    have hbl : BlockIs w2 w1.heap.size (g.map uv) 126 := by
      have := (BlockIs.new w1 (g.map uv) 126)
      rw [HL.out] at this; exact this.below b2
    have hrd : Reads w2 (.slice (some ⟨w1.heap.size, 0, none⟩) 8 8) 8 1 (g.map uv) := ⟨by simp [H8.out], by omega, Or.inr ⟨by omega, w1.heap.size, 0, 8, rfl, Nat.le_refl _, hbl.lt, fun j x hj => by rw [Nat.zero_add]; exact hbl.cell hj⟩⟩
    have hbw : Below w.heap.size w w2 := (b1.alloc b1.size _).trans (b2.mono (by have := b1.size; simp; omega))
    have hwr := written_any _ g w2 (by rw [H8.out]; omega) HG.out (by rw [H8.out]; exact hrd)
    have HWR := Lib.hid hwr; clear hwr hrd hbl hst hld
    go_wp2_with (go_at_call 107; refine HWR.out.mono ?_; rintro e w3 ⟨rfl, b3⟩)
    go_ret
    exact ⟨by rw [HT.out, if_pos h22]; rfl, below2 hbw b3⟩
  · have q1 : ¬ (t : Int) - (f : Int) < 2 := by omega
    go_enter Try.func79, Try.ntmps79
    go_wp2_with (first | (go_at_call 105; refine (HAL.out _).mono ?_; rintro e w1 ⟨rfl, b1⟩; have hst := HST.out w1; have hld := HLD.out w1) | (go_at_call 106; (with_reducible refine (HRN2.out _).mono ?_); rintro e w2 ⟨rfl, b2⟩))
    have hbl : BlockIs w2 w1.heap.size (g.map uv) 126 := by
      have := (BlockIs.new w1 (g.map uv) 126)
      rw [HL.out] at this; exact this.below b2
    have hrd : Reads w2 (.slice (some ⟨w1.heap.size, 0, none⟩) 8 8) 8 1 (g.map uv) := ⟨by simp [H8.out], by omega, Or.inr ⟨by omega, w1.heap.size, 0, 8, rfl, Nat.le_refl _, hbl.lt, fun j x hj => by rw [Nat.zero_add]; exact hbl.cell hj⟩⟩
    have hbw : Below w.heap.size w w2 := (b1.alloc b1.size _).trans (b2.mono (by have := b1.size; simp; omega))
    have r1 : Reads w2 (.slice (some ⟨w1.heap.size, 0, none⟩) f 8) f 1 ((g.take f).map uv) := by
      rcases hrd.take (k := f) (c' := 8) rfl (by omega) with h | h
      · rwa [← List.map_take] at h
      · omega
    have r2 : Reads w2 (.slice (some (if 8 = t then ⟨w1.heap.size, 0, none⟩ else ⟨w1.heap.size, t, none⟩)) (8 - t) (8 - t)) (8 - t) 1 ((g.drop t).map uv) := by
      have h := hrd.drop (k := t) (c' := 8 - t) hle (Nat.le_refl _)
      rw [← List.map_drop, Nat.zero_add] at h
      by_cases h8 : 8 = t
      · rw [if_pos h8]; subst h8
        refine ⟨h.1, h.2.1, Or.inl ⟨rfl, _, _, rfl⟩⟩
      · rw [if_neg h8]; exact h
    have n1 := fun x => written_any _ (g.take f) (ext w2 x) (by have := H8.out; simp; omega) (fun y hy => HG.out y (List.mem_of_mem_take hy)) (by have := r1.below (ext_below w2 x); rw [show (g.take f).length = f from by have := H8.out; simp; omega]; exact this)
    have n2 := fun x => written_any _ (g.drop t) (ext w2 x) (by have := H8.out; simp; omega) (fun y hy => HG.out y (List.mem_of_mem_drop hy)) (by have := r2.below (ext_below w2 x); rw [show (g.drop t).length = 8 - t from by rw [List.length_drop, H8.out]]; exact this)
    have l1 := hexJ_len (g.take f) (fun y hy => HG.out y (List.mem_of_mem_take hy))
    have l2 := hexJ_len (g.drop t) (fun y hy => HG.out y (List.mem_of_mem_drop hy))
    have l3 : (g.take f).length ≤ 8 := by have := H8.out; simp; omega
    have l4 : (g.drop t).length ≤ 8 := by have := H8.out; simp; omega
    have HR : Hid (v6text hi lo = hexJ (g.take f) ++ ([58, 58] ++ hexJ (g.drop t))) := by unfold Hid; rw [HT.out, if_neg h22]
    generalize hexJ (g.take f) = t1 at *
    generalize hexJ (g.drop t) = t2 at *
    have N1 := Lib.hid n1; have N2 := Lib.hid n2
    have hd : (⟨#[58, 58]⟩ : ByteArray) = bs [58, 58] := rfl
    have z0 : (bs [58, 58]).size ≤ 2 := by rw [bs_size]; exact Nat.le_refl _
    rw [← bs_size] at l1 l2
    have s1 : ¬ 9223372036854775807 < (bs t1).size + (bs [58, 58]).size := by omega
    have s2 : ¬ 9223372036854775807 < (bs t1).size + (bs [58, 58]).size + (bs t2).size := by omega
    have q2 : (0 : Int) ≤ (f : Int) := by omega
    have q3 : (f : Int) ≤ 8 := by omega
    have q4 : (0 : Int) ≤ (t : Int) := by omega
    have q5 : (t : Int) ≤ 8 := by omega
    clear n1 n2 r1 r2 hrd hbl hst hld
    refine wp_region_ext (by kernel_rfl) (by kernel_rfl) ?_
    repeat (go_big_quiet_step ((go_at_call 107; first | (with_reducible exact qe (N1.out _)) | (with_reducible exact qe (N2.out _)))))
    refine wpQuiet_nil ?_
    intro _ hw'
    obtain ⟨x, hw''⟩ := hw'
    subst hw''
    go_wp2_with fail
    all_goals
      go_ret
      refine ⟨ret_str ?_, below2 hbw (ext_below _ _)⟩
      rw [HR.out, bs_append, bs_append, List.append_assoc]
end Go.Proofs.Ytdmobgdgeiiicaa
