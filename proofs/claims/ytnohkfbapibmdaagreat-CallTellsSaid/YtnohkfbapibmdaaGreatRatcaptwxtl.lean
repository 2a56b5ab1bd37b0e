/- Texts put together: Ip6T, Ip6Ref. No condition. -/
import Derived.Test.YtnohkfbapibmdaaGreatRrekxwfrmvm
import Derived.Test.YtnohkfbapibmdaaGreatRows
import Derived.Deep.WholeRow
import Derived.WalkKit
import Derived.WalkSpells
import Derived.WalkLawsBesides
import Derived.BigGuardPart
import Derived.BigQuiet
import Derived.Deep.QuietTactic
import Derived.Deep.Light
import Derived.OwnWalk
namespace Go.Proofs.YtnohkfbapibmdaaGreat
open Go.RowKit


set_option maxRecDepth 100000 in
set_option maxHeartbeats 2000000 in
theorem v6Text_any (hi lo : Nat) (h1 : hi < 18446744073709551616) (h2 : lo < 18446744073709551616) (w : World) :
    Calls Tryz.prog 84 #[.int .u64 hi, .int .u64 lo] w fun e w' => e = .returned (.string (bs (v6text hi lo))) ∧ Below w.heap.size w w' := by
  have hal := fun w => all_any hi lo h1 h2 w
  have hg := grps_lt hi lo h1 h2
  have hT : v6text hi lo = textG (grps hi lo) (runL (grps hi lo)) := rfl
  have h8 : (grps hi lo).length = 8 := rfl
  have hsh := v6text_len hi lo h1 h2
  generalize grps hi lo = g at *
  have hrn := fun w => run_any g h8 hg w
  have hok := runK_ok g 8
  have hle := runK_le g h8 8
  rw [show runK g 8 = runL g from rfl] at hok hle
  unfold textG at hT
  generalize runL g = r at *
  obtain ⟨f, t⟩ := r
  simp only at hT hok hle hrn
  have hft := hok.1
  generalize hL : (g.map uv).toArray = L at *
  have hLs : L.size = 8 := by rw [← hL]; simp [h8]
  have hLo : L.all (·.oneCell') = true := by rw [← hL]; simp [uv, Value.oneCell']
  have hst : ∀ w1 : World, (storeCells ⟨w1.heap.size, 0, none⟩ L.toList 0).run Tryz.prog (w1.alloc (.cells #[.int .u16 0, .int .u16 0, .int .u16 0, .int .u16 0, .int .u16 0, .int .u16 0, .int .u16 0, .int .u16 0] 114)) = .ok () (w1.alloc (.cells L 114)) := by
    intro w1
    refine run_storeCells_new w1 _ _ L ?_ ?_ hLo
    · rw [hLs]; kernel_rfl
    · rw [hLs]; rfl
  have HST := Lib.hid hst; clear hst
  have HLD := Lib.hid (fun w1 : World => run_loadCellsFrom_new (P := Tryz.prog) w1 114 L 8 hLs)
  have e8 : (#[L[0], L[1], L[2], L[3], L[4], L[5], L[6], L[7]] : Array Value) = L := by
    apply Array.ext
    · simp [hLs]
    · intro i hi1 hi2
      rcases (by omega : i = 0 ∨ i = 1 ∨ i = 2 ∨ i = 3 ∨ i = 4 ∨ i = 5 ∨ i = 6 ∨ i = 7) with rfl | rfl | rfl | rfl | rfl | rfl | rfl | rfl <;> rfl
  have hrn' := hrn
  rw [← e8] at hrn'
  have HRN2 := Lib.hid hrn'; clear hrn' e8
  have HAL := Lib.hid hal; have HRN := Lib.hid hrn; have HT := Lib.hid hT; have HG := Lib.hid hg; have HL := Lib.hid hL; have H8 := Lib.hid h8
  clear hal hrn hT hg hL hok h8
  by_cases h22 : t - f < 2
  · have q1 : (t : Int) - (f : Int) < 2 := by omega
    go_enter Tryz.func84, Tryz.ntmps84
    go_wp2_with (first | (go_at_call 103; refine (HAL.out _).mono ?_; rintro e w1 ⟨rfl, b1⟩; have hst := HST.out w1; have hld := HLD.out w1) | (go_at_call 104; (with_reducible refine (HRN2.out _).mono ?_); rintro e w2 ⟨rfl, b2⟩))
    have hbl : BlockIs w2 w1.heap.size (g.map uv) 114 := by
      have := (BlockIs.new w1 (g.map uv) 114)
      rw [HL.out] at this; exact this.below b2
    have hrd : Reads w2 (.slice (some ⟨w1.heap.size, 0, none⟩) 8 8) 8 1 (g.map uv) := ⟨by simp [H8.out], by omega, Or.inr ⟨by omega, w1.heap.size, 0, 8, rfl, Nat.le_refl _, hbl.lt, fun j x hj => by rw [Nat.zero_add]; exact hbl.cell hj⟩⟩
    have hbw : Below w.heap.size w w2 := (b1.alloc b1.size _).trans (b2.mono (by have := b1.size; simp; omega))
    have hwr := written_any _ g w2 (by rw [H8.out]; omega) HG.out (by rw [H8.out]; exact hrd)
    have HWR := Lib.hid hwr; clear hwr hrd hbl hst hld
    go_wp2_with (go_at_call 105; refine HWR.out.mono ?_; rintro e w3 ⟨rfl, b3⟩)
    go_ret
    exact ⟨by rw [HT.out, if_pos h22]; rfl, below2 hbw b3⟩
  · have q1 : ¬ (t : Int) - (f : Int) < 2 := by omega
    go_enter Tryz.func84, Tryz.ntmps84
    go_wp2_with (first | (go_at_call 103; refine (HAL.out _).mono ?_; rintro e w1 ⟨rfl, b1⟩; have hst := HST.out w1; have hld := HLD.out w1) | (go_at_call 104; (with_reducible refine (HRN2.out _).mono ?_); rintro e w2 ⟨rfl, b2⟩))
    have hbl : BlockIs w2 w1.heap.size (g.map uv) 114 := by
      have := (BlockIs.new w1 (g.map uv) 114)
      rw [HL.out] at this; exact this.below b2
    have hrd : Reads w2 (.slice (some ⟨w1.heap.size, 0, none⟩) 8 8) 8 1 (g.map uv) := ⟨by simp [H8.out], by omega, Or.inr ⟨by omega, w1.heap.size, 0, 8, rfl, Nat.le_refl _, hbl.lt, fun j x hj => by rw [Nat.zero_add]; exact hbl.cell hj⟩⟩
    have hbw : Below w.heap.size w w2 := (b1.alloc b1.size _).trans (b2.mono (by have := b1.size; simp; omega))
    have r1 : Reads w2 (.slice (some ⟨w1.heap.size, 0, none⟩) f 8) f 1 ((g.take f).map uv) := by
      rcases hrd.take (k := f) (c' := 8) rfl (by omega) with h | h
      · rwa [← List.map_take] at h
      · omega
    have r2 : Reads w2 (.slice (some (if 8 = t then ⟨w1.heap.size, 0, none⟩ else ⟨w1.heap.size, t, none⟩)) (8 - t) (8 - t)) (8 - t) 1 ((g.drop t).map uv) := by
      have h := hrd.drop (k := t) (c' := 8 - t) hle (Nat.le_refl _)
      rw [← List.map_drop, Nat.zero_add] at h
      by_cases h8 : 8 = t
      · rw [if_pos h8]; subst h8
        refine ⟨h.1, h.2.1, Or.inl ⟨rfl, _, _, rfl⟩⟩
      · rw [if_neg h8]; exact h
    have n1 := fun x => written_any _ (g.take f) (ext w2 x) (by have := H8.out; simp; omega) (fun y hy => HG.out y (List.mem_of_mem_take hy)) (by have := r1.below (ext_below w2 x); rw [show (g.take f).length = f from by have := H8.out; simp; omega]; exact this)
    have n2 := fun x => written_any _ (g.drop t) (ext w2 x) (by have := H8.out; simp; omega) (fun y hy => HG.out y (List.mem_of_mem_drop hy)) (by have := r2.below (ext_below w2 x); rw [show (g.drop t).length = 8 - t from by rw [List.length_drop, H8.out]]; exact this)
    have l1 := hexJ_len (g.take f) (fun y hy => HG.out y (List.mem_of_mem_take hy))
    have l2 := hexJ_len (g.drop t) (fun y hy => HG.out y (List.mem_of_mem_drop hy))
    have l3 : (g.take f).length ≤ 8 := by have := H8.out; simp; omega
    have l4 : (g.drop t).length ≤ 8 := by have := H8.out; simp; omega
    have HR : Hid (v6text hi lo = hexJ (g.take f) ++ ([58, 58] ++ hexJ (g.drop t))) := by unfold Hid; rw [HT.out, if_neg h22]
    generalize hexJ (g.take f) = t1 at *
    generalize hexJ (g.drop t) = t2 at *
    have N1 := Lib.hid n1; have N2 := Lib.hid n2
    have hd : (⟨#[58, 58]⟩ : ByteArray) = bs [58, 58] := rfl
    have z0 : (bs [58, 58]).size ≤ 2 := by rw [bs_size]; exact Nat.le_refl _
    rw [← bs_size] at l1 l2
    have s1 : ¬ 9223372036854775807 < (bs t1).size + (bs [58, 58]).size := by omega
    have s2 : ¬ 9223372036854775807 < (bs t1).size + (bs [58, 58]).size + (bs t2).size := by omega
    have q2 : (0 : Int) ≤ (f : Int) := by omega
    have q3 : (f : Int) ≤ 8 := by omega
    have q4 : (0 : Int) ≤ (t : Int) := by omega
    have q5 : (t : Int) ≤ 8 := by omega
    clear n1 n2 r1 r2 hrd hbl hst hld
    refine wp_region_ext (by kernel_rfl) (by kernel_rfl) ?_
    repeat (go_big_quiet_step ((go_at_call 105; first | (with_reducible exact qe (N1.out _)) | (with_reducible exact qe (N2.out _)))))
    refine wpQuiet_nil ?_
    intro _ hw'
    obtain ⟨x, hw''⟩ := hw'
    subst hw''
    go_wp2_with fail
    all_goals
      go_ret
      refine ⟨ret_str ?_, below2 hbw (ext_below _ _)⟩
      rw [HR.out, bs_append, bs_append, List.append_assoc]
end Go.Proofs.YtnohkfbapibmdaaGreat
namespace Go.Proofs.YtnohkfbapibmdaaGreat
open Go.RowKit


theorem grp_hi (hi lo i : Nat) (h : hi < 18446744073709551616) (hi4 : i < 4) : (grps hi lo).getD i 0 = hi / 65536 ^ (3 - i) % 65536 := by
  rcases (by omega : i = 0 ∨ i = 1 ∨ i = 2 ∨ i = 3) with rfl | rfl | rfl | rfl
  · show hi / 281474976710656 = hi / 65536 ^ 3 % 65536; rw [show 65536 ^ 3 = 281474976710656 from rfl]; omega
  · show hi / 4294967296 % 65536 = hi / 65536 ^ 2 % 65536; rfl
  · show hi / 65536 % 65536 = hi / 65536 ^ 1 % 65536; rfl
  · show hi % 65536 = hi / 65536 ^ 0 % 65536; rw [show 65536 ^ 0 = 1 from rfl, Nat.div_one]
theorem grp_lo (hi lo i : Nat) (h : lo < 18446744073709551616) (hi4 : i < 4) : (grps hi lo).getD (i + 4) 0 = lo / 65536 ^ (3 - i) % 65536 := by
  rcases (by omega : i = 0 ∨ i = 1 ∨ i = 2 ∨ i = 3) with rfl | rfl | rfl | rfl
  · show lo / 281474976710656 = lo / 65536 ^ 3 % 65536; rw [show 65536 ^ 3 = 281474976710656 from rfl]; omega
  · show lo / 4294967296 % 65536 = lo / 65536 ^ 2 % 65536; rfl
  · show lo / 65536 % 65536 = lo / 65536 ^ 1 % 65536; rfl
  · show lo % 65536 = lo / 65536 ^ 0 % 65536; rw [show 65536 ^ 0 = 1 from rfl, Nat.div_one]
set_option maxRecDepth 100000 in
set_option maxHeartbeats 2000000 in
theorem group_any (hi lo i : Nat) (h1 : hi < 18446744073709551616) (h2 : lo < 18446744073709551616) (hi8 : i < 8) (w : World) :
    Calls Tryz.prog 89 #[.int .u64 hi, .int .u64 lo, .int .i64 i] w fun e w' => e = .returned (.int .i64 ((grps hi lo).getD i 0 : Nat)) ∧ w = w' := by
  by_cases h4 : i < 4
  · have hres := grp_hi hi lo i h1 h4
    have q1 : ¬ (3 : Int) < (i : Int) := by omega
    generalize (grps hi lo).getD i 0 = r at hres ⊢
    have HR := Lib.hid hres; clear hres
    go_enter Tryz.func89, Tryz.ntmps89
    go_wp2_with fail
    go_loop [2, 7] (fun x n => ∃ j m : Nat, j ≤ 3 ∧ x = .int .i64 j ∧ n = .int .u64 m ∧ m < 18446744073709551616 ∧ Hid (m / 65536 ^ (3 - j) = hi / 65536 ^ (3 - i))) (fun x _ => 3 - (intOf x).toNat)
    case atStart => exact ⟨i, hi, by omega, rfl, rfl, h1, rfl⟩
    case round =>
      obtain ⟨j, m, hj, rfl, rfl, hm, HM⟩ := hrel
      by_cases hj3 : j < 3
      · go_wp2_with fail
        go_round
        case rel =>
          refine ⟨j + 1, m / 65536, by omega, by go_num, by go_num, by omega, ?_⟩
          have := HM.out
          rw [show 3 - j = (3 - (j + 1)) + 1 from by omega, Nat.pow_succ, Nat.mul_comm, ← Nat.div_div_eq_div_mul] at this
          exact this
        case measure => simp [intOf]; omega
      · obtain rfl : j = 3 := by omega
        go_wp2_with fail
        go_ret
        refine ⟨ret_int ?_, rfl⟩
        have := HM.out
        rw [show 3 - 3 = 0 from rfl, show 65536 ^ 0 = 1 from rfl, Nat.div_one] at this
        rw [HR.out, ← this]; simp
  · obtain ⟨k, rfl⟩ : ∃ k, i = k + 4 := ⟨i - 4, by omega⟩
    have hres := grp_lo hi lo k h2 (by omega)
    have q1 : (3 : Int) < ((k + 4 : Nat) : Int) := by omega
    generalize (grps hi lo).getD (k + 4) 0 = r at hres ⊢
    have HR := Lib.hid hres; clear hres
    go_enter Tryz.func89, Tryz.ntmps89
    go_wp2_with fail
    go_loop [2, 7] (fun x n => ∃ j m : Nat, j ≤ 3 ∧ x = .int .i64 j ∧ n = .int .u64 m ∧ m < 18446744073709551616 ∧ Hid (m / 65536 ^ (3 - j) = lo / 65536 ^ (3 - k))) (fun x _ => 3 - (intOf x).toNat)
    case atStart => exact ⟨k, lo, by omega, by go_num, rfl, h2, rfl⟩
    case round =>
      obtain ⟨j, m, hj, rfl, rfl, hm, HM⟩ := hrel
      by_cases hj3 : j < 3
      · go_wp2_with fail
        go_round
        case rel =>
          refine ⟨j + 1, m / 65536, by omega, by go_num, by go_num, by omega, ?_⟩
          have := HM.out
          rw [show 3 - j = (3 - (j + 1)) + 1 from by omega, Nat.pow_succ, Nat.mul_comm, ← Nat.div_div_eq_div_mul] at this
          exact this
        case measure => simp [intOf]; omega
      · obtain rfl : j = 3 := by omega
        go_wp2_with fail
        go_ret
        refine ⟨ret_int ?_, rfl⟩
        have := HM.out
        rw [show 3 - 3 = 0 from rfl, show 65536 ^ 0 = 1 from rfl, Nat.div_one] at this
        rw [HR.out, ← this]; simp

set_option maxRecDepth 100000 in
set_option maxHeartbeats 2000000 in
theorem zeros_any (hi lo i : Nat) (h1 : hi < 18446744073709551616) (h2 : lo < 18446744073709551616) (hi8 : i ≤ 8) (w : World) :
    Calls Tryz.prog 87 #[.int .u64 hi, .int .u64 lo, .int .i64 i] w fun e w' => e = .returned (.int .i64 (zc ((grps hi lo).drop i) : Nat)) ∧ w = w' := by
  have hgr := fun (j : Nat) (hj : j < 8) w => group_any hi lo j h1 h2 hj w
  have h8 : (grps hi lo).length = 8 := rfl
  generalize hz : zc ((grps hi lo).drop i) = z
  generalize grps hi lo = g at *
  have HGR := Lib.hid hgr; have HZ := Lib.hid hz; have H8 := Lib.hid h8; clear hgr hz h8
  go_enter Tryz.func87, Tryz.ntmps87
  go_wp2_with fail
  go_loop [7] (fun x => ∃ n : Nat, x = .int .i64 n ∧ i + n ≤ 8 ∧ Hid (n + zc (g.drop (i + n)) = z)) (fun x => 8 - (intOf x).toNat)
  case atStart => exact ⟨0, rfl, by omega, by unfold Hid; rw [Nat.add_zero, HZ.out]; omega⟩
  case round =>
    obtain ⟨n, rfl, hn, HN⟩ := hrel
    by_cases hlt : i + n < 8
    · have hg := fun w => HGR.out (i + n) hlt w
      have hzd := zc_drop (g := g) (j := i + n) (by rw [H8.out]; exact hlt)
      generalize g.getD (i + n) 0 = x at *
      simp only [show ((i + n : Nat) : Int) = (i : Int) + (n : Int) from by omega] at hg
      have HG := Lib.hid hg; clear hg
      by_cases hx : x = 0
      · have hq : ((x : Int) == 0) = true := by rw [hx]; rfl
        have HX := Lib.hid hx; have HZD := Lib.hid hzd; clear hx hzd
        go_wp2_with (go_at_call 89; refine (HG.out _).mono ?_; rintro e w1 ⟨rfl, rfl⟩)
        go_round
        case rel => exact ⟨n + 1, by go_num, by omega, by have a := HN.out; have b := HZD.out; rw [if_pos HX.out] at b; unfold Hid; rw [show i + (n + 1) = i + n + 1 from by omega]; omega⟩
        case measure => simp [intOf]; omega
        all_goals (exfalso; omega)
      · have hq : ((x : Int) == 0) = false := by rw [beq_eq_false_iff_ne]; omega
        have hnz : n = z := by have := HN.out; rw [hzd, if_neg hx] at this; omega
        have HNZ := Lib.hid hnz
        clear hx hzd hnz
        go_wp2_with (go_at_call 89; refine (HG.out _).mono ?_; rintro e w1 ⟨rfl, rfl⟩)
        · go_ret
          exact ⟨by rw [← HNZ.out]; rfl, rfl⟩
        all_goals (exfalso; omega)
    · have hnz : n = z := by
        have := HN.out
        rw [List.drop_eq_nil_of_le (by have := H8.out; omega)] at this; simpa [zc] using this
      have HNZ := Lib.hid hnz; clear hnz
      go_wp2_with fail
      go_ret
      exact ⟨by rw [← HNZ.out]; rfl, rfl⟩
theorem parts_any (s : ByteArray) (w : World) (hs : s.size ≤ 8000000000000) :
    Calls Tryz.prog 81 #[.string s] w (GivesStrs w (partsL s.data.toList)) := by
  by_cases he : s.toList.isEmpty = true
  · have hr : partsL s.data.toList = [] := by unfold partsL; rw [if_pos (empty_data.1 he)]
    have HR := Lib.hid hr; clear hr
    go_enter Tryz.func81, Tryz.ntmps81
    go_wp2_with fail
    go_ret
    exact ⟨_, rfl, by rw [HR.out]; exact World.ownsRow_nil _ _ _ _, Below.refl _ _⟩
  have he : s.toList.isEmpty = false := by simpa using he
  have hr : partsL s.data.toList = splitL 58 s.data.toList := by unfold partsL; rw [if_neg (fun h => by rw [empty_data.2 h] at he; cases he)]
  have hsp := fun w => refSplit_any s 58 w hs
  rw [← hr] at hsp
  have HS := Lib.hid hsp; clear hsp hr
  go_enter Tryz.func81, Tryz.ntmps81
  go_wp2_with (go_at_call 17; refine (HS.out _).mono ?_; rintro e w1 ⟨v, rfl, ho, hb⟩)
  go_ret
  exact ⟨_, rfl, ho, hb⟩
theorem gapI_none {l : List UInt8} (h : ∀ k : Nat, ¬ (l[k]? = some 58 ∧ l[k + 1]? = some 58)) : gapI l = -1 := by unfold gapI; rw [gapO_none h]
set_option maxRecDepth 100000 in
set_option maxHeartbeats 2000000 in
theorem gap_any (s : ByteArray) (w : World) (hs : s.size ≤ 8000000000000) :
    Calls Tryz.prog 79 #[.string s] w fun e w' => e = .returned (.int .i64 (gapI s.data.toList)) ∧ w = w' := by
  go_enter Tryz.func79, Tryz.ntmps79
  go_wp2_with fail
  go_loop [3] (fun x => ∃ k : Nat, x = .int .i64 k ∧ k ≤ s.size ∧ Hid (∀ j, j < k → ¬ (s.data.toList[j]? = some 58 ∧ s.data.toList[j + 1]? = some 58))) (fun x => s.size - (intOf x).toNat)
  case atStart => exact ⟨0, rfl, by omega, fun j h => by omega⟩
  case round =>
    obtain ⟨k, rfl, hk, HK⟩ := hrel
    by_cases hk2 : k + 1 < s.size
    · by_cases c1 : s[k] = 58
      · have q1 : ((s[k].toNat : Int) == 58) = true := by rw [c1]; rfl
        by_cases c2 : s[k + 1] = 58
        · have q2 : ((s[k + 1].toNat : Int) == 58) = true := by rw [c2]; rfl
          have hr : gapI s.data.toList = k := by unfold gapI; rw [gapO_at (by rw [get_data s k (by omega), c1]) (by rw [get_data s (k + 1) hk2, c2]) HK.out]
          have HR := Lib.hid hr; clear hr c1 c2
          go_wp2_with fail
          go_ret
          exact ⟨by rw [HR.out]; rfl, rfl⟩
        · have q2 : ((s[k + 1].toNat : Int) == 58) = false := by rw [show (58 : Int) = ((58 : UInt8).toNat : Int) from rfl, byte_beq]; simpa using c2
          have HC := Lib.hid c2; clear c1 c2
          go_wp2_with fail
          go_round
          case rel =>
            refine ⟨k + 1, by go_num, by omega, fun j hj ⟨a, b⟩ => ?_⟩
            rcases (by omega : j < k ∨ j = k) with h | rfl
            · exact HK.out j h ⟨a, b⟩
            · rw [get_data s (j + 1) hk2] at b; exact HC.out (by simpa using b)
          case measure => simp [intOf]; omega
      · have q1 : ((s[k].toNat : Int) == 58) = false := by rw [show (58 : Int) = ((58 : UInt8).toNat : Int) from rfl, byte_beq]; simpa using c1
        have HC := Lib.hid c1; clear c1
        go_wp2_with fail
        go_round
        case rel =>
          refine ⟨k + 1, by go_num, by omega, fun j hj ⟨a, b⟩ => ?_⟩
          rcases (by omega : j < k ∨ j = k) with h | rfl
          · exact HK.out j h ⟨a, b⟩
          · rw [get_data s j (by omega)] at a; exact HC.out (by simpa using a)
        case measure => simp [intOf]; omega
    · have hr : gapI s.data.toList = -1 := gapI_none fun j ⟨a, b⟩ => by
        rcases Nat.lt_or_ge j k with h | h
        · exact HK.out j h ⟨a, b⟩
        · rw [List.getElem?_eq_none (by rw [len_data]; omega)] at b; cases b
      have HR := Lib.hid hr; clear hr
      go_wp2_with fail
      go_ret
      exact ⟨by rw [HR.out]; rfl, rfl⟩
end Go.Proofs.YtnohkfbapibmdaaGreat
