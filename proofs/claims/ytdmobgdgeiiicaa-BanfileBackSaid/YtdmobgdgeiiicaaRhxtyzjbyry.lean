/- Texts put together: Ip6R. No condition. -/
import Derived.Test.YtdmobgdgeiiicaaRhoyyfbyghc
import Derived.Test.YtdmobgdgeiiicaaRows
import Derived.WalkKit
import Derived.WalkSpells
import Derived.WalkLawsBesides
import Derived.BigGuardPart
import Derived.BigQuiet
import Derived.Deep.QuietTactic
import Derived.Deep.Light
import Derived.OwnWalk
namespace Go.Proofs.Ytdmobgdgeiiicaa
open Go.RowKit

theorem zc_drop {g : List Nat} {j : Nat} (h : j < g.length) : zc (g.drop j) = if g.getD j 0 = 0 then zc (g.drop (j + 1)) + 1 else 0 := by
  rw [List.drop_eq_getElem_cons h, show g.getD j 0 = g[j] from by simp [List.getD, h]]; rfl
theorem runK_le (g : List Nat) (h8 : g.length = 8) (k : Nat) : (runK g k).2 ≤ 8 := by
  induction k with
  | zero => exact Nat.zero_le _
  | succ k ih =>
    rw [runK_succ]; unfold runStep
    split
    · rename_i h
      have := zc_le (g.drop k)
      rw [List.length_drop, h8] at this
      simp only; omega
    · exact ih
set_option maxRecDepth 100000 in
set_option maxHeartbeats 2000000 in
theorem run_any (g : List Nat) (h8 : g.length = 8) (hg : ∀ x ∈ g, x < 65536) (w : World) :
    Calls Try.prog 106 #[.agg (g.map uv).toArray] w fun e w' => e = .returned (.tuple #[.int .i64 (runL g).1, .int .i64 (runL g).2]) ∧ Below w.heap.size w w' := by
  have hbl := BlockIs.new w (g.map uv) 126
  have hcc : ∀ (j : Nat), j < 8 → (w.alloc (.cells (g.map uv).toArray 126)).cell? ⟨w.heap.size, j, none⟩ = some (.int .u16 (g.getD j 0)) := fun j h => hbl.cell (by rw [List.getElem?_map, List.getElem?_eq_getElem (by omega), show g.getD j 0 = g[j]'(by omega) from by simp [List.getD, h8, h]]; rfl)
  have HC := Lib.hid hcc; have H8 := Lib.hid h8; have HG := Lib.hid hg; clear hcc hbl hg
  generalize hL : (g.map uv).toArray = L at *
  have hLs : L.size = 8 := by rw [← hL]; simp [h8]
  have HL := Lib.hid hL; clear hL h8
  go_enter Try.func106, Try.ntmps106
  go_wp2_with fail
  go_loop [4, 2, 3] (fun i f t => ∃ k : Nat, k ≤ 8 ∧ i = .int .i64 k ∧ f = .int .i64 (runK g k).1 ∧ t = .int .i64 (runK g k).2) (fun i _ _ => 8 - (intOf i).toNat)
  case atStart => exact ⟨0, Nat.zero_le _, rfl, rfl, rfl⟩
  case round =>
    obtain ⟨k, hk, rfl, rfl, rfl⟩ := hrel
    by_cases hk2 : k < 8
    · have hko := runK_ok g k
      have hks := runK_succ g k
      have hft := runK_le g H8.out k
      unfold runStep at hks
      have hzl : zc (g.drop k) ≤ 8 - k := by have := zc_le (g.drop k); have := H8.out; simp at *; omega
      generalize runK g k = r at *
      generalize hz : zc (g.drop k) = z at *
      obtain ⟨f, t⟩ := r
      simp only at hft hko
      have hfl := hko.1
      have HKO := Lib.hid hko; have HKS := Lib.hid hks; have HZ := Lib.hid hz; clear hko hks hz
      go_wp2_with fail
      go_loop [5] (fun x => ∃ j : Nat, k ≤ j ∧ j ≤ 8 ∧ x = .int .i64 j ∧ Hid (j + zc (g.drop j) = k + z)) (fun x => 8 - (intOf x).toNat)
      case atStart => exact ⟨k, Nat.le_refl _, by omega, rfl, by unfold Hid; rw [HZ.out]⟩
      case round =>
        obtain ⟨j, hj, hj8, rfl, HJ⟩ := hrel
        by_cases hj2 : j < 8
        · have c1 := HC.out j hj2
          have hzd := zc_drop (g := g) (j := j) (by rw [H8.out]; exact hj2)
          generalize g.getD j 0 = x at *
          by_cases hx : x = 0
          · have hq : ((x : Int) == 0) = true := by rw [hx]; rfl
            have HX := Lib.hid hx; have HZD := Lib.hid hzd; clear hx hzd
            go_wp2_with fail
            go_round
            case rel => exact ⟨j + 1, by omega, by omega, by go_num, by have := HJ.out; have h2 := HZD.out; rw [if_pos HX.out] at h2; unfold Hid; omega⟩
            case measure => simp [intOf]; omega
          · have hq : ((x : Int) == 0) = false := by rw [beq_eq_false_iff_ne]; omega
            have hjz : j = k + z := by have := HJ.out; rw [hzd, if_neg hx] at this; omega
            clear hx hzd
            by_cases hlt : t - f < z
            · have hks : Hid (runK g (k + 1) = (k, k + z)) := by unfold Hid; rw [HKS.out, if_pos hlt]
              have q1 : (t : Int) - (f : Int) < (j : Int) - (k : Int) := by omega
              have HJZ := Lib.hid hjz
              clear HKS HKO hlt hjz
              go_wp2_with fail
              go_round
              case rel => exact ⟨k + 1, by omega, by go_num, by rw [hks.out], by rw [hks.out, HJZ.out]⟩
              case measure => simp [intOf]; omega
              all_goals (exfalso; omega)
            · have hks : Hid (runK g (k + 1) = (f, t)) := by unfold Hid; rw [HKS.out, if_neg hlt]
              have q1 : ¬ (t : Int) - (f : Int) < (j : Int) - (k : Int) := by omega
              have HJZ := Lib.hid hjz
              clear HKS HKO hlt hjz
              go_wp2_with fail
              go_round
              case rel => exact ⟨k + 1, by omega, by go_num, by rw [hks.out], by rw [hks.out]⟩
              case measure => simp [intOf]; omega
              all_goals (exfalso; omega)
        · have hjz : j = k + z := by
            have := HJ.out
            rw [List.drop_eq_nil_of_le (by have := H8.out; omega)] at this; simp [zc] at this; omega
          by_cases hlt : t - f < z
          · have hks : Hid (runK g (k + 1) = (k, k + z)) := by unfold Hid; rw [HKS.out, if_pos hlt]
            have q1 : (t : Int) - (f : Int) < (j : Int) - (k : Int) := by omega
            have HJZ := Lib.hid hjz
            clear HKS HKO hlt hjz
            go_wp2_with fail
            go_round
            case rel => exact ⟨k + 1, by omega, by go_num, by rw [hks.out], by rw [hks.out, HJZ.out]⟩
            case measure => simp [intOf]; omega
          · have hks : Hid (runK g (k + 1) = (f, t)) := by unfold Hid; rw [HKS.out, if_neg hlt]
            have q1 : ¬ (t : Int) - (f : Int) < (j : Int) - (k : Int) := by omega
            have HJZ := Lib.hid hjz
            clear HKS HKO hlt hjz
            go_wp2_with fail
            go_round
            case rel => exact ⟨k + 1, by omega, by go_num, by rw [hks.out], by rw [hks.out]⟩
            case measure => simp [intOf]; omega
    · obtain rfl : k = 8 := by omega
      go_wp2_with fail
      go_ret2
      exact ⟨rfl, (Below.refl _ _).alloc (Nat.le_refl _) _⟩

theorem hex_dig (m : Nat) (w : World) (h : m < 65536) : Calls Try.prog 125 #[.int .i64 m] w fun e w' => e = .returned (.string (bs (hexs m))) ∧ Below w.heap.size w w' := by
  have := decHex_any (m : Int) w
  unfold hexText at this; rw [if_neg (by omega)] at this; simpa using this
set_option maxRecDepth 100000 in
set_option maxHeartbeats 2000000 in
theorem written_any (v : Value) (L : List Nat) (w : World) (h8 : L.length ≤ 8) (hL : ∀ g ∈ L, g < 65536) (hv : Reads w v L.length 1 (L.map uv)) :
    Calls Try.prog 107 #[v] w fun e w' => e = .returned (.string (bs (hexJ L))) ∧ Below w.heap.size w w' := by
  obtain ⟨_, _, a, c, rfl, hx⟩ := hv.open
  have HX := Lib.hid hx; have HL := Lib.hid hL; clear hx hL hv
  go_enter Try.func107, Try.ntmps107
  go_wp2_with fail
  go_loopw [8, 3] (fun i x wr => ∃ k : Nat, k ≤ L.length ∧ i = .int .i64 k ∧ Below w.heap.size w wr ∧ Hid (wr.ownsRow w.heap.size 9 1 x k (((L.take k).map hexs).map sv))) (fun i _ _ => L.length - (intOf i).toNat)
  case atStart => exact ⟨0, Nat.zero_le _, rfl, Below.refl _ _, World.ownsRow_nil _ _ _ _⟩
  case round =>
    obtain ⟨k, hk, rfl, hb, HO⟩ := hrel
    have hown := HO.out
    have hz := hb.size
    by_cases hk2 : k < L.length
    · obtain ⟨b, o, rfl, h1, h2, h3⟩ := HX.out (by omega)
      have c1 : wr.cell? ⟨b, o + k, none⟩ = some (.int .u16 L[k]) := keep hb h2 (h3 k _ (by rw [List.getElem?_map, List.getElem?_eq_getElem hk2]; rfl))
      have hg := HL.out _ (List.getElem_mem hk2)
      have htk : (L.take (k + 1)).map hexs = (L.take k).map hexs ++ [hexs L[k]] := by rw [List.take_succ_eq_append_getElem hk2, List.map_append]; rfl
      generalize L[k] = g at *
      have HH := Lib.hid (fun w => hex_dig g w hg)
      have H3 := Lib.hid h3; have HTK := Lib.hid htk; clear h3 htk
      go_wp2_with (first | (go_at_call 125; refine (HH.out _).mono ?_; rintro e w2 ⟨rfl, b2⟩) | (at_builtin; refine list_app strRow rfl (.tmp 12) (.tmp 16) rfl w.heap.size _ k _ rfl (owns_below hown b2) [_] rfl rfl rfl (by omega) (by omega) (by have := b2.size; omega) w.heap.size w (below2 hb b2) (Nat.le_refl _) ?_; intro v' w' hown' hb'))
      go_roundw
      case rel => exact ⟨k + 1, by omega, by go_num, hb', by unfold Hid; rw [HTK.out]; simpa [sv] using hown'⟩
      case measure => simp [intOf]; omega
    · have e : L.take k = L := List.take_of_length_le (by omega)
      obtain rfl : k = L.length := by omega
      rw [e] at hown
      have hjl : (hexJ L).length ≤ 40 := by have := hexJ_len L HL.out; omega
      have hjo := join_any _ (L.map hexs) 58 wr (by simp; omega) (by rw [List.length_map]; exact owns_reads hown) (by show (hexJ L).length ≤ _; omega)
      have HJ := Lib.hid hjo; clear hjo e
      go_wp2_with (go_at_call 48; refine HJ.out.mono ?_; rintro e w2 ⟨rfl, b2⟩)
      go_ret
      exact ⟨rfl, below2 hb b2⟩
end Go.Proofs.Ytdmobgdgeiiicaa
