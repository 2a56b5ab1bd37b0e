/- The contracts of ipv6's reference: Full, Text. -/
import Derived.Test.YtbpjhikbgnbkaaaIp6Full
namespace Go.Proofs.Ytbpjhikbgnbkaaa
open Go.RowKit

theorem hexT (n : Nat) (h : n < 65536) : hexText (n : Int) = hexs n := by
  unfold hexText; rw [if_neg (by omega), Int.toNat_natCast]
theorem refHexN (n : Nat) (h : n < 65536) (w : World) : Calls Try.prog 68 #[.int .i64 n] w fun e w' => e = .returned (.string (bs (hexs n))) ∧ Below w.heap.size w w' := by
  have := refHex_any 3 (n : Int) w (by rw [Int.toNat_natCast]; exact h)
  rw [hexT n h] at this; exact this
theorem hexJ_one (n : Nat) : hexJ [n] = hexs n := joinL_one 58 (hexs n)
theorem hexJ_snoc (L : List Nat) (n : Nat) (h : L ≠ []) : hexJ (L ++ [n]) = hexJ L ++ 58 :: hexs n := by
  unfold hexJ; rw [List.map_append, List.map_cons, List.map_nil, joinL_snoc _ _ _ (by simpa using h)]
set_option maxRecDepth 100000 in
set_option maxHeartbeats 1000000 in
theorem refFull_any (hi lo : Nat) (h1 : hi < 18446744073709551616) (h2 : lo < 18446744073709551616) (w : World) :
    Calls Try.prog 34 #[.int .u64 hi, .int .u64 lo] w fun e w' => e = .returned (.string (bs (hexJ (grps hi lo)))) ∧ Below w.heap.size w w' := by
  have hgr := fun (j : Nat) (hj : j < 8) w => group_any hi lo j h1 h2 hj w
  have hg := grps_lt hi lo h1 h2
  have h8 : (grps hi lo).length = 8 := rfl
  generalize grps hi lo = g at *
  have hel : ∀ j, j < 8 → ∃ x, g[j]? = some x ∧ x < 65536 ∧ g.getD j 0 = x := fun j hj => by
    have hl : j < g.length := by omega
    exact ⟨g[j], List.getElem?_eq_getElem hl, hg _ (List.getElem_mem hl), by rw [List.getD, List.getElem?_eq_getElem hl]; rfl⟩
  have HGR := Lib.hid hgr; have HG := Lib.hid hg; have H8 := Lib.hid h8; have HE := Lib.hid hel
  clear hgr hg h8 hel
  obtain ⟨x0, e0, l0, d0⟩ := HE.out 0 (by omega)
  have hg0 := fun w => HGR.out 0 (by omega) w
  rw [d0] at hg0
  have HG0 := Lib.hid hg0; have HX0 := Lib.hid e0; clear hg0 e0 d0
  have hd : (⟨#[58]⟩ : ByteArray) = bs [58] := rfl
  have z0 : (bs [58]).size ≤ 1 := by rw [bs_size]; exact Nat.le_refl _
  go_enter Try.func34, Try.ntmps34
  go_wp2_with (first | (go_at_call 69; refine (HG0.out _).mono ?_; rintro e w1 ⟨rfl, rfl⟩) | (go_at_call 68; refine (refHexN x0 l0 _).mono ?_; rintro e w2 ⟨rfl, hb2⟩))
  go_loopw [5, 6] (fun s5 s6 wr => ∃ (k : Nat) (t : List UInt8), s6 = .int .i64 k ∧ 1 ≤ k ∧ k ≤ 8 ∧ s5 = .string (bs t) ∧ t.length ≤ 5 * k ∧ Hid (t = hexJ (g.take k)) ∧ Below w.heap.size w wr) (fun _ s6 _ => 8 - (intOf s6).toNat)
  case atStart =>
    refine ⟨1, hexs x0, rfl, by omega, by omega, rfl, by have := hexs4 x0 l0; omega, ?_, hb2⟩
    unfold Hid
    have : g.take 1 = [x0] := by have := HX0.out; cases g with | nil => simp at this | cons y r => simp at this; subst this; rfl
    rw [this, hexJ_one]
  case round =>
    obtain ⟨k, t, rfl, hk1, hk, rfl, htl, HT, hb⟩ := hrel
    by_cases hlt : k < 8
    · obtain ⟨x, ex, lx, dx⟩ := HE.out k hlt
      have hgk := fun w => HGR.out k hlt w
      rw [dx] at hgk
      have HGK := Lib.hid hgk; have HX := Lib.hid ex; clear hgk ex dx
      have lh := hexs4 x lx
      rw [← bs_size] at htl lh
      have s1 : ¬ 9223372036854775807 < (bs t).size + (bs [58]).size := by omega
      have s2 : ¬ 9223372036854775807 < (bs t).size + (bs [58]).size + (bs (hexs x)).size := by omega
      go_wp2_with (first | (go_at_call 69; (with_reducible refine (HGK.out _).mono ?_); rintro e w1 ⟨rfl, rfl⟩) | (go_at_call 68; refine (refHexN x lx _).mono ?_; rintro e w2 ⟨rfl, hb3⟩))
      go_roundw
      case rel =>
        refine ⟨k + 1, t ++ [58] ++ hexs x, by go_num, by omega, by omega, by rw [bs_append, bs_append], ?_, ?_, below2 hb hb3⟩
        · rw [bs_size] at htl lh; simp; omega
        · unfold Hid
          have : g.take (k + 1) = g.take k ++ [x] := by rw [List.take_add_one, HX.out]; rfl
          rw [this, hexJ_snoc _ _ (fun e => by have h := congrArg List.length e; rw [List.length_take, H8.out, List.length_nil] at h; omega), HT.out]; simp
      case measure => simp [intOf]; omega
    · obtain rfl : k = 8 := by omega
      go_wp2_with fail
      go_ret
      refine ⟨ret_str ?_, hb⟩
      rw [HT.out, List.take_of_length_le (by rw [H8.out]; exact Nat.le_refl _)]
end Go.Proofs.Ytbpjhikbgnbkaaa
