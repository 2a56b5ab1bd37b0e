/- Texts put together: Ip4. No condition. -/
import Derived.Test.YtdmobgdgeiiicaaRpyxqyriutr
import Derived.Test.YtdmobgdgeiiicaaRqigdjmwvuu
import Derived.Test.YtdmobgdgeiiicaaRotonffjkdi
import Derived.Test.YtdmobgdgeiiicaaRows
import Derived.WalkKit
import Derived.WalkSpells
import Derived.WalkLawsBesides
import Derived.BigGuardPart
import Derived.BigQuiet
import Derived.Deep.QuietTactic
import Derived.Deep.Light
namespace Go.Proofs.Ytdmobgdgeiiicaa
open Go.RowKit

/-- a row of strings that a callee has made, told by its cells -/
theorem gives_row {f : FuncId} {args : Array Value} {W : World} {l : List (List UInt8)} (hne : l ≠ []) (h : Calls Try.prog f args W (GivesStrs W l)) :
    Calls Try.prog f args W fun e w' => ∃ (g cap : Nat), l.length ≤ cap ∧ cap ≤ 9223372036854775807 ∧ e = .returned (.slice (some ⟨g, 0, none⟩) l.length cap) ∧ g < w'.heap.size ∧ (∀ (j : Nat) (h : j < l.length), w'.cell? ⟨g, j, none⟩ = some (.string (bs l[j]))) ∧ Below W.heap.size W w' := by
  refine (gives_some hne h).mono fun e w' ⟨g, cap, h1, h2, h3, ho, hb⟩ => ?_
  obtain ⟨_, _, hr⟩ := owns_reads ho
  have hp := List.length_pos_iff.2 hne
  rcases hr with ⟨h0, _⟩ | ⟨_, b, o, c, hv, _, hlt, hx⟩
  · omega
  · cases hv
    refine ⟨g, cap, h1, h2, h3, hlt, fun j hj => ?_, hb⟩
    have := hx j (sv l[j]) (by rw [List.getElem?_map, List.getElem?_eq_getElem hj]; rfl)
    simpa [sv] using this
theorem v4_len_pos {L : List (List UInt8)} {k : Nat} (h : k < L.length) : L.drop k = L[k] :: L.drop (k + 1) := List.drop_eq_getElem_cons h
set_option maxRecDepth 100000 in
set_option maxHeartbeats 1000000 in
theorem v4Parse_any (s : ByteArray) (w : World) (hs : s.size ≤ 8000000000000) :
    Calls Try.prog 71 #[.string s] w fun e w' => e = .returned (.tuple #[.int .u32 (v4parse s.data.toList).1, .bool (v4parse s.data.toList).2]) ∧ Below w.heap.size w w' := by
  have hsp := fun w => gives_row (splitL_ne _ _) (split_any s 46 w hs)
  have hv4 : v4parse s.data.toList = if (splitL 46 s.data.toList).length ≠ 4 then (0, false) else match v4fold (splitL 46 s.data.toList) with | none => (0, false) | some n => (n, true) := rfl
  have hpl := fun x (hx : x ∈ splitL 46 s.data.toList) => splitL_part_len 46 s.data.toList x hx
  rw [len_data] at hpl
  generalize splitL 46 s.data.toList = S at hsp hv4 hpl
  have HSP := Lib.hid hsp; have HPL := Lib.hid hpl; clear hsp hpl
  by_cases h4 : S.length = 4
  · rw [if_neg (by simpa using h4)] at hv4
    have HV4 := Lib.hid hv4; clear hv4
    have hq : ((S.length : Int) != 4) = false := by rw [h4]; rfl
    have H4 := Lib.hid h4; clear h4
    go_enter Try.func71, Try.ntmps71
    go_wp2_with (go_at_call 22; refine (HSP.out _).mono ?_; rintro e w1 ⟨g, cap, hc1, hc2, rfl, hg, hr, b1⟩; have HR := Lib.hid hr; clear hr)
    go_loop [17, 5] (fun i n => ∃ k m : Nat, k ≤ S.length ∧ i = .int .i64 k ∧ n = .int .u32 m ∧ Hid (m < 256 ^ k) ∧ Hid (v4fold (S.take k) = some m)) (fun i _ => S.length - (intOf i).toNat)
    case atStart => exact ⟨0, 0, Nat.zero_le _, rfl, rfl, by unfold Hid; simp, by unfold Hid; simp [v4fold]⟩
    case round =>
      obtain ⟨k, m, hk, rfl, rfl, HM, HF⟩ := hrel
      by_cases hk2 : k < S.length
      · have c1 : w1.cell? ⟨g, k, none⟩ = some (.string (bs S[k])) := HR.out k hk2
        have hd := fun w => decParse_any (bs S[k]) 255 w (by rw [bs_size]; have := HPL.out _ (List.getElem_mem hk2); omega)
        simp only [bs_data] at hd
        have hb := dec255 S[k]
        have hm : m < 16777216 := by
          have : 256 ^ k ≤ 256 ^ 3 := Nat.pow_le_pow_right (by omega) (by have := H4.out; omega)
          have := HM.out; omega
        cases hok : (decParse S[k] 255).2 with
        | false =>
          have HS2 : Hid (v4parse s.data.toList = (0, false)) := by
            unfold Hid; rw [HV4.out]
            rw [← List.take_append_drop k S, v4_len_pos hk2, v4fold_stop _ _ _ hok]
          rw [hok] at hd
          have HD := Lib.hid hd; clear hd hok
          go_wp2_with (go_at_call 24; refine (HD.out _).mono ?_; rintro e w' ⟨rfl, rfl⟩)
          go_ret2
          exact ⟨by rw [HS2.out]; rfl, b1⟩
        | true =>
          rw [hok] at hd
          obtain ⟨b, hbe⟩ := Int.eq_ofNat_of_zero_le hb.1
          rw [hbe] at hd hb
          have hst : v4fold (S.take (k + 1)) = some (m * 256 + b) := by
            rw [List.take_succ_eq_append_getElem hk2, v4fold_snoc, HF.out]; unfold v4step; simp only; rw [if_pos hok, hbe]; rfl
          have hb2 : b ≤ 255 := by omega
          have hor := or8_u32 m b hm hb2
          have HD := Lib.hid hd; have HST := Lib.hid hst; clear hd hok hst hbe hb
          go_wp2_with (go_at_call 24; refine (HD.out _).mono ?_; rintro e w' ⟨rfl, rfl⟩)
          go_round
          case rel =>
            refine ⟨k + 1, m * 256 + b, by omega, by go_num, by go_num, ?_, HST.out⟩
            have := HM.out; unfold Hid; rw [Nat.pow_succ]; omega
          case measure => simp [intOf]; omega
      · have HS2 : Hid (v4parse s.data.toList = (m, true)) := by
          unfold Hid; rw [HV4.out]
          have := HF.out; rw [List.take_of_length_le (by omega)] at this; rw [this]
        go_wp2_with fail
        go_ret2
        exact ⟨by rw [HS2.out]; rfl, b1⟩
  · rw [if_pos h4] at hv4
    have HV4 := Lib.hid hv4; clear hv4
    have hq : ((S.length : Int) != 4) = true := by rw [bne_iff_ne]; omega
    go_enter Try.func71, Try.ntmps71
    go_wp2_with (go_at_call 22; refine (HSP.out _).mono ?_; rintro e w1 ⟨g, cap, hc1, hc2, rfl, hg, hr, b1⟩; have HR := Lib.hid hr; clear hr)
    go_ret2
    exact ⟨by rw [HV4.out]; rfl, b1⟩
theorem dec_dig (m : Nat) (w : World) (h : m ≤ 9223372036854775807) : Calls Try.prog 27 #[.int .i64 m] w fun e w' => e = .returned (.string (bs (digs m))) ∧ Below w.heap.size w w' := by
  have := decText_any (m : Int) (by omega) (by omega) w
  unfold decText at this; rw [if_neg (by omega)] at this; simpa using this
set_option maxRecDepth 100000 in
set_option maxHeartbeats 1000000 in
theorem v4Text_any (N : Nat) (hN : N < 4294967296) (w : World) :
    Calls Try.prog 80 #[.int .u32 N] w fun e w' => e = .returned (.string (bs (v4text N))) ∧ Below w.heap.size w w' := by
  have hN2 : (N : Int) ≤ 4294967295 := by omega
  go_enter Try.func80, Try.ntmps80
  go_wp2_with fail
  go_loopw [4, 0] (fun i n wr => ∃ (k m : Nat) (arr : List Value), k ≤ 4 ∧ i = .int .i64 ((k : Int) - 1) ∧ n = .int .u32 m ∧ m < 4294967296 ∧ Below w.heap.size w wr ∧ Hid (BlockIs wr w.heap.size arr 131) ∧ Hid (arr.length = 4) ∧ Hid (V4At N m k arr)) (fun i _ _ => (intOf i + 1).toNat)
  case atStart => exact ⟨4, N, List.replicate 4 (.string ⟨#[]⟩), Nat.le_refl _, rfl, rfl, hN, (Below.refl _ _).alloc (Nat.le_refl _) _, BlockIs.new w _ _, rfl, [], rfl, by simp⟩
  case round =>
    obtain ⟨k, m, arr, hk, rfl, rfl, hm, hb, HB, HL, HV⟩ := hrel
    by_cases hk0 : k = 0
    · have q : ¬ (0 : Int) ≤ (k : Int) - 1 := by omega
      have q2 : (k : Int) < 1 := by omega
      have HV0 : Hid (arr = (v4parts N).map sv) := by
        obtain ⟨acc, h1, h2⟩ := HV.out
        rw [hk0] at h1 h2
        rw [v4pk_parts N hN] at h2
        unfold Hid; rw [h2]; simpa [v4pk] using h1
      have hrd : Reads wr (.slice (some ⟨w.heap.size, 0, none⟩) 4 4) (v4parts N).length 1 ((v4parts N).map sv) := by
        refine ⟨by simp, by simp [v4parts], Or.inr ⟨by simp [v4parts], w.heap.size, 0, 4, rfl, Nat.le_refl _, HB.out.lt, fun j x hj => ?_⟩⟩
        rw [← HV0.out] at hj
        rw [Nat.zero_add]; exact HB.out.cell hj
      have hjo := join_any _ (v4parts N) 46 wr (by simp [v4parts]) hrd (by have := v4text_len N hN; unfold v4text at this; omega)
      have HJO := Lib.hid hjo; clear hjo hrd hk0
      go_wp2_with (go_at_call 48; refine HJO.out.mono ?_; rintro e w2 ⟨rfl, b2⟩)
      go_ret
      exact ⟨ret_str rfl, below2 hb b2⟩
    · obtain ⟨j, rfl⟩ : ∃ j, k = j + 1 := ⟨k - 1, by omega⟩
      have ha := and8_u32 m hm
      have htx := fun w => dec_dig (m % 256) w (by omega)
      simp only [show ((m % 256 : Nat) : Int) = (m : Int) % 256 from by omega] at htx
      rw [show (((j + 1 : Nat) : Int) - 1) = (j : Int) from by omega]
      have q0 : (0 : Int) ≤ (j : Int) := by omega
      have q4 : (j : Int) < 4 := by omega
      have hv : ∃ v0, arr[j]? = some v0 := ⟨_, List.getElem?_eq_getElem (by have := HL.out; omega)⟩
      obtain ⟨v0, hv0⟩ := hv
      have HTX := Lib.hid htx; clear htx hk0
      have hz := hb.size
      go_wp2_with (go_at_call 27; refine (HTX.out _).mono ?_; rintro e w2 ⟨rfl, b2⟩; have hB2 := HB.out.below b2; have c2 := hB2.cell hv0; have f2 := hB2.frozen j; have HB2 := Lib.hid hB2; clear hB2)
      go_roundw
      case rel => exact ⟨j, m / 256, _, by omega, rfl, by go_num, by omega, (below2 hb b2).setCell (Nat.le_refl _) _, HB2.out.set j _, by unfold Hid; rw [List.length_set]; exact HL.out, HV.out.step (by have := HL.out; omega)⟩
      case measure => simp [intOf]
end Go.Proofs.Ytdmobgdgeiiicaa
