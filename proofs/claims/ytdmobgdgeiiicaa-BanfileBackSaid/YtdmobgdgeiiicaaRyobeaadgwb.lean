/- Texts put together: Dec. No condition. -/
import Derived.Test.YtdmobgdgeiiicaaRotonffjkdi
import Derived.Test.YtdmobgdgeiiicaaRows
import Derived.WalkKit
import Derived.WalkSpells
import Derived.WalkLawsBesides
import Derived.BigGuardPart
import Derived.BigQuiet
import Derived.Deep.QuietTactic
import Derived.Deep.Light
import Derived.Lib.Strings
namespace Go.Proofs.Ytdmobgdgeiiicaa
open Go.RowKit
attribute [local go_sem] w64_byte w64_byte_sub

theorem sign_any (n : Int) (h0 : 0 ≤ n) (h1 : n < 16) (w : World) :
    Calls Try.prog 134 #[.int .i64 n] w fun e w' => e = .returned (.int .u8 (hexDig n.toNat).toNat) ∧ w = w' := by
  go_enter Try.func134, Try.ntmps134
  go_wp2
  · go_ret; exact ⟨ret_int (hexDig_lo n h0 ‹_›), rfl⟩
  · go_ret; exact ⟨ret_int (hexDig_hi n h1 ‹_›), rfl⟩

theorem value_any (c : UInt8) (w : World) :
    Calls Try.prog 132 #[.int .u8 c.toNat] w fun e w' => e = .returned (.int .i64 (hexVal c)) ∧ w = w' := by
  go_enter Try.func132, Try.ntmps132
  go_wp2
  all_goals (go_ret; refine ⟨ret_int ?_, rfl⟩)
  all_goals first | exact (hexVal_1 c ‹_› ‹_›).symm | exact (hexVal_2 c ‹_› ‹_›).symm | exact (hexVal_3 c ‹_› ‹_›).symm | exact (hexVal_4 c (by omega) (by omega) (by omega)).symm

set_option maxHeartbeats 400000 in
theorem decParse_any (s : ByteArray) (most : Int) (w : World) (hs : s.size ≤ 140737488355328) :
    Calls Try.prog 24 #[.string s, .int .i64 most] w fun e w' => e = .returned (.tuple #[.int .i64 (decParse s.data.toList most).1, .bool (decParse s.data.toList most).2]) ∧ w = w' := by
  go_enter Try.func24, Try.ntmps24
  go_wp2
  · go_ret2
    have := dec_bad s most ‹_›
    exact ⟨by rw [this]; rfl, rfl⟩
  · go_ret2
    have := dec_lead s most ‹_› ‹_› ‹_›
    exact ⟨by rw [this]; rfl, rfl⟩
  all_goals
    have HG : Hid (decParse s.data.toList most = match dloop s.data.toList with | none => (0, false) | some n => if most < n then (0, false) else (n, true)) := dec_go s most ‹_› (by first | exact Or.inl ‹_› | exact Or.inr ⟨‹_›, ‹_›⟩)
    go_loop [23, 6] (fun i n => ∃ (k : Nat) (v : Int), k ≤ s.size ∧ i = .int .i64 k ∧ n = .int .i64 v ∧ 0 ≤ v ∧ v ≤ 9223372036854775807 ∧ Hid (dloop (s.data.toList.take k) = some v)) (fun i _ => s.size - (intOf i).toNat)
    case atStart => exact ⟨0, 0, Nat.zero_le _, rfl, rfl, by omega, by omega, by unfold Hid; simp [dloop]⟩
    case round =>
      obtain ⟨k, v, hk, rfl, rfl, hv0, hv1, HD⟩ := hrel
      by_cases hlt : k < s.size
      · go_wp2
        have hb := byte_lt s[k]
        iterate 3
          · go_ret2
            have e := dloop_stop s k hlt v HD.out (dstep_out v s[k] (by omega))
            have e2 := HG.out; rw [e] at e2
            exact ⟨by rw [e2]; rfl, rfl⟩
        go_round
        case rel =>
          refine ⟨k + 1, _, by omega, by go_num, rfl, by omega, by omega, ?_⟩
          unfold Hid; rw [take_snoc s k hlt, dloop_snoc, HD.out]; exact dstep_in v s[k] ‹_› ‹_› ‹_›
        case measure => simp [intOf]; omega
      · have e : dloop s.data.toList = some v := by have := HD.out; rwa [List.take_of_length_le (by simp; omega)] at this
        have HE : Hid _ := e
        clear e
        go_wp2
        · go_ret2
          have e2 := HG.out; rw [HE.out] at e2; simp only at e2; rw [if_pos ‹_›] at e2
          exact ⟨by rw [e2]; rfl, rfl⟩
        · go_ret2
          have e2 := HG.out; rw [HE.out] at e2; simp only at e2; rw [if_neg (by omega)] at e2
          exact ⟨by rw [e2]; rfl, rfl⟩

theorem decParseHex_any (s : ByteArray) (w : World) (hs : s.size ≤ 140737488355328) :
    Calls Try.prog 123 #[.string s] w fun e w' => e = .returned (.tuple #[.int .i64 (hexParse s.data.toList).1, .bool (hexParse s.data.toList).2]) ∧ w = w' := by
  go_enter Try.func123, Try.ntmps123
  go_wp2_with fail
  · go_ret2
    have e : hexParse s.data.toList = (0, false) := by unfold hexParse; rw [if_pos (Or.inl (List.isEmpty_iff.1 (by rw [← isE]; assumption)))]
    exact ⟨by rw [e]; rfl, rfl⟩
  · go_ret2
    have e : hexParse s.data.toList = (0, false) := by unfold hexParse; rw [if_pos (Or.inr (by rw [len_data]; omega))]
    exact ⟨by rw [e]; rfl, rfl⟩
  have HG : Hid (hexParse s.data.toList = match hloop s.data.toList with | none => (0, false) | some n => (n, true)) := by
    unfold Hid hexParse; exact if_neg (by rw [len_data, ← List.isEmpty_iff, ← isE]; simp_all; omega)
  have H4 : s.size ≤ 4 := by omega
  go_loop [16, 4] (fun i n => ∃ (k : Nat) (v : Int), k ≤ s.size ∧ i = .int .i64 k ∧ n = .int .i64 v ∧ 0 ≤ v ∧ v < 16 ^ k ∧ Hid (hloop (s.data.toList.take k) = some v)) (fun i _ => s.size - (intOf i).toNat)
  case atStart => exact ⟨0, 0, Nat.zero_le _, rfl, rfl, by omega, by simp, by unfold Hid; simp [hloop]⟩
  case round =>
    obtain ⟨k, v, hk, rfl, rfl, hv0, hv1, HD⟩ := hrel
    by_cases hlt : k < s.size
    · have hvb : v < 4096 := by
        have : (16 : Int) ^ k ≤ 16 ^ 3 := by
          have : (16 : Nat) ^ k ≤ 16 ^ 3 := Nat.pow_le_pow_right (by omega) (by omega)
          exact_mod_cast this
        omega
      have HV : Hid (v < 16 ^ k) := hv1
      clear hv1
      have hb := hexVal_bd s[k]
      by_cases hc : hexVal s[k] < 0
      · go_wp2_with (go_at_call 132; refine (value_any _ _).mono ?_; rintro e w' ⟨rfl, rfl⟩)
        go_ret2
        have e := hloop_stop s k hlt v HD.out hc
        have e2 := HG.out; rw [e] at e2
        exact ⟨by rw [e2]; rfl, rfl⟩
      · go_wp2_with (go_at_call 132; refine (value_any _ _).mono ?_; rintro e w' ⟨rfl, rfl⟩)
        go_round
        case rel =>
          refine ⟨k + 1, _, by omega, by go_num, rfl, by omega, ?_, ?_⟩
          · have := HV.out; rw [Int.pow_succ]; omega
          · unfold Hid; rw [take_snoc s k hlt, hloop_snoc, HD.out]; exact hstep_in v s[k] (by omega)
        case measure => simp [intOf]; omega
    · have e : hloop s.data.toList = some v := by have := HD.out; rwa [List.take_of_length_le (by simp; omega)] at this
      have HE : Hid _ := e
      clear e hv1
      go_wp2_with fail
      go_ret2
      have e2 := HG.out; rw [HE.out] at e2
      exact ⟨by rw [e2]; rfl, rfl⟩

/-- one byte in a new row, as a string -/
theorem conv1 (w : World) (x : Int) :
    (convert 65 9 (.slice (some ⟨w.heap.size, 0, none⟩) 1 1)).run Try.prog (w.alloc (.cells #[.int .u8 x] 5)) = .ok (.string (bs [UInt8.ofNat x.toNat])) (w.alloc (.cells #[.int .u8 x] 5)) := by
  have h := run_convert_bytes_arg (P := Try.prog) (w.alloc (.cells #[.int .u8 x] 5)) 65 5 Try.underlying65 Try.underlying5 w.heap.size 0 1 1 [x] rfl (by
    intro i hi
    obtain rfl : i = 0 := by omega
    simp [go_sem]) 9 Try.underlying9
  rw [h]
  simp [strOfNums, bs]
/-- a row of bytes, an array of 20, from some place on: as a slice, and as a string -/
theorem slice20 (b : Nat) (i : Int) (k : Nat) (h : i = k) (hk : k < 20) (w : World) :
    (Instr.sliceAt 85 (.pointer (some ⟨b, 0, none⟩)) (some (.int .i64 i)) none none).run Try.prog w = .ok (.slice (some ⟨b, k, none⟩) (20 - k) (20 - k)) w := by
  subst h
  have ha : Try.prog.arrayLen 85 = 20 := by kernel_rfl
  have hs : (sizeOf (Try.prog.elem 85)).run Try.prog w = .ok 1 w := by kernel_rfl
  rw [run_sliceAt_array_l (P := Try.prog) w 85 ⟨b, 0, none⟩ (by kernel_rfl) .i64 k (by omega) (by rw [ha]; omega), hs, ha]
  simp only [Result.andThen, slicedAt, Addr.add, Int.toNat_natCast]; rw [if_neg (by omega)]; simp; exact fun h => h.symm
theorem slice4 (b : Nat) (i : Int) (k : Nat) (h : i = k) (hk : k < 4) (w : World) :
    (Instr.sliceAt 146 (.pointer (some ⟨b, 0, none⟩)) (some (.int .i64 i)) none none).run Try.prog w = .ok (.slice (some ⟨b, k, none⟩) (4 - k) (4 - k)) w := by
  subst h
  have ha : Try.prog.arrayLen 146 = 4 := by kernel_rfl
  have hs : (sizeOf (Try.prog.elem 146)).run Try.prog w = .ok 1 w := by kernel_rfl
  rw [run_sliceAt_array_l (P := Try.prog) w 146 ⟨b, 0, none⟩ (by kernel_rfl) .i64 k (by omega) (by rw [ha]; omega), hs, ha]
  simp only [Result.andThen, slicedAt, Addr.add, Int.toNat_natCast]; rw [if_neg (by omega)]; simp; exact fun h => h.symm
theorem conv_tail (w : World) (T : TypeId) (arr : List Value) (k : Nat) (acc : List UInt8) (h : Tail arr k acc) (n : Nat) (hn : n = arr.length - k) :
    (convert 65 9 (.slice (some ⟨w.heap.size, k, none⟩) n n)).run Try.prog (w.alloc (.cells arr.toArray T)) = .ok (.string (bs acc)) (w.alloc (.cells arr.toArray T)) := by
  obtain rfl : n = acc.length := by rw [hn, h.len]
  rw [run_convert_bytes_arg (P := Try.prog) (w.alloc (.cells arr.toArray T)) 65 5 Try.underlying65 Try.underlying5 w.heap.size k acc.length acc.length (acc.map fun c => (c.toNat : Int)) (by simp) (by
    intro i hi
    have : arr[k + i]? = some (bv (acc.getD i 0)) := by
      rw [← List.getElem?_drop, show arr.drop k = acc.map bv from h, List.getElem?_map]
      simp [List.getD, hi]
    simp [go_sem, this, bv, List.getD, hi]) 9 Try.underlying9]
  have e : (fun n : Int => UInt8.ofNat n.toNat) ∘ (fun c : UInt8 => (c.toNat : Int)) = id := by funext c; simp
  simp [strOfNums, bs, List.map_map, e]
set_option maxRecDepth 100000 in
set_option maxHeartbeats 400000 in
theorem decText_any (n : Int) (h0 : -9223372036854775808 ≤ n) (h1 : n ≤ 9223372036854775807) (w : World) :
    Calls Try.prog 27 #[.int .i64 n] w fun e w' => e = .returned (.string (bs (decText n))) ∧ Below w.heap.size w w' := by
  by_cases hn : n < 0
  · have HW := wrap_neg n h0 hn
    go_enter Try.func27, Try.ntmps27
    go_wp2_with fail
    go_loopw [4, 5] (fun u i wr => ∃ (k m : Nat) (arr : List Value), 2 ≤ k ∧ k ≤ 20 ∧ i = .int .i64 k ∧ u = .int .u64 m ∧ m ≤ 9223372036854775808 ∧ arr.length = 20 ∧ Hid (TextAt n.natAbs m k arr) ∧ wr = w.alloc (.cells arr.toArray 85)) (fun u _ _ => (intOf u).toNat)
    case atStart =>
      refine ⟨20, n.natAbs, List.replicate 20 (.int .u8 0), by omega, by omega, rfl, rfl, by omega, rfl, ⟨?_, [], rfl, by simp⟩, rfl⟩
      show n.natAbs < 10 ^ 19
      omega
    case round =>
      obtain ⟨k, m, arr, hk2, hk20, rfl, rfl, hm0, hlen, HT, rfl⟩ := hrel
      have HL := Lib.hid hlen; clear hlen
      obtain ⟨v0, hv0⟩ : ∃ v, arr[k - 1]? = some v := ⟨_, List.getElem?_eq_getElem (by have := HL.out; omega)⟩
      by_cases hm : m < 10
      · obtain ⟨v1, hv1⟩ : ∃ v, (arr.set (k - 1) (.int .u8 (48 + m)))[k - 1 - 1]? = some v := ⟨_, List.getElem?_eq_getElem (by have := HL.out; rw [List.length_set]; omega)⟩
        have hsl := fun wx => slice20 w.heap.size ((k : Int) - 1 - 1) (k - 1 - 1) (by omega) (by omega) wx
        have hcv := conv_tail w 85 _ _ _ ((HT.out.last (by omega) (by have := HL.out; omega) hm (.int .u8 (48 + m)) (by unfold bv; rw [u8_of _ (by omega)]; congr 1)).set (by omega) (by have := HL.out; rw [List.length_set]; omega) 45) (20 - (k - 1 - 1)) (by have := HL.out; rw [List.length_set, List.length_set]; omega)
        rw [show bv 45 = .int .u8 45 from rfl] at hcv
        go_wp2_with fail
        go_ret
        refine ⟨ret_str ?_, (Below.refl _ _).alloc (Nat.le_refl _) _⟩
        unfold decText; rw [if_pos hn]
      · have h3 : 3 ≤ k := pow_lt m k HT.out.1 (by omega)
        go_wp2_with fail
        go_roundw
        case rel =>
          refine ⟨k - 1, m / 10, _, by omega, by omega, by congr 1; omega, by go_num, by omega, by rw [List.length_set]; exact HL.out, HT.out.step h3 (by have := HL.out; omega) (by omega) _ ?_ (pow_div m k HT.out.1 h3), rfl⟩
          unfold bv; rw [u8_of _ (by omega)]; congr 1
        case measure => simp [intOf]; omega
  · obtain ⟨N, rfl⟩ := Int.eq_ofNat_of_zero_le (by omega : 0 ≤ n)
    go_enter Try.func27, Try.ntmps27
    go_wp2_with fail
    go_loopw [4, 5] (fun u i wr => ∃ (k m : Nat) (arr : List Value), 2 ≤ k ∧ k ≤ 20 ∧ i = .int .i64 k ∧ u = .int .u64 m ∧ m ≤ 9223372036854775808 ∧ arr.length = 20 ∧ Hid (TextAt N m k arr) ∧ wr = w.alloc (.cells arr.toArray 85)) (fun u _ _ => (intOf u).toNat)
    case atStart =>
      refine ⟨20, N, List.replicate 20 (.int .u8 0), by omega, by omega, rfl, rfl, by omega, rfl, ⟨?_, [], rfl, by simp⟩, rfl⟩
      show N < 10 ^ 19
      omega
    case round =>
      obtain ⟨k, m, arr, hk2, hk20, rfl, rfl, hm0, hlen, HT, rfl⟩ := hrel
      have HL := Lib.hid hlen; clear hlen
      obtain ⟨v0, hv0⟩ : ∃ v, arr[k - 1]? = some v := ⟨_, List.getElem?_eq_getElem (by have := HL.out; omega)⟩
      by_cases hm : m < 10
      · have hsl := fun wx => slice20 w.heap.size ((k : Int) - 1) (k - 1) (by omega) (by omega) wx
        have hcv := conv_tail w 85 _ _ _ (HT.out.last (by omega) (by have := HL.out; omega) hm (.int .u8 (48 + m)) (by unfold bv; rw [u8_of _ (by omega)]; congr 1)) (20 - (k - 1)) (by have := HL.out; rw [List.length_set]; omega)
        go_wp2_with fail
        go_ret
        refine ⟨ret_str ?_, (Below.refl _ _).alloc (Nat.le_refl _) _⟩
        unfold decText; rw [if_neg (by omega)]; simp
      · have h3 : 3 ≤ k := pow_lt m k HT.out.1 (by omega)
        go_wp2_with fail
        go_roundw
        case rel =>
          refine ⟨k - 1, m / 10, _, by omega, by omega, by congr 1; omega, by go_num, by omega, by rw [List.length_set]; exact HL.out, HT.out.step h3 (by have := HL.out; omega) (by omega) _ ?_ (pow_div m k HT.out.1 h3), rfl⟩
          unfold bv; rw [u8_of _ (by omega)]; congr 1
        case measure => simp [intOf]; omega

set_option maxRecDepth 100000 in
set_option maxHeartbeats 400000 in
theorem decHex_any (n : Int) (w : World) :
    Calls Try.prog 125 #[.int .i64 n] w fun e w' => e = .returned (.string (bs (hexText n))) ∧ Below w.heap.size w w' := by
  by_cases hn : n < 0 ∨ 65535 < n
  · have HE : Hid (hexText n = []) := by unfold Hid hexText; rw [if_pos hn]
    rcases hn with hn | hn
    · go_enter Try.func125, Try.ntmps125
      go_wp2_with fail
      go_ret
      exact ⟨by rw [HE.out]; rfl, Below.refl _ _⟩
    · have hn' : ¬ n < 0 := by omega
      go_enter Try.func125, Try.ntmps125
      go_wp2_with fail
      go_ret
      exact ⟨by rw [HE.out]; rfl, Below.refl _ _⟩
  · obtain ⟨N, rfl⟩ := Int.eq_ofNat_of_zero_le (by omega : 0 ≤ n)
    have hN : N ≤ 65535 := by omega
    have HE : Hid (hexText N = hexs N) := by unfold Hid hexText; rw [if_neg hn]; rfl
    clear hn
    go_enter Try.func125, Try.ntmps125
    go_wp2_with fail
    go_loopw [0, 4] (fun u i wr => ∃ (k m : Nat) (arr : List Value), 1 ≤ k ∧ k ≤ 4 ∧ i = .int .i64 k ∧ u = .int .i64 m ∧ m ≤ 65535 ∧ arr.length = 4 ∧ Hid (HexAt N m k arr) ∧ wr = w.alloc (.cells arr.toArray 146)) (fun u _ _ => (intOf u).toNat)
    case atStart =>
      refine ⟨4, N, List.replicate 4 (.int .u8 0), by omega, by omega, rfl, rfl, by omega, rfl, ⟨?_, [], rfl, by simp⟩, rfl⟩
      show N < 16 ^ 4
      omega
    case round =>
      obtain ⟨k, m, arr, hk2, hk20, rfl, rfl, hm0, hlen, HT, rfl⟩ := hrel
      have HL := Lib.hid hlen; clear hlen
      obtain ⟨v0, hv0⟩ : ∃ v, arr[k - 1]? = some v := ⟨_, List.getElem?_eq_getElem (by have := HL.out; omega)⟩
      have hsg := Lib.hid (fun w => sign_any ((m : Int) % 16) (by omega) (by omega) w)
      by_cases hm : m < 16
      · have hq : ((m : Int) / 16 == 0) = true := by rw [beq_iff_eq]; omega
        have hsl := fun wx => slice4 w.heap.size ((k : Int) - 1) (k - 1) (by omega) (by omega) wx
        have hcv := conv_tail w 146 _ _ _ (HT.out.last (by omega) (by have := HL.out; omega) hm (.int .u8 (hexDig (m % 16)).toNat) rfl) (4 - (k - 1)) (by have := HL.out; rw [List.length_set]; omega)
        go_wp2_with (go_at_call 134; refine (hsg.out _).mono ?_; rintro e w' ⟨rfl, rfl⟩)
        go_ret
        exact ⟨ret_str (by rw [HE.out]), (Below.refl _ _).alloc (Nat.le_refl _) _⟩
      · have h2 : 2 ≤ k := hex_lt m k HT.out.1 (by omega)
        have hq : ((m : Int) / 16 == 0) = false := by rw [beq_eq_false_iff_ne]; omega
        go_wp2_with (go_at_call 134; refine (hsg.out _).mono ?_; rintro e w' ⟨rfl, rfl⟩)
        go_roundw
        case rel => exact ⟨k - 1, m / 16, _, by omega, by omega, by congr 1; omega, by go_num, by omega, by rw [List.length_set]; exact HL.out, HT.out.step h2 (by have := HL.out; omega) (by omega) _ rfl, rfl⟩
        case measure => simp [intOf]; omega

/-! ### the reference's readers -/
end Go.Proofs.Ytdmobgdgeiiicaa
