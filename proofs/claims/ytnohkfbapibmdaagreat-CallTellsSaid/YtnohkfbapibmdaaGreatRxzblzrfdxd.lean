/- Texts put together: Dec. No condition. -/
import Derived.Test.YtnohkfbapibmdaaGreatRoqtylxhcsf
import Derived.Test.YtnohkfbapibmdaaGreatRows
import Derived.WalkKit
import Derived.WalkSpells
import Derived.WalkLawsBesides
import Derived.BigGuardPart
import Derived.BigQuiet
import Derived.Deep.QuietTactic
import Derived.Deep.Light
import Derived.Lib.Strings
namespace Go.Proofs.YtnohkfbapibmdaaGreat
open Go.RowKit
attribute [local go_sem] w64_byte w64_byte_sub

theorem sign_any (n : Int) (h0 : 0 ≤ n) (h1 : n < 16) (w : World) :
    Calls Tryz.prog 125 #[.int .i64 n] w fun e w' => e = .returned (.int .u8 (hexDig n.toNat).toNat) ∧ w = w' := by
  go_enter Tryz.func125, Tryz.ntmps125
  go_wp2
  · go_ret; exact ⟨ret_int (hexDig_lo n h0 ‹_›), rfl⟩
  · go_ret; exact ⟨ret_int (hexDig_hi n h1 ‹_›), rfl⟩

theorem value_any (c : UInt8) (w : World) :
    Calls Tryz.prog 129 #[.int .u8 c.toNat] w fun e w' => e = .returned (.int .i64 (hexVal c)) ∧ w = w' := by
  go_enter Tryz.func129, Tryz.ntmps129
  go_wp2
  all_goals (go_ret; refine ⟨ret_int ?_, rfl⟩)
  all_goals first | exact (hexVal_1 c ‹_› ‹_›).symm | exact (hexVal_2 c ‹_› ‹_›).symm | exact (hexVal_3 c ‹_› ‹_›).symm | exact (hexVal_4 c (by omega) (by omega) (by omega)).symm

theorem size_any (n : Int) (h0 : -9223372036854775808 ≤ n) (h1 : n ≤ 9223372036854775807) (w : World) :
    Calls Tryz.prog 65 #[.int .i64 n] w fun e w' => e = .returned (.int .u64 n.natAbs) ∧ w = w' := by
  go_enter Tryz.func65, Tryz.ntmps65
  go_wp2
  all_goals (go_ret; exact ⟨ret_int (by omega), rfl⟩)

set_option maxHeartbeats 400000 in
theorem decParse_any (s : ByteArray) (most : Int) (w : World) (hs : s.size ≤ 140737488355328) :
    Calls Tryz.prog 70 #[.string s, .int .i64 most] w fun e w' => e = .returned (.tuple #[.int .i64 (decParse s.data.toList most).1, .bool (decParse s.data.toList most).2]) ∧ w = w' := by
  go_enter Tryz.func70, Tryz.ntmps70
  go_wp2
  · go_ret2
    have := dec_bad s most ‹_›
    exact ⟨by rw [this]; rfl, rfl⟩
  · go_ret2
    have := dec_lead s most ‹_› ‹_› ‹_›
    exact ⟨by rw [this]; rfl, rfl⟩
  all_goals
    have HG : Hid (decParse s.data.toList most = match dloop s.data.toList with | none => (0, false) | some n => if most < n then (0, false) else (n, true)) := dec_go s most ‹_› (by first | exact Or.inl ‹_› | exact Or.inr ⟨‹_›, ‹_›⟩)
    go_loop [23, 6] (fun i n => ∃ (k : Nat) (v : Int), k ≤ s.size ∧ i = .int .i64 k ∧ n = .int .i64 v ∧ 0 ≤ v ∧ v ≤ 9223372036854775807 ∧ Hid (dloop (s.data.toList.take k) = some v)) (fun i _ => s.size - (intOf i).toNat)
    case atStart => exact ⟨0, 0, Nat.zero_le _, rfl, rfl, by omega, by omega, by unfold Hid; simp [dloop]⟩
    case round =>
      obtain ⟨k, v, hk, rfl, rfl, hv0, hv1, HD⟩ := hrel
      by_cases hlt : k < s.size
      · go_wp2
        have hb := byte_lt s[k]
        iterate 3
          · go_ret2
            have e := dloop_stop s k hlt v HD.out (dstep_out v s[k] (by omega))
            have e2 := HG.out; rw [e] at e2
            exact ⟨by rw [e2]; rfl, rfl⟩
        go_round
        case rel =>
          refine ⟨k + 1, _, by omega, by go_num, rfl, by omega, by omega, ?_⟩
          unfold Hid; rw [take_snoc s k hlt, dloop_snoc, HD.out]; exact dstep_in v s[k] ‹_› ‹_› ‹_›
        case measure => simp [intOf]; omega
      · have e : dloop s.data.toList = some v := by have := HD.out; rwa [List.take_of_length_le (by simp; omega)] at this
        have HE : Hid _ := e
        clear e
        go_wp2
        · go_ret2
          have e2 := HG.out; rw [HE.out] at e2; simp only at e2; rw [if_pos ‹_›] at e2
          exact ⟨by rw [e2]; rfl, rfl⟩
        · go_ret2
          have e2 := HG.out; rw [HE.out] at e2; simp only at e2; rw [if_neg (by omega)] at e2
          exact ⟨by rw [e2]; rfl, rfl⟩

theorem decParseHex_any (s : ByteArray) (w : World) (hs : s.size ≤ 140737488355328) :
    Calls Tryz.prog 123 #[.string s] w fun e w' => e = .returned (.tuple #[.int .i64 (hexParse s.data.toList).1, .bool (hexParse s.data.toList).2]) ∧ w = w' := by
  go_enter Tryz.func123, Tryz.ntmps123
  go_wp2_with fail
  · go_ret2
    have e : hexParse s.data.toList = (0, false) := by unfold hexParse; rw [if_pos (Or.inl (List.isEmpty_iff.1 (by rw [← isE]; assumption)))]
    exact ⟨by rw [e]; rfl, rfl⟩
  · go_ret2
    have e : hexParse s.data.toList = (0, false) := by unfold hexParse; rw [if_pos (Or.inr (by rw [len_data]; omega))]
    exact ⟨by rw [e]; rfl, rfl⟩
  have HG : Hid (hexParse s.data.toList = match hloop s.data.toList with | none => (0, false) | some n => (n, true)) := by
    unfold Hid hexParse; exact if_neg (by rw [len_data, ← List.isEmpty_iff, ← isE]; simp_all; omega)
  have H4 : s.size ≤ 4 := by omega
  go_loop [16, 4] (fun i n => ∃ (k : Nat) (v : Int), k ≤ s.size ∧ i = .int .i64 k ∧ n = .int .i64 v ∧ 0 ≤ v ∧ v < 16 ^ k ∧ Hid (hloop (s.data.toList.take k) = some v)) (fun i _ => s.size - (intOf i).toNat)
  case atStart => exact ⟨0, 0, Nat.zero_le _, rfl, rfl, by omega, by simp, by unfold Hid; simp [hloop]⟩
  case round =>
    obtain ⟨k, v, hk, rfl, rfl, hv0, hv1, HD⟩ := hrel
    by_cases hlt : k < s.size
    · have hvb : v < 4096 := by
        have : (16 : Int) ^ k ≤ 16 ^ 3 := by
          have : (16 : Nat) ^ k ≤ 16 ^ 3 := Nat.pow_le_pow_right (by omega) (by omega)
          exact_mod_cast this
        omega
      have HV : Hid (v < 16 ^ k) := hv1
      clear hv1
      have hb := hexVal_bd s[k]
      by_cases hc : hexVal s[k] < 0
      · go_wp2_with (go_at_call 129; refine (value_any _ _).mono ?_; rintro e w' ⟨rfl, rfl⟩)
        go_ret2
        have e := hloop_stop s k hlt v HD.out hc
        have e2 := HG.out; rw [e] at e2
        exact ⟨by rw [e2]; rfl, rfl⟩
      · go_wp2_with (go_at_call 129; refine (value_any _ _).mono ?_; rintro e w' ⟨rfl, rfl⟩)
        go_round
        case rel =>
          refine ⟨k + 1, _, by omega, by go_num, rfl, by omega, ?_, ?_⟩
          · have := HV.out; rw [Int.pow_succ]; omega
          · unfold Hid; rw [take_snoc s k hlt, hloop_snoc, HD.out]; exact hstep_in v s[k] (by omega)
        case measure => simp [intOf]; omega
    · have e : hloop s.data.toList = some v := by have := HD.out; rwa [List.take_of_length_le (by simp; omega)] at this
      have HE : Hid _ := e
      clear e hv1
      go_wp2_with fail
      go_ret2
      have e2 := HG.out; rw [HE.out] at e2
      exact ⟨by rw [e2]; rfl, rfl⟩

/-- one byte in a new row, as a string -/
theorem conv1 (w : World) (x : Int) :
    (convert 96 9 (.slice (some ⟨w.heap.size, 0, none⟩) 1 1)).run Tryz.prog (w.alloc (.cells #[.int .u8 x] 5)) = .ok (.string (bs [UInt8.ofNat x.toNat])) (w.alloc (.cells #[.int .u8 x] 5)) := by
  have h := run_convert_bytes_arg (P := Tryz.prog) (w.alloc (.cells #[.int .u8 x] 5)) 96 5 Tryz.underlying96 Tryz.underlying5 w.heap.size 0 1 1 [x] rfl (by
    intro i hi
    obtain rfl : i = 0 := by omega
    simp [go_sem]) 9 Tryz.underlying9
  rw [h]
  simp [strOfNums, bs]
theorem digs_step (n : Int) (h0 : 0 ≤ n) (h : ¬ n < 10) : digs n.toNat = digs (n / 10).toNat ++ [UInt8.ofNat (48 + n % 10).toNat] := by
  rw [digs_hi (by omega), show n.toNat / 10 = (n / 10).toNat from by omega, show 48 + n.toNat % 10 = (48 + n % 10).toNat from by omega]
set_option maxRecDepth 100000 in
theorem digits_any (k : Nat) : ∀ (n : Int) (w : World), n.toNat < 10 ^ (k + 1) → 0 ≤ n → n ≤ 18446744073709551615 →
    Calls Tryz.prog 43 #[.int .u64 n] w fun e w' => e = .returned (.string (bs (digs n.toNat))) ∧ Below w.heap.size w w' := by
  induction k with
  | zero =>
    intro n w hk h0 h1
    have hn : n < 10 := by simp at hk; omega
    clear hk h1
    have kc := fun wx => conv1 wx (48 + n % 10)
    go_enter Tryz.func43, Tryz.ntmps43
    go_wp2_with fail
    go_ret
    refine ⟨ret_str ?_, (Below.refl _ _).alloc (Nat.le_refl _) _⟩
    rw [digs_lo (by omega), show 48 + n.toNat = (48 + n % 10).toNat from by omega]
  | succ k ih =>
    intro n w hk h0 h1
    have kc := fun wx => conv1 wx (48 + n % 10)
    by_cases hn : n < 10
    · clear hk h1
      go_enter Tryz.func43, Tryz.ntmps43
      go_wp2_with fail
      go_ret
      refine ⟨ret_str ?_, (Below.refl _ _).alloc (Nat.le_refl _) _⟩
      rw [digs_lo (by omega), show 48 + n.toNat = (48 + n % 10).toNat from by omega]
    · have hq : (n / 10).toNat < 10 ^ (k + 1) := by rw [Nat.pow_succ] at hk; omega
      have hc : ¬ 9223372036854775807 < (bs (digs (n / 10).toNat)).size + (bs [UInt8.ofNat (48 + n % 10).toNat]).size :=
        cat_ok (by rw [bs_size]; have := digs_len20 (n / 10).toNat (by omega); omega) (by rw [bs_size]; simp)
      have IH := Lib.hid (fun w => ih (n / 10) w hq (by omega) (by omega))
      clear hk hq ih
      go_enter Tryz.func43, Tryz.ntmps43
      go_wp2_with (go_at_call 43; refine (IH.out _).mono ?_; rintro e w1 ⟨rfl, hb⟩)
      go_ret
      refine ⟨ret_str ?_, ?_⟩
      · rw [digs_step n h0 (by omega), bs_append]
      · exact ((Below.refl _ _).alloc (Nat.le_refl _) _).trans (hb.mono (by simp))

theorem decText_neg (n : Int) (h : n < 0) : bs [45] ++ bs (digs n.natAbs) = bs (decText n) := by rw [bs_append]; unfold decText; rw [if_pos h]; rfl
theorem refText_any (n : Int) (h0 : -9223372036854775808 ≤ n) (h1 : n ≤ 9223372036854775807) (w : World) :
    Calls Tryz.prog 36 #[.int .i64 n] w fun e w' => e = .returned (.string (bs (decText n))) ∧ Below w.heap.size w w' := by
  have hl := digs_len20 n.natAbs (by omega)
  have hc : ¬ 9223372036854775807 < (bs [45]).size + (bs (digs n.natAbs)).size := cat_ok (by rw [bs_size]; simp) (by rw [bs_size]; omega)
  have hd := fun w => digits_any 19 (n.natAbs : Int) w (by omega) (by omega) (by omega)
  rw [show ((n.natAbs : Int)).toNat = n.natAbs from by omega] at hd
  have HD := Lib.hid hd
  clear hd
  by_cases hn : n < 0
  · have hb45 : (⟨#[45]⟩ : ByteArray) = bs [45] := rfl
    go_enter Tryz.func36, Tryz.ntmps36
    go_wp2_with (first | (go_at_call 65; refine (size_any n h0 h1 _).mono ?_; rintro e w1 ⟨rfl, rfl⟩) | (go_at_call 43; refine (HD.out _).mono ?_; rintro e w1 ⟨rfl, hb⟩))
    go_ret
    exact ⟨ret_str (decText_neg n hn), hb⟩
  · go_enter Tryz.func36, Tryz.ntmps36
    go_wp2_with (first | (go_at_call 65; refine (size_any n h0 h1 _).mono ?_; rintro e w1 ⟨rfl, rfl⟩) | (go_at_call 43; refine (HD.out _).mono ?_; rintro e w1 ⟨rfl, hb⟩))
    go_ret
    exact ⟨ret_str (by unfold decText; rw [if_neg (by omega)]), hb⟩

/-- a row of bytes, an array of 20, from some place on: as a slice, and as a string -/
theorem slice20 (b : Nat) (i : Int) (k : Nat) (h : i = k) (hk : k < 20) (w : World) :
    (Instr.sliceAt 102 (.pointer (some ⟨b, 0, none⟩)) (some (.int .i64 i)) none none).run Tryz.prog w = .ok (.slice (some ⟨b, k, none⟩) (20 - k) (20 - k)) w := by
  subst h
  have ha : Tryz.prog.arrayLen 102 = 20 := by kernel_rfl
  have hs : (sizeOf (Tryz.prog.elem 102)).run Tryz.prog w = .ok 1 w := by kernel_rfl
  rw [run_sliceAt_array_l (P := Tryz.prog) w 102 ⟨b, 0, none⟩ (by kernel_rfl) .i64 k (by omega) (by rw [ha]; omega), hs, ha]
  simp only [Result.andThen, slicedAt, Addr.add, Int.toNat_natCast]; rw [if_neg (by omega)]; simp; exact fun h => h.symm
theorem slice4 (b : Nat) (i : Int) (k : Nat) (h : i = k) (hk : k < 4) (w : World) :
    (Instr.sliceAt 134 (.pointer (some ⟨b, 0, none⟩)) (some (.int .i64 i)) none none).run Tryz.prog w = .ok (.slice (some ⟨b, k, none⟩) (4 - k) (4 - k)) w := by
  subst h
  have ha : Tryz.prog.arrayLen 134 = 4 := by kernel_rfl
  have hs : (sizeOf (Tryz.prog.elem 134)).run Tryz.prog w = .ok 1 w := by kernel_rfl
  rw [run_sliceAt_array_l (P := Tryz.prog) w 134 ⟨b, 0, none⟩ (by kernel_rfl) .i64 k (by omega) (by rw [ha]; omega), hs, ha]
  simp only [Result.andThen, slicedAt, Addr.add, Int.toNat_natCast]; rw [if_neg (by omega)]; simp; exact fun h => h.symm
theorem conv_tail (w : World) (T : TypeId) (arr : List Value) (k : Nat) (acc : List UInt8) (h : Tail arr k acc) (n : Nat) (hn : n = arr.length - k) :
    (convert 96 9 (.slice (some ⟨w.heap.size, k, none⟩) n n)).run Tryz.prog (w.alloc (.cells arr.toArray T)) = .ok (.string (bs acc)) (w.alloc (.cells arr.toArray T)) := by
  obtain rfl : n = acc.length := by rw [hn, h.len]
  rw [run_convert_bytes_arg (P := Tryz.prog) (w.alloc (.cells arr.toArray T)) 96 5 Tryz.underlying96 Tryz.underlying5 w.heap.size k acc.length acc.length (acc.map fun c => (c.toNat : Int)) (by simp) (by
    intro i hi
    have : arr[k + i]? = some (bv (acc.getD i 0)) := by
      rw [← List.getElem?_drop, show arr.drop k = acc.map bv from h, List.getElem?_map]
      simp [List.getD, hi]
    simp [go_sem, this, bv, List.getD, hi]) 9 Tryz.underlying9]
  have e : (fun n : Int => UInt8.ofNat n.toNat) ∘ (fun c : UInt8 => (c.toNat : Int)) = id := by funext c; simp
  simp [strOfNums, bs, List.map_map, e]
set_option maxRecDepth 100000 in
set_option maxHeartbeats 400000 in
theorem decText_any (n : Int) (h0 : -9223372036854775808 ≤ n) (h1 : n ≤ 9223372036854775807) (w : World) :
    Calls Tryz.prog 61 #[.int .i64 n] w fun e w' => e = .returned (.string (bs (decText n))) ∧ Below w.heap.size w w' := by
  by_cases hn : n < 0
  · have HW := wrap_neg n h0 hn
    go_enter Tryz.func61, Tryz.ntmps61
    go_wp2_with fail
    go_loopw [4, 5] (fun u i wr => ∃ (k m : Nat) (arr : List Value), 2 ≤ k ∧ k ≤ 20 ∧ i = .int .i64 k ∧ u = .int .u64 m ∧ m ≤ 9223372036854775808 ∧ arr.length = 20 ∧ Hid (TextAt n.natAbs m k arr) ∧ wr = w.alloc (.cells arr.toArray 102)) (fun u _ _ => (intOf u).toNat)
    case atStart =>
      refine ⟨20, n.natAbs, List.replicate 20 (.int .u8 0), by omega, by omega, rfl, rfl, by omega, rfl, ⟨?_, [], rfl, by simp⟩, rfl⟩
      show n.natAbs < 10 ^ 19
      omega
    case round =>
      obtain ⟨k, m, arr, hk2, hk20, rfl, rfl, hm0, hlen, HT, rfl⟩ := hrel
      have HL := Lib.hid hlen; clear hlen
      obtain ⟨v0, hv0⟩ : ∃ v, arr[k - 1]? = some v := ⟨_, List.getElem?_eq_getElem (by have := HL.out; omega)⟩
      by_cases hm : m < 10
      · obtain ⟨v1, hv1⟩ : ∃ v, (arr.set (k - 1) (.int .u8 (48 + m)))[k - 1 - 1]? = some v := ⟨_, List.getElem?_eq_getElem (by have := HL.out; rw [List.length_set]; omega)⟩
        have hsl := fun wx => slice20 w.heap.size ((k : Int) - 1 - 1) (k - 1 - 1) (by omega) (by omega) wx
        have hcv := conv_tail w 102 _ _ _ ((HT.out.last (by omega) (by have := HL.out; omega) hm (.int .u8 (48 + m)) (by unfold bv; rw [u8_of _ (by omega)]; congr 1)).set (by omega) (by have := HL.out; rw [List.length_set]; omega) 45) (20 - (k - 1 - 1)) (by have := HL.out; rw [List.length_set, List.length_set]; omega)
        rw [show bv 45 = .int .u8 45 from rfl] at hcv
        go_wp2_with fail
        go_ret
        refine ⟨ret_str ?_, (Below.refl _ _).alloc (Nat.le_refl _) _⟩
        unfold decText; rw [if_pos hn]
      · have h3 : 3 ≤ k := pow_lt m k HT.out.1 (by omega)
        go_wp2_with fail
        go_roundw
        case rel =>
          refine ⟨k - 1, m / 10, _, by omega, by omega, by congr 1; omega, by go_num, by omega, by rw [List.length_set]; exact HL.out, HT.out.step h3 (by have := HL.out; omega) (by omega) _ ?_ (pow_div m k HT.out.1 h3), rfl⟩
          unfold bv; rw [u8_of _ (by omega)]; congr 1
        case measure => simp [intOf]; omega
  · obtain ⟨N, rfl⟩ := Int.eq_ofNat_of_zero_le (by omega : 0 ≤ n)
    go_enter Tryz.func61, Tryz.ntmps61
    go_wp2_with fail
    go_loopw [4, 5] (fun u i wr => ∃ (k m : Nat) (arr : List Value), 2 ≤ k ∧ k ≤ 20 ∧ i = .int .i64 k ∧ u = .int .u64 m ∧ m ≤ 9223372036854775808 ∧ arr.length = 20 ∧ Hid (TextAt N m k arr) ∧ wr = w.alloc (.cells arr.toArray 102)) (fun u _ _ => (intOf u).toNat)
    case atStart =>
      refine ⟨20, N, List.replicate 20 (.int .u8 0), by omega, by omega, rfl, rfl, by omega, rfl, ⟨?_, [], rfl, by simp⟩, rfl⟩
      show N < 10 ^ 19
      omega
    case round =>
      obtain ⟨k, m, arr, hk2, hk20, rfl, rfl, hm0, hlen, HT, rfl⟩ := hrel
      have HL := Lib.hid hlen; clear hlen
      obtain ⟨v0, hv0⟩ : ∃ v, arr[k - 1]? = some v := ⟨_, List.getElem?_eq_getElem (by have := HL.out; omega)⟩
      by_cases hm : m < 10
      · have hsl := fun wx => slice20 w.heap.size ((k : Int) - 1) (k - 1) (by omega) (by omega) wx
        have hcv := conv_tail w 102 _ _ _ (HT.out.last (by omega) (by have := HL.out; omega) hm (.int .u8 (48 + m)) (by unfold bv; rw [u8_of _ (by omega)]; congr 1)) (20 - (k - 1)) (by have := HL.out; rw [List.length_set]; omega)
        go_wp2_with fail
        go_ret
        refine ⟨ret_str ?_, (Below.refl _ _).alloc (Nat.le_refl _) _⟩
        unfold decText; rw [if_neg (by omega)]; simp
      · have h3 : 3 ≤ k := pow_lt m k HT.out.1 (by omega)
        go_wp2_with fail
        go_roundw
        case rel =>
          refine ⟨k - 1, m / 10, _, by omega, by omega, by congr 1; omega, by go_num, by omega, by rw [List.length_set]; exact HL.out, HT.out.step h3 (by have := HL.out; omega) (by omega) _ ?_ (pow_div m k HT.out.1 h3), rfl⟩
          unfold bv; rw [u8_of _ (by omega)]; congr 1
        case measure => simp [intOf]; omega

set_option maxRecDepth 100000 in
set_option maxHeartbeats 400000 in
theorem decHex_any (n : Int) (w : World) :
    Calls Tryz.prog 115 #[.int .i64 n] w fun e w' => e = .returned (.string (bs (hexText n))) ∧ Below w.heap.size w w' := by
  by_cases hn : n < 0 ∨ 65535 < n
  · have HE : Hid (hexText n = []) := by unfold Hid hexText; rw [if_pos hn]
    rcases hn with hn | hn
    · go_enter Tryz.func115, Tryz.ntmps115
      go_wp2_with fail
      go_ret
      exact ⟨by rw [HE.out]; rfl, Below.refl _ _⟩
    · have hn' : ¬ n < 0 := by omega
      go_enter Tryz.func115, Tryz.ntmps115
      go_wp2_with fail
      go_ret
      exact ⟨by rw [HE.out]; rfl, Below.refl _ _⟩
  · obtain ⟨N, rfl⟩ := Int.eq_ofNat_of_zero_le (by omega : 0 ≤ n)
    have hN : N ≤ 65535 := by omega
    have HE : Hid (hexText N = hexs N) := by unfold Hid hexText; rw [if_neg hn]; rfl
    clear hn
    go_enter Tryz.func115, Tryz.ntmps115
    go_wp2_with fail
    go_loopw [0, 4] (fun u i wr => ∃ (k m : Nat) (arr : List Value), 1 ≤ k ∧ k ≤ 4 ∧ i = .int .i64 k ∧ u = .int .i64 m ∧ m ≤ 65535 ∧ arr.length = 4 ∧ Hid (HexAt N m k arr) ∧ wr = w.alloc (.cells arr.toArray 134)) (fun u _ _ => (intOf u).toNat)
    case atStart =>
      refine ⟨4, N, List.replicate 4 (.int .u8 0), by omega, by omega, rfl, rfl, by omega, rfl, ⟨?_, [], rfl, by simp⟩, rfl⟩
      show N < 16 ^ 4
      omega
    case round =>
      obtain ⟨k, m, arr, hk2, hk20, rfl, rfl, hm0, hlen, HT, rfl⟩ := hrel
      have HL := Lib.hid hlen; clear hlen
      obtain ⟨v0, hv0⟩ : ∃ v, arr[k - 1]? = some v := ⟨_, List.getElem?_eq_getElem (by have := HL.out; omega)⟩
      have hsg := Lib.hid (fun w => sign_any ((m : Int) % 16) (by omega) (by omega) w)
      by_cases hm : m < 16
      · have hq : ((m : Int) / 16 == 0) = true := by rw [beq_iff_eq]; omega
        have hsl := fun wx => slice4 w.heap.size ((k : Int) - 1) (k - 1) (by omega) (by omega) wx
        have hcv := conv_tail w 134 _ _ _ (HT.out.last (by omega) (by have := HL.out; omega) hm (.int .u8 (hexDig (m % 16)).toNat) rfl) (4 - (k - 1)) (by have := HL.out; rw [List.length_set]; omega)
        go_wp2_with (go_at_call 125; refine (hsg.out _).mono ?_; rintro e w' ⟨rfl, rfl⟩)
        go_ret
        exact ⟨ret_str (by rw [HE.out]), (Below.refl _ _).alloc (Nat.le_refl _) _⟩
      · have h2 : 2 ≤ k := hex_lt m k HT.out.1 (by omega)
        have hq : ((m : Int) / 16 == 0) = false := by rw [beq_eq_false_iff_ne]; omega
        go_wp2_with (go_at_call 125; refine (hsg.out _).mono ?_; rintro e w' ⟨rfl, rfl⟩)
        go_roundw
        case rel => exact ⟨k - 1, m / 16, _, by omega, by omega, by congr 1; omega, by go_num, by omega, by rw [List.length_set]; exact HL.out, HT.out.step h2 (by have := HL.out; omega) (by omega) _ rfl, rfl⟩
        case measure => simp [intOf]; omega

theorem place_any (s : ByteArray) (c : UInt8) (w : World) (hs : s.size ≤ 140737488355328) :
    Calls Tryz.prog 102 #[.string s, .int .u8 c.toNat] w fun e w' => e = .returned (.int .i64 (placeOf s.data.toList c)) ∧ w = w' := by
  go_enter Tryz.func102, Tryz.ntmps102
  go_wp2_with fail
  go_loop [5] (fun i => ∃ k : Nat, k ≤ s.size ∧ i = .int .i64 k ∧ Hid (∀ j < k, s.data.toList[j]? ≠ some c)) (fun i => s.size - (intOf i).toNat)
  case atStart => exact ⟨0, Nat.zero_le _, rfl, fun j hj => by omega⟩
  case round =>
    obtain ⟨k, hk, rfl, HD⟩ := hrel
    by_cases hlt : k < s.size
    · by_cases hc : s[k] = c
      · have hq : ((s[k].toNat : Int) == (c.toNat : Int)) = true := by rw [hc]; simp
        have HC := Lib.hid hc; clear hc
        go_wp2_with fail
        go_ret
        exact ⟨ret_int (placeOf_at HD.out (by rw [get_data s k hlt, HC.out])).symm, rfl⟩
      · have hq : ((s[k].toNat : Int) == (c.toNat : Int)) = false := by rw [byte_beq]; simpa using hc
        have HC := Lib.hid hc; clear hc
        go_wp2_with fail
        go_round
        case rel =>
          refine ⟨k + 1, by omega, by go_num, ?_⟩
          intro j hj
          by_cases hjk : j < k
          · exact HD.out j hjk
          · obtain rfl : j = k := by omega
            rw [get_data s j hlt]; simpa using HC.out
        case measure => simp [intOf]; omega
    · go_wp2_with fail
      go_ret
      exact ⟨ret_int (placeOf_none (fun j hj => by
        by_cases hjk : j < k
        · exact HD.out j hjk
        · rw [len_data] at hj; omega)).symm, rfl⟩

theorem hex_char : ∀ n : Fin 16, (([48, 49, 50, 51, 52, 53, 54, 55, 56, 57, 97, 98, 99, 100, 101, 102] : List UInt8).drop n.val).take (n.val + 1 - n.val) = [hexDig n] := by decide +kernel
theorem slice_char (i : Int) (h0 : 0 ≤ i) (h1 : i < 16) (w : World) :
    (Instr.slice 9 (.string ⟨#[48, 49, 50, 51, 52, 53, 54, 55, 56, 57, 97, 98, 99, 100, 101, 102]⟩) (some (.int .i64 i)) (some (.int .i64 (i + 1))) none).run Tryz.prog w = .ok (.string (bs [hexDig i.toNat])) w := by
  have hz : ((⟨#[48, 49, 50, 51, 52, 53, 54, 55, 56, 57, 97, 98, 99, 100, 101, 102]⟩ : ByteArray).size : Int) = 16 := rfl
  rw [run_slice_string_if (h := Tryz.underlying9), if_pos (by rw [hz]; omega), if_pos (by omega)]
  congr 2
  apply ext_data
  rw [Lib.extract_data, bs_data, show (i + 1).toNat = i.toNat + 1 from by omega]
  exact hex_char ⟨i.toNat, by omega⟩
theorem hexText_lo (n : Int) (h0 : 0 ≤ n) (h : n < 16) : hexText n = [hexDig n.toNat] := by
  unfold hexText; rw [if_neg (by omega), hexs_lo (by omega)]
theorem hexText_hi (n : Int) (h0 : 16 ≤ n) (h : n ≤ 65535) : hexText n = hexText (n / 16) ++ [hexDig (n % 16).toNat] := by
  unfold hexText; rw [if_neg (by omega), if_neg (by omega), hexs_hi (by omega), show n.toNat / 16 = (n / 16).toNat from by omega, show n.toNat % 16 = (n % 16).toNat from by omega]
theorem hexText_no (n : Int) (h : n < 0 ∨ 65535 < n) : hexText n = [] := by unfold hexText; rw [if_pos h]
set_option maxRecDepth 100000 in
theorem refHex_any (k : Nat) : ∀ (n : Int) (w : World), n.toNat < 16 ^ (k + 1) →
    Calls Tryz.prog 88 #[.int .i64 n] w fun e w' => e = .returned (.string (bs (hexText n))) ∧ Below w.heap.size w w' := by
  induction k with
  | zero =>
    intro n w hk
    have hn : n < 16 := by simp at hk; omega
    clear hk
    by_cases hn0 : n < 0
    · go_enter Tryz.func88, Tryz.ntmps88
      go_wp2_with fail
      go_ret
      exact ⟨by rw [hexText_no n (Or.inl hn0)]; rfl, Below.refl _ _⟩
    · have hsl := fun w => slice_char n (by omega) (by omega) w
      go_enter Tryz.func88, Tryz.ntmps88
      go_wp2_with fail
      go_ret
      exact ⟨by rw [hexText_lo n (by omega) hn]; rfl, Below.refl _ _⟩
  | succ k ih =>
    intro n w hk
    by_cases hn0 : n < 0
    · clear hk
      go_enter Tryz.func88, Tryz.ntmps88
      go_wp2_with fail
      go_ret
      exact ⟨by rw [hexText_no n (Or.inl hn0)]; rfl, Below.refl _ _⟩
    by_cases hn1 : 65535 < n
    · clear hk
      go_enter Tryz.func88, Tryz.ntmps88
      go_wp2_with fail
      go_ret
      exact ⟨by rw [hexText_no n (Or.inr hn1)]; rfl, Below.refl _ _⟩
    by_cases hn : n < 16
    · have hsl := fun w => slice_char n (by omega) (by omega) w
      clear hk
      go_enter Tryz.func88, Tryz.ntmps88
      go_wp2_with fail
      go_ret
      exact ⟨by rw [hexText_lo n (by omega) (by omega)]; rfl, Below.refl _ _⟩
    · have hq : (n / 16).toNat < 16 ^ (k + 1) := by rw [Nat.pow_succ] at hk; omega
      have IH := Lib.hid (fun w => ih (n / 16) w hq)
      have hsl := fun w => slice_char (n % 16) (by omega) (by omega) w
      have hc : ¬ 9223372036854775807 < (bs (hexText (n / 16))).size + (bs [hexDig (n % 16).toNat]).size := cat_ok (by rw [bs_size]; have := hexText_len (n / 16); omega) (by rw [bs_size]; simp)
      have hn2 : 0 ≤ n := by omega
      have hn3 : n ≤ 65535 := by omega
      clear hk hq ih
      go_enter Tryz.func88, Tryz.ntmps88
      go_wp2_with fail
      refine wp_region_ext (by kernel_rfl) (by kernel_rfl) ?_
      repeat (go_big_quiet_step ((go_at_call 88; exact qe (IH.out _))))
      refine wpQuiet_nil ?_
      intro _ hw'
      obtain ⟨x, hw''⟩ := hw'
      subst hw''
      go_wp2_with fail
      go_ret
      exact ⟨ret_str (by rw [hexText_hi n (by omega) (by omega), bs_append]), ext_below _ _⟩

/-! ### the reference's readers -/
theorem place_lo (c : UInt8) (w : World) :
    Calls Tryz.prog 102 #[.string ⟨#[48, 49, 50, 51, 52, 53, 54, 55, 56, 57, 97, 98, 99, 100, 101, 102]⟩, .int .u8 c.toNat] w fun e w' => e = .returned (.int .i64 (loPlace c)) ∧ w = w' :=
  (place_any _ c w (by decide)).mono fun _ _ h => h
theorem place_hi (c : UInt8) (w : World) :
    Calls Tryz.prog 102 #[.string ⟨#[48, 49, 50, 51, 52, 53, 54, 55, 56, 57, 65, 66, 67, 68, 69, 70]⟩, .int .u8 c.toNat] w fun e w' => e = .returned (.int .i64 (hiPlace c)) ∧ w = w' :=
  (place_any _ c w (by decide)).mono fun _ _ h => h
set_option maxRecDepth 100000 in
theorem refParseHex_any (s : ByteArray) (w : World) (hs : s.size ≤ 140737488355328) :
    Calls Tryz.prog 82 #[.string s] w fun e w' => e = .returned (.tuple #[.int .i64 (hexParse s.data.toList).1, .bool (hexParse s.data.toList).2]) ∧ w = w' := by
  by_cases h1 : (s.size : Int) < 1
  · have e : hexParse s.data.toList = (0, false) := by unfold hexParse; rw [if_pos (Or.inl (List.eq_nil_of_length_eq_zero (by rw [len_data]; omega)))]
    have HE := Lib.hid e; clear e
    go_enter Tryz.func82, Tryz.ntmps82
    go_wp2_with fail
    go_ret2
    exact ⟨by rw [HE.out]; rfl, rfl⟩
  by_cases h2 : 4 < (s.size : Int)
  · have e : hexParse s.data.toList = (0, false) := by unfold hexParse; rw [if_pos (Or.inr (by rw [len_data]; omega))]
    have HE := Lib.hid e; clear e
    go_enter Tryz.func82, Tryz.ntmps82
    go_wp2_with fail
    go_ret2
    exact ⟨by rw [HE.out]; rfl, rfl⟩
  have HG : Hid (hexParse s.data.toList = match hloop s.data.toList with | none => (0, false) | some n => (n, true)) := by
    unfold Hid hexParse; exact if_neg (by
      rw [len_data]; rintro (h | h)
      · have := len_data s; rw [h] at this; simp at this; omega
      · omega)
  go_enter Tryz.func82, Tryz.ntmps82
  go_wp2_with fail
  go_loop [5, 4] (fun i n => ∃ (k : Nat) (v : Int), k ≤ s.size ∧ i = .int .i64 k ∧ n = .int .i64 v ∧ 0 ≤ v ∧ v < 16 ^ k ∧ Hid (hloop (s.data.toList.take k) = some v)) (fun i _ => s.size - (intOf i).toNat)
  case atStart => exact ⟨0, 0, Nat.zero_le _, rfl, rfl, by omega, by simp, by unfold Hid; simp [hloop]⟩
  case round =>
    obtain ⟨k, v, hk, rfl, rfl, hv0, hv1, HD⟩ := hrel
    by_cases hlt : k < s.size
    · have hvb : v < 4096 := by
        have : (16 : Int) ^ k ≤ 16 ^ 3 := by
          have : (16 : Nat) ^ k ≤ 16 ^ 3 := Nat.pow_le_pow_right (by omega) (by omega)
          exact_mod_cast this
        omega
      have HV : Hid (v < 16 ^ k) := hv1
      clear hv1
      have hp := places s[k]
      by_cases hlo : loPlace s[k] < 0
      · rw [if_pos hlo] at hp
        by_cases hhi : hiPlace s[k] < 0
        · have HP := Lib.hid hp; clear hp
          go_wp2_with (first | (go_at_call 102; (with_reducible refine (place_lo _ _).mono ?_); rintro e w' ⟨rfl, rfl⟩) | (go_at_call 102; (with_reducible refine (place_hi _ _).mono ?_); rintro e w' ⟨rfl, rfl⟩))
          go_ret2
          have e := hloop_stop s k hlt v HD.out (by rw [← HP.out]; exact hhi)
          have e2 := HG.out; rw [e] at e2
          exact ⟨by rw [e2]; rfl, rfl⟩
        · have hbd := hexVal_bd s[k]; rw [← hp] at hbd
          have HP := Lib.hid hp; clear hp
          obtain ⟨hb1, hb2⟩ := hbd
          go_wp2_with (first | (go_at_call 102; (with_reducible refine (place_lo _ _).mono ?_); rintro e w' ⟨rfl, rfl⟩) | (go_at_call 102; (with_reducible refine (place_hi _ _).mono ?_); rintro e w' ⟨rfl, rfl⟩))
          go_round
          case rel =>
            refine ⟨k + 1, _, by omega, by go_num, rfl, by omega, ?_, ?_⟩
            · have := HV.out; rw [Int.pow_succ]; omega
            · unfold Hid; rw [take_snoc s k hlt, hloop_snoc, HD.out, hstep_in v s[k] (by rw [← HP.out]; omega), ← HP.out, Int.mul_comm]
          case measure => simp [intOf]; omega
      · rw [if_neg hlo] at hp
        have hbd := hexVal_bd s[k]; rw [← hp] at hbd
        have HP := Lib.hid hp; clear hp
        obtain ⟨hb1, hb2⟩ := hbd
        go_wp2_with (first | (go_at_call 102; (with_reducible refine (place_lo _ _).mono ?_); rintro e w' ⟨rfl, rfl⟩) | (go_at_call 102; (with_reducible refine (place_hi _ _).mono ?_); rintro e w' ⟨rfl, rfl⟩))
        go_round
        case rel =>
          refine ⟨k + 1, _, by omega, by go_num, rfl, by omega, ?_, ?_⟩
          · have := HV.out; rw [Int.pow_succ]; omega
          · unfold Hid; rw [take_snoc s k hlt, hloop_snoc, HD.out, hstep_in v s[k] (by rw [← HP.out]; omega), ← HP.out, Int.mul_comm]
        case measure => simp [intOf]; omega
    · have e : hloop s.data.toList = some v := by have := HD.out; rwa [List.take_of_length_le (by simp; omega)] at this
      have HE : Hid _ := e
      clear e hv1
      go_wp2_with fail
      go_ret2
      have e2 := HG.out; rw [HE.out] at e2
      exact ⟨by rw [e2]; rfl, rfl⟩

theorem nval_step (s : ByteArray) (k : Nat) (h : k < s.size) (h1 : 48 ≤ (s[k].toNat : Int)) : ((nval (s.data.toList.take (k + 1)) : Nat) : Int) = 10 * (nval (s.data.toList.take k) : Int) + ((s[k].toNat : Int) - 48) := by
  rw [take_snoc s k h, nval_snoc]; omega
theorem refDec_bad (s : ByteArray) (most : Int) (hm : most ≤ 9223372036854775807) (k : Nat) (h : k < s.size) (hc : (s[k].toNat : Int) < 48 ∨ 57 < (s[k].toNat : Int)) : decParse s.data.toList most = (0, false) := by
  rw [← refDec_eq _ _ hm]; unfold refDec
  split
  · rfl
  · rw [if_neg]
    intro hd
    have := hd s[k] (List.mem_of_getElem? (get_data s k h))
    unfold isDig at this; omega
theorem refDec_end (s : ByteArray) (most : Int) (hm : most ≤ 9223372036854775807) (hl : 1 ≤ s.size) (hl2 : s.size ≤ 19) (hd : ∀ c ∈ s.data.toList, isDig c) :
    decParse s.data.toList most = if most < 0 ∨ most < (nval s.data.toList : Int) ∨ digs (nval s.data.toList) ≠ s.data.toList then (0, false) else ((nval s.data.toList : Int), true) := by
  rw [← refDec_eq _ _ hm]; unfold refDec
  rw [if_neg (by rw [len_data]; omega), if_pos hd]
set_option maxRecDepth 100000 in
set_option maxHeartbeats 400000 in
theorem refParse_any (s : ByteArray) (most : Int) (w : World) (hs : s.size ≤ 140737488355328) (hm0 : -9223372036854775808 ≤ most) (hm : most ≤ 9223372036854775807) :
    Calls Tryz.prog 20 #[.string s, .int .i64 most] w fun e w' => e = .returned (.tuple #[.int .i64 (decParse s.data.toList most).1, .bool (decParse s.data.toList most).2]) ∧ Below w.heap.size w w' := by
  by_cases h1 : (s.size : Int) < 1
  · have e : decParse s.data.toList most = (0, false) := by
      rw [← refDec_eq _ _ hm]; unfold refDec; rw [if_pos (by rw [len_data]; omega)]
    have HE := Lib.hid e; clear e
    go_enter Tryz.func20, Tryz.ntmps20
    go_wp2_with fail
    go_ret2
    exact ⟨by rw [HE.out]; rfl, Below.refl _ _⟩
  by_cases h2 : 19 < (s.size : Int)
  · have e : decParse s.data.toList most = (0, false) := by
      rw [← refDec_eq _ _ hm]; unfold refDec; rw [if_pos (by rw [len_data]; omega)]
    have HE := Lib.hid e; clear e
    go_enter Tryz.func20, Tryz.ntmps20
    go_wp2_with fail
    go_ret2
    exact ⟨by rw [HE.out]; rfl, Below.refl _ _⟩
  have HMM := Lib.hid hm; have HM0 := Lib.hid hm0; clear hm hm0
  go_enter Tryz.func20, Tryz.ntmps20
  go_wp2_with fail
  go_loop [7, 6] (fun i n => ∃ (k : Nat), k ≤ s.size ∧ i = .int .i64 k ∧ n = .int .u64 (nval (s.data.toList.take k)) ∧ Hid (∀ c ∈ s.data.toList.take k, isDig c)) (fun i _ => s.size - (intOf i).toNat)
  case atStart => exact ⟨0, Nat.zero_le _, rfl, rfl, by unfold Hid; simp⟩
  case round =>
    obtain ⟨k, hk, rfl, rfl, HD⟩ := hrel
    have hv := nval_lt _ HD.out
    rw [List.length_take, len_data] at hv
    by_cases hlt : k < s.size
    · have hvb : nval (s.data.toList.take k) < 1000000000000000000 := by
        have : (10 : Nat) ^ (min k s.size) ≤ 10 ^ 18 := Nat.pow_le_pow_right (by omega) (by omega)
        omega
      have HS := Lib.hid (nval_step s k hlt)
      generalize hv2 : nval (s.data.toList.take k) = v at *
      clear hv
      have HV := Lib.hid hv2; clear hv2
      go_wp2_with fail
      · go_ret2
        exact ⟨by rw [refDec_bad s most HMM.out k hlt (Or.inl ‹_›)]; rfl, Below.refl _ _⟩
      · go_ret2
        exact ⟨by rw [refDec_bad s most HMM.out k hlt (Or.inr ‹_›)]; rfl, Below.refl _ _⟩
      go_round
      case rel =>
        refine ⟨k + 1, by omega, by go_num, by rw [HS.out (by omega)], ?_⟩
        unfold Hid; rw [take_snoc s k hlt]; intro c hc
        rcases List.mem_append.1 hc with h | h
        · exact HD.out c h
        · rw [List.mem_singleton.1 h]; unfold isDig; omega
      case measure => simp [intOf]; omega
    · have hfull : s.data.toList.take k = s.data.toList := List.take_of_length_le (by rw [len_data]; omega)
      have HD2 : Hid (∀ c ∈ s.data.toList, isDig c) := by have := HD.out; rwa [hfull] at this
      have hE := refDec_end s most HMM.out (by omega) (by omega) HD2.out
      rw [hfull] at hv ⊢
      have hvb : nval s.data.toList < 10000000000000000000 := by
        have : (10 : Nat) ^ (min k s.size) ≤ 10 ^ 19 := Nat.pow_le_pow_right (by omega) (by omega)
        omega
      clear hv hfull
      generalize hv2 : nval s.data.toList = v at *
      have HV := Lib.hid hv2; clear hv2
      have HE := Lib.hid hE; clear hE
      have hd := fun w => digits_any 19 (v : Int) w (by omega) (by omega) (by omega)
      rw [show ((v : Int)).toNat = v from by omega] at hd
      have HG := Lib.hid hd; clear hd
      have hm := HMM.out
      by_cases hn : most < 0
      · go_wp2_with fail
        go_ret2
        exact ⟨by rw [HE.out, if_pos (Or.inl hn)]; rfl, Below.refl _ _⟩
      by_cases hg : most < (v : Int)
      · go_wp2_with fail
        go_ret2
        exact ⟨by rw [HE.out, if_pos (Or.inr (Or.inl hg))]; rfl, Below.refl _ _⟩
      go_wp2_with (go_at_call 43; refine (HG.out _).mono ?_; rintro e w1 ⟨rfl, hb⟩)
      · go_ret2
        have hne : digs v ≠ s.data.toList := by
          intro e
          have hx : (!((bs (digs v)).toList == s.toList)) = true := by assumption
          rw [bs_toL, toL, e] at hx; simp at hx
        exact ⟨by rw [HE.out, if_pos (Or.inr (Or.inr hne))]; rfl, hb⟩
      · go_ret2
        have heq : digs v = s.data.toList := by
          have hx : (!((bs (digs v)).toList == s.toList)) = false := by assumption
          rw [bs_toL, toL] at hx; simpa using hx
        exact ⟨by rw [HE.out, if_neg (by rintro (h | h | h); omega; omega; exact h heq)]; rfl, hb⟩
end Go.Proofs.YtnohkfbapibmdaaGreat
