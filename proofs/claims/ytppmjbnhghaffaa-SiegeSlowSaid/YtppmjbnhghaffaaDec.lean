/- The contracts of dec and of its reference: what each function returns, for every argument in range. -/
import Derived.Test.YtppmjbnhghaffaaRows
import Derived.Test.YtppmjbnhghaffaaQ3d1c45ppqqkp
import Derived.Test.YtppmjbnhghaffaaWalk
import Derived.WalkKit
import Derived.WalkSpells
import Derived.WalkLawsBesides
import Derived.BigGuardPart
import Derived.BigQuiet
import Derived.Deep.QuietTactic
import Derived.Deep.Light
import Derived.Lib.Strings
namespace Go.Proofs.Ytppmjbnhghaffaa
open Go.RowKit
attribute [local go_sem] w64_byte w64_byte_sub

theorem digs_step (n : Int) (h0 : 0 ≤ n) (h : ¬ n < 10) : digs n.toNat = digs (n / 10).toNat ++ [UInt8.ofNat (48 + n % 10).toNat] := by
  rw [digs_hi (by omega), show n.toNat / 10 = (n / 10).toNat from by omega, show 48 + n.toNat % 10 = (48 + n % 10).toNat from by omega]
theorem decText_neg (n : Int) (h : n < 0) : bs [45] ++ bs (digs n.natAbs) = bs (decText n) := by rw [bs_append]; unfold decText; rw [if_pos h]; rfl
theorem hex_char : ∀ n : Fin 16, (([48, 49, 50, 51, 52, 53, 54, 55, 56, 57, 97, 98, 99, 100, 101, 102] : List UInt8).drop n.val).take (n.val + 1 - n.val) = [hexDig n] := by decide +kernel
theorem slice_char (i : Int) (h0 : 0 ≤ i) (h1 : i < 16) (w : World) :
    (Instr.slice 9 (.string ⟨#[48, 49, 50, 51, 52, 53, 54, 55, 56, 57, 97, 98, 99, 100, 101, 102]⟩) (some (.int .i64 i)) (some (.int .i64 (i + 1))) none).run Try.prog w = .ok (.string (bs [hexDig i.toNat])) w := by
  have hz : ((⟨#[48, 49, 50, 51, 52, 53, 54, 55, 56, 57, 97, 98, 99, 100, 101, 102]⟩ : ByteArray).size : Int) = 16 := rfl
  rw [run_slice_string_if (h := Try.underlying9), if_pos (by rw [hz]; omega), if_pos (by omega)]
  congr 2
  apply ext_data
  rw [Lib.extract_data, bs_data, show (i + 1).toNat = i.toNat + 1 from by omega]
  exact hex_char ⟨i.toNat, by omega⟩
theorem hexText_lo (n : Int) (h0 : 0 ≤ n) (h : n < 16) : hexText n = [hexDig n.toNat] := by
  unfold hexText; rw [if_neg (by omega), hexs_lo (by omega)]
theorem hexText_hi (n : Int) (h0 : 16 ≤ n) (h : n ≤ 65535) : hexText n = hexText (n / 16) ++ [hexDig (n % 16).toNat] := by
  unfold hexText; rw [if_neg (by omega), if_neg (by omega), hexs_hi (by omega), show n.toNat / 16 = (n / 16).toNat from by omega, show n.toNat % 16 = (n % 16).toNat from by omega]
theorem hexText_no (n : Int) (h : n < 0 ∨ 65535 < n) : hexText n = [] := by unfold hexText; rw [if_pos h]
/-! ### the reference's readers -/
theorem nval_step (s : ByteArray) (k : Nat) (h : k < s.size) (h1 : 48 ≤ (s[k].toNat : Int)) : ((nval (s.data.toList.take (k + 1)) : Nat) : Int) = 10 * (nval (s.data.toList.take k) : Int) + ((s[k].toNat : Int) - 48) := by
  rw [take_snoc s k h, nval_snoc]; omega
theorem refDec_bad (s : ByteArray) (most : Int) (hm : most ≤ 9223372036854775807) (k : Nat) (h : k < s.size) (hc : (s[k].toNat : Int) < 48 ∨ 57 < (s[k].toNat : Int)) : decParse s.data.toList most = (0, false) := by
  rw [← refDec_eq _ _ hm]; unfold refDec
  split
  · rfl
  · rw [if_neg]
    intro hd
    have := hd s[k] (List.mem_of_getElem? (get_data s k h))
    unfold isDig at this; omega
theorem refDec_end (s : ByteArray) (most : Int) (hm : most ≤ 9223372036854775807) (hl : 1 ≤ s.size) (hl2 : s.size ≤ 19) (hd : ∀ c ∈ s.data.toList, isDig c) :
    decParse s.data.toList most = if most < 0 ∨ most < (nval s.data.toList : Int) ∨ digs (nval s.data.toList) ≠ s.data.toList then (0, false) else ((nval s.data.toList : Int), true) := by
  rw [← refDec_eq _ _ hm]; unfold refDec
  rw [if_neg (by rw [len_data]; omega), if_pos hd]
end Go.Proofs.Ytppmjbnhghaffaa
