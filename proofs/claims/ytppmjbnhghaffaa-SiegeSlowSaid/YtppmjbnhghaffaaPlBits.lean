/- Plain facts on bits of words. No condition. -/
import Derived.WalkKit
namespace Go.Proofs.Ytppmjbnhghaffaa
open Go.RowKit
theorem ofInt_nat32 (a : Nat) (h : a < 4294967296) : (BitVec.ofInt 32 (a : Int)).toNat = a := by
  rw [BitVec.ofInt_natCast, BitVec.toNat_ofNat]; exact Nat.mod_eq_of_lt (by omega)
theorem bits_and_u32_nat (a b : Nat) (ha : a < 4294967296) (hb : b < 4294967296) : bits .and .u32 (a : Int) (b : Int) = ((a &&& b : Nat) : Int) := by
  have hx : a &&& b < 2 ^ 32 := Nat.and_lt_two_pow _ (by omega)
  show IntKind.u32.wrap ((BitVec.ofInt 32 (a : Int) &&& BitVec.ofInt 32 (b : Int)).toNat : Int) = _
  rw [BitVec.toNat_and, ofInt_nat32 a ha, ofInt_nat32 b hb, IntKind.wrap_u32]
  omega
theorem bits_or_u32_nat (a b : Nat) (ha : a < 4294967296) (hb : b < 4294967296) : bits .or .u32 (a : Int) (b : Int) = ((a ||| b : Nat) : Int) := by
  have hx : a ||| b < 2 ^ 32 := Nat.or_lt_two_pow (by omega) (by omega)
  show IntKind.u32.wrap ((BitVec.ofInt 32 (a : Int) ||| BitVec.ofInt 32 (b : Int)).toNat : Int) = _
  rw [BitVec.toNat_or, ofInt_nat32 a ha, ofInt_nat32 b hb, IntKind.wrap_u32]
  omega
theorem or_add (m b i : Nat) (hb : b < 2 ^ i) : (m * 2 ^ i) ||| b = m * 2 ^ i + b := by
  have := Nat.shiftLeft_add_eq_or_of_lt hb m
  rw [Nat.shiftLeft_eq] at this; exact this.symm
theorem or8_u32 (m b : Nat) (hm : m < 16777216) (hb : b ≤ 255) : bits .or .u32 ((m : Int) * 256) (b : Int) = (m : Int) * 256 + b := by
  rw [show (m : Int) * 256 = ((m * 256 : Nat) : Int) from by omega, bits_or_u32_nat (m * 256) b (by omega) (by omega), show m * 256 ||| b = m * 256 + b from or_add m b 8 (by omega)]
  omega
theorem or16_u64 (m b : Nat) (hm : m < 281474976710656) (hb : b ≤ 65535) : bits .or .u64 ((m : Int) * 65536) (b : Int) = (m : Int) * 65536 + b := by
  rw [show (m : Int) * 65536 = ((m * 65536 : Nat) : Int) from by omega, bits_or_u64_nat (m * 65536) b (by omega) (by omega), show m * 65536 ||| b = m * 65536 + b from or_add m b 16 (by omega)]
  omega
theorem and8_u32 (m : Nat) (hm : m < 4294967296) : bits .and .u32 (m : Int) 255 = (m : Int) % 256 := by
  have h : bits .and .u32 (m : Int) 255 = ((m &&& 255 : Nat) : Int) := bits_and_u32_nat m 255 hm (by omega)
  rw [h, show m &&& 255 = m % 256 from Nat.and_two_pow_sub_one_eq_mod m 8]; omega
theorem and16_u32 (m : Nat) (hm : m < 4294967296) : bits .and .u32 (m : Int) 65535 = (m : Int) % 65536 := by
  have h : bits .and .u32 (m : Int) 65535 = ((m &&& 65535 : Nat) : Int) := bits_and_u32_nat m 65535 hm (by omega)
  rw [h, show m &&& 65535 = m % 65536 from Nat.and_two_pow_sub_one_eq_mod m 16]; omega
theorem and16_u64 (m : Nat) (hm : m < 18446744073709551616) : bits .and .u64 (m : Int) 65535 = (m : Int) % 65536 := by
  have h : bits .and .u64 (m : Int) 65535 = ((m &&& 65535 : Nat) : Int) := bits_and_u64_nat m 65535 hm (by omega)
  rw [h, show m &&& 65535 = m % 65536 from Nat.and_two_pow_sub_one_eq_mod m 16]; omega
theorem and32_u64 (m : Nat) (hm : m < 18446744073709551616) : bits .and .u64 (m : Int) 4294967295 = (m : Int) % 4294967296 := by
  have h : bits .and .u64 (m : Int) 4294967295 = ((m &&& 4294967295 : Nat) : Int) := bits_and_u64_nat m 4294967295 hm (by omega)
  rw [h, show m &&& 4294967295 = m % 4294967296 from Nat.and_two_pow_sub_one_eq_mod m 32]; omega
theorem and1_u64 (m : Nat) (hm : m < 18446744073709551616) : bits .and .u64 (m : Int) 1 = (m : Int) % 2 := by
  have h : bits .and .u64 (m : Int) 1 = ((m &&& 1 : Nat) : Int) := bits_and_u64_nat m 1 hm (by omega)
  rw [h, Nat.and_one_is_mod]; omega
end Go.Proofs.Ytppmjbnhghaffaa
