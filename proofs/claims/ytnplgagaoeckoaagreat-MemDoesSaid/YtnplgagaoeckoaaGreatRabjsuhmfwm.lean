/- Texts put together: Mix. No condition. -/
import Derived.Test.YtnplgagaoeckoaaGreatRuzzvrjikhw
import Derived.Test.YtnplgagaoeckoaaGreatRrjxbgxemzo
import Derived.Test.YtnplgagaoeckoaaGreatRluqwkbtqlq
import Derived.Test.YtnplgagaoeckoaaGreatRrloyafqzcj
import Derived.Test.YtnplgagaoeckoaaGreatRfnolrsgeod
import Derived.Test.YtnplgagaoeckoaaGreatRows
import Derived.WalkKit
import Derived.WalkSpells
import Derived.WalkLawsBesides
import Derived.Deep.Light
import Derived.Lib.Hide
set_option maxRecDepth 100000
set_option linter.unusedSimpArgs false
set_option linter.unusedVariables false
namespace Go.Proofs.YtnplgagaoeckoaaGreat
open Go.RowKit
def mixA (x : Nat) : Nat := ((x ^^^ (x / 1073741824)) * 13787848793156543929) % 18446744073709551616
def mixB (x : Nat) : Nat := ((x ^^^ (x / 134217728)) * 10723151780598845931) % 18446744073709551616
def mixC (x : Nat) : Nat := x ^^^ (x / 2147483648)
def mixOne (x : Nat) : Nat := mixC (mixB (mixA x))
def mixStep (h x : Nat) : Nat := mixOne (((h * 128) % 18446744073709551616 + h / 144115188075855872) ^^^ mixOne ((x + 11400714819323198485) % 18446744073709551616))
def mixOf (key : Nat) (l : List Nat) : Nat := l.foldl mixStep (mixOne ((key + 11400714819323198485) % 18446744073709551616))
def u64of (n : Int) : Nat := (n % 18446744073709551616).toNat
def mixNet (key : Nat) (n : Nt) : Nat := mixOf key [if n.ad.v6 then 6 else 4, n.ad.hi, n.ad.lo, u64of n.bits]
theorem u64of_lt (n : Int) : u64of n < 18446744073709551616 := by unfold u64of; omega
theorem u64of_wrap (n : Int) : IntKind.u64.wrap n = (u64of n : Int) := by unfold u64of; rw [IntKind.wrap_u64]; omega
theorem xor_lt64 {a b : Nat} (ha : a < 18446744073709551616) (hb : b < 18446744073709551616) : a ^^^ b < 18446744073709551616 := by
 have := Nat.xor_lt_two_pow (x := a) (y := b) (n := 64) (by omega) (by omega)
 omega
theorem mixOne_lt (x : Nat) : mixOne x < 18446744073709551616 := by
 have h : mixB (mixA x) < 18446744073709551616 := Nat.mod_lt _ (by omega)
 exact xor_lt64 h (Nat.lt_of_le_of_lt (Nat.div_le_self _ _) h)
theorem xor_div (x k : Nat) (ki : Int) (hki : ki = (k : Int)) (hx : x < 18446744073709551616) : bits .xor .u64 (x : Int) ((x : Int) / ki) = ((x ^^^ (x / k) : Nat) : Int) := by
 subst hki
 rw [show ((x : Int) / (k : Int)) = ((x / k : Nat) : Int) by simp, bits_xor_u64_nat x _ hx (Nat.lt_of_le_of_lt (Nat.div_le_self _ _) hx)]
theorem mul_wrap (a c : Nat) (ci : Int) (hci : ci = (c : Int)) : IntKind.u64.wrap ((a : Int) * ci) = ((a * c % 18446744073709551616 : Nat) : Int) := by
 subst hci
 rw [IntKind.wrap_u64]; simp
theorem mixOne_any (x : Nat) (hx : x < 18446744073709551616) (w : World) : Calls Tryz.prog 118 #[.int .u64 x] w fun e w' => e = .returned (.int .u64 (mixOne x)) ∧ w = w' := by
 obtain ⟨a, ha⟩ : ∃ a, a = x ^^^ (x / 1073741824) := ⟨_, rfl⟩
 have e1 := xor_div x 1073741824 1073741824 rfl hx
 rw [← ha] at e1
 have e2 := mul_wrap a 13787848793156543929 13787848793156543929 rfl
 obtain ⟨b, hb⟩ : ∃ b, b = a * 13787848793156543929 % 18446744073709551616 := ⟨_, rfl⟩
 rw [← hb] at e2
 have hb' : b < 18446744073709551616 := by rw [hb]; exact Nat.mod_lt _ (by omega)
 have e3 := xor_div b 134217728 134217728 rfl hb'
 obtain ⟨c, hc⟩ : ∃ c, c = b ^^^ (b / 134217728) := ⟨_, rfl⟩
 rw [← hc] at e3
 have e4 := mul_wrap c 10723151780598845931 10723151780598845931 rfl
 obtain ⟨d, hd⟩ : ∃ d, d = c * 10723151780598845931 % 18446744073709551616 := ⟨_, rfl⟩
 rw [← hd] at e4
 have hd' : d < 18446744073709551616 := by rw [hd]; exact Nat.mod_lt _ (by omega)
 have e5 := xor_div d 2147483648 2147483648 rfl hd'
 obtain ⟨f, hf⟩ : ∃ f, f = d ^^^ (d / 2147483648) := ⟨_, rfl⟩
 rw [← hf] at e5
 have HF : Hid (mixOne x = f) := by show _ = _; rw [mixOne, mixA, mixB, mixC, ← ha, ← hb, ← hc, ← hd, ← hf]
 clear ha hb hc hd hf
 rw [HF.out]
 go_enter Tryz.func118, Tryz.ntmps118
 go_wp2_with fail
 go_ret
 exact ⟨rfl, rfl⟩
theorem refMixOne_any (x : Nat) (hx : x < 18446744073709551616) (w : World) : Calls Tryz.prog 122 #[.int .u64 x] w fun e w' => e = .returned (.int .u64 (mixOne x)) ∧ w = w' := by
 obtain ⟨a, ha⟩ : ∃ a, a = x ^^^ (x / 1073741824) := ⟨_, rfl⟩
 have e1 := xor_div x 1073741824 1073741824 rfl hx
 rw [← ha] at e1
 have e2 := mul_wrap a 13787848793156543929 13787848793156543929 rfl
 obtain ⟨b, hb⟩ : ∃ b, b = a * 13787848793156543929 % 18446744073709551616 := ⟨_, rfl⟩
 rw [← hb] at e2
 have hb' : b < 18446744073709551616 := by rw [hb]; exact Nat.mod_lt _ (by omega)
 have e3 := xor_div b 134217728 134217728 rfl hb'
 obtain ⟨c, hc⟩ : ∃ c, c = b ^^^ (b / 134217728) := ⟨_, rfl⟩
 rw [← hc] at e3
 have e4 := mul_wrap c 10723151780598845931 10723151780598845931 rfl
 obtain ⟨d, hd⟩ : ∃ d, d = c * 10723151780598845931 % 18446744073709551616 := ⟨_, rfl⟩
 rw [← hd] at e4
 have hd' : d < 18446744073709551616 := by rw [hd]; exact Nat.mod_lt _ (by omega)
 have e5 := xor_div d 2147483648 2147483648 rfl hd'
 obtain ⟨f, hf⟩ : ∃ f, f = d ^^^ (d / 2147483648) := ⟨_, rfl⟩
 rw [← hf] at e5
 have HF : Hid (mixOne x = f) := by show _ = _; rw [mixOne, mixA, mixB, mixC, ← ha, ← hb, ← hc, ← hd, ← hf]
 clear ha hb hc hd hf
 rw [HF.out]
 go_enter Tryz.func122, Tryz.ntmps122
 go_wp2_with fail
 go_ret
 exact ⟨rfl, rfl⟩
theorem rot7 (h : Nat) (hh : h < 18446744073709551616) : bits .or .u64 (IntKind.u64.wrap ((h : Int) * 128)) ((h : Int) / 144115188075855872) = ((h * 128 % 18446744073709551616 + h / 144115188075855872 : Nat) : Int) := by
 have e1 := mul_wrap h 128 128 rfl
 rw [e1, show ((h : Int) / 144115188075855872) = ((h / 144115188075855872 : Nat) : Int) by omega, bits_or_u64_nat _ _ (by omega) (by omega)]
 congr 1
 have := or_add (h % 144115188075855872) (h / 144115188075855872) 7 (by omega)
 rw [show h * 128 % 18446744073709551616 = h % 144115188075855872 * 2 ^ 7 by omega]
 exact this
theorem rotl_any (h : Nat) (hh : h < 18446744073709551616) (w : World) : Calls Tryz.prog 119 #[.int .u64 h, .int .i64 7] w fun e w' => e = .returned (.int .u64 ((h * 128 % 18446744073709551616 + h / 144115188075855872 : Nat) : Int)) ∧ w = w' := by
 have e0 : bits .and .u64 7 63 = 7 := by decide +kernel
 have e1 := rot7 h hh
 generalize h * 128 % 18446744073709551616 + h / 144115188075855872 = r at *
 go_enter Tryz.func119, Tryz.ntmps119
 go_wp2_with fail
 go_ret
 exact ⟨rfl, rfl⟩
theorem add_wrap (a c : Nat) (ci : Int) (hci : ci = (c : Int)) : IntKind.u64.wrap ((a : Int) + ci) = (((a + c) % 18446744073709551616 : Nat) : Int) := by
 subst hci
 rw [IntKind.wrap_u64]; omega
theorem mixOf_snoc (key : Nat) (l : List Nat) (k : Nat) (h : k < l.length) : mixOf key (l.take (k + 1)) = mixStep (mixOf key (l.take k)) l[k] := by
 unfold mixOf; rw [List.take_succ_eq_append_getElem h, List.foldl_append, List.foldl_cons, List.foldl_nil]
theorem mixOf_lt (key : Nat) (l : List Nat) : mixOf key l < 18446744073709551616 := by
 rw [← List.reverse_reverse l]
 cases l.reverse with
 | nil => unfold mixOf; rw [List.reverse_nil, List.foldl_nil]; exact mixOne_lt _
 | cons x r => rw [List.reverse_cons]; unfold mixOf; rw [List.foldl_append, List.foldl_cons, List.foldl_nil, mixStep]; exact mixOne_lt _
theorem mixOf_any (key : Nat) (hk : key < 18446744073709551616) (v : Value) (L : List Nat) (w : World) (h : Reads w v L.length 1 (L.map fun x : Nat => Value.int .u64 (x : Int))) (hL : ∀ x ∈ L, x < 18446744073709551616) :
  Calls Tryz.prog 106 #[.int .u64 key, v] w fun e w' => e = .returned (.int .u64 (mixOf key L)) ∧ w = w' := by
 obtain ⟨h1, h2, a, c, rfl, h3⟩ := h.open
 clear h1
 have HL := zh hL
 have e1 := add_wrap key 11400714819323198485 11400714819323198485 rfl
 have hm : (key + 11400714819323198485) % 18446744073709551616 < 18446744073709551616 := by omega
 have HM : Hid (mixOne ((key + 11400714819323198485) % 18446744073709551616) = mixOf key (L.take 0)) := by show _ = _; unfold mixOf; rw [List.take_zero, List.foldl_nil]
 generalize (key + 11400714819323198485) % 18446744073709551616 = m at *
 have ho := fun w => mixOne_any m hm w
 clear hL
 go_enter Tryz.func106, Tryz.ntmps106
 go_wp2_with (go_at_call 118; refine (ho _).mono ?_; rintro e w' ⟨rfl, rfl⟩)
 go_loop [5, 13] (fun s i => ∃ k : Nat, k ≤ L.length ∧ i = .int .i64 k ∧ ∃ r : Nat, s = .int .u64 r ∧ r < 18446744073709551616 ∧ Hid (r = mixOf key (L.take k))) (fun _ i => L.length - (intOf i).toNat)
 case atStart => exact ⟨0, Nat.zero_le _, rfl, _, rfl, mixOne_lt _, HM.out⟩
 case round =>
  obtain ⟨k, hk, rfl, r, rfl, hr, HR⟩ := hrel
  by_cases hlt : k < L.length
  ·obtain ⟨b, o, rfl, h4, h5, h6⟩ := h3 (by omega)
   have hc := h6 k (.int .u64 (L[k]'hlt : Nat)) (by rw [List.getElem?_map, List.getElem?_eq_getElem hlt]; rfl)
   have hs := zh (mixOf_snoc key L k hlt)
   have hx : L[k]'hlt < 18446744073709551616 := HL.out _ (List.getElem_mem _)
   generalize L[k]'hlt = x at hc hs hx
   clear h3 h6
   have e2 := add_wrap x 11400714819323198485 11400714819323198485 rfl
   have hm2 : (x + 11400714819323198485) % 18446744073709551616 < 18446744073709551616 := by omega
   have hS : Hid (mixOf key (L.take (k + 1)) = mixOne ((r * 128 % 18446744073709551616 + r / 144115188075855872) ^^^ mixOne ((x + 11400714819323198485) % 18446744073709551616))) := by show _ = _; rw [hs.out, ← HR.out, mixStep]
   generalize (x + 11400714819323198485) % 18446744073709551616 = n at *
   have h7 := fun w => mixOne_any n hm2 w
   have hlt1 := mixOne_lt n
   generalize mixOne n = y at *
   have h8 := fun w => rotl_any r hr w
   have hlt2 : r * 128 % 18446744073709551616 + r / 144115188075855872 < 18446744073709551616 := by omega
   generalize r * 128 % 18446744073709551616 + r / 144115188075855872 = z at *
   have e3 : bits .xor .u64 (z : Int) (y : Int) = ((z ^^^ y : Nat) : Int) := bits_xor_u64_nat z y hlt2 hlt1
   have hlt3 := xor_lt64 hlt2 hlt1
   generalize z ^^^ y = q at *
   have h9 := fun w => mixOne_any q hlt3 w
   have hlt4 := mixOne_lt q
   clear hs HR ho
   go_wp2_with (first | (go_at_call 119; with_reducible refine (h8 _).mono ?_; rintro e w' ⟨rfl, rfl⟩) | (go_at_call 118; with_reducible refine (h7 _).mono ?_; rintro e w' ⟨rfl, rfl⟩) | (go_at_call 118; with_reducible refine (h9 _).mono ?_; rintro e w' ⟨rfl, rfl⟩))
   go_round
   case rel => exact ⟨k + 1, by omega, by go_num, mixOne q, rfl, hlt4, hS.out.symm⟩
   case measure => simp [intOf]; omega
  ·go_wp2_with fail
   go_ret
   exact ⟨by rw [HR.out, List.take_of_length_le (by omega)]; rfl, rfl⟩
theorem refMixOf_any (key : Nat) (hk : key < 18446744073709551616) (v : Value) (L : List Nat) (w : World) (h : Reads w v L.length 1 (L.map fun x : Nat => Value.int .u64 (x : Int))) (hL : ∀ x ∈ L, x < 18446744073709551616) :
  Calls Tryz.prog 109 #[.int .u64 key, v] w fun e w' => e = .returned (.int .u64 (mixOf key L)) ∧ w = w' := by
 obtain ⟨h1, h2, a, c, rfl, h3⟩ := h.open
 clear h1
 have HL := zh hL
 have e1 := add_wrap key 11400714819323198485 11400714819323198485 rfl
 have hm : (key + 11400714819323198485) % 18446744073709551616 < 18446744073709551616 := by omega
 have HM : Hid (mixOne ((key + 11400714819323198485) % 18446744073709551616) = mixOf key (L.take 0)) := by show _ = _; unfold mixOf; rw [List.take_zero, List.foldl_nil]
 generalize (key + 11400714819323198485) % 18446744073709551616 = m at *
 have ho := fun w => refMixOne_any m hm w
 clear hL
 go_enter Tryz.func109, Tryz.ntmps109
 go_wp2_with (go_at_call 122; refine (ho _).mono ?_; rintro e w' ⟨rfl, rfl⟩)
 go_loop [5, 6] (fun s i => ∃ k : Nat, k ≤ L.length ∧ i = .int .i64 k ∧ ∃ r : Nat, s = .int .u64 r ∧ r < 18446744073709551616 ∧ Hid (r = mixOf key (L.take k))) (fun _ i => L.length - (intOf i).toNat)
 case atStart => exact ⟨0, Nat.zero_le _, rfl, _, rfl, mixOne_lt _, HM.out⟩
 case round =>
  obtain ⟨k, hk, rfl, r, rfl, hr, HR⟩ := hrel
  by_cases hlt : k < L.length
  ·obtain ⟨b, o, rfl, h4, h5, h6⟩ := h3 (by omega)
   have hc := h6 k (.int .u64 (L[k]'hlt : Nat)) (by rw [List.getElem?_map, List.getElem?_eq_getElem hlt]; rfl)
   have hs := zh (mixOf_snoc key L k hlt)
   have hx : L[k]'hlt < 18446744073709551616 := HL.out _ (List.getElem_mem _)
   generalize L[k]'hlt = x at hc hs hx
   clear h3 h6
   have e2 := add_wrap x 11400714819323198485 11400714819323198485 rfl
   have hm2 : (x + 11400714819323198485) % 18446744073709551616 < 18446744073709551616 := by omega
   have hS : Hid (mixOf key (L.take (k + 1)) = mixOne ((r * 128 % 18446744073709551616 + r / 144115188075855872) ^^^ mixOne ((x + 11400714819323198485) % 18446744073709551616))) := by show _ = _; rw [hs.out, ← HR.out, mixStep]
   generalize (x + 11400714819323198485) % 18446744073709551616 = n at *
   have h7 := fun w => refMixOne_any n hm2 w
   have hlt1 := mixOne_lt n
   generalize mixOne n = y at *
   have e5 := mul_wrap r 128 128 rfl
   obtain ⟨y1, hy1, y2, hy2⟩ := nz2 (r * 128 % 18446744073709551616) (r / 144115188075855872)
   have e6 : ((r : Int) / 144115188075855872) = (y2 : Int) := by omega
   have hlt2 : y1 + y2 < 18446744073709551616 := by omega
   have e7 : IntKind.u64.wrap ((y1 : Int) + (y2 : Int)) = ((y1 + y2 : Nat) : Int) := by rw [IntKind.wrap_u64]; omega
   rw [← hy1] at e5
   rw [← hy1, ← hy2] at hS
   clear hy1 hy2
   generalize y1 + y2 = z at *
   have e3 : bits .xor .u64 (z : Int) (y : Int) = ((z ^^^ y : Nat) : Int) := bits_xor_u64_nat z y hlt2 hlt1
   have hlt3 := xor_lt64 hlt2 hlt1
   generalize z ^^^ y = q at *
   have h9 := fun w => refMixOne_any q hlt3 w
   have hlt4 := mixOne_lt q
   clear hs HR ho
   go_wp2_with (first | (go_at_call 122; with_reducible refine (h7 _).mono ?_; rintro e w' ⟨rfl, rfl⟩) | (go_at_call 122; with_reducible refine (h9 _).mono ?_; rintro e w' ⟨rfl, rfl⟩))
   go_round
   case rel => exact ⟨k + 1, by omega, by go_num, mixOne q, rfl, hlt4, hS.out.symm⟩
   case measure => simp [intOf]; omega
  ·go_wp2_with fail
   go_ret
   exact ⟨by rw [HR.out, List.take_of_length_le (by omega)]; rfl, rfl⟩
theorem mixNet_any (key : Nat) (hk : key < 18446744073709551616) (n : Nt) (hn : n.ad.fits) (w : World) :
  Calls Tryz.prog 88 #[.int .u64 key, .agg #[.bool n.ad.v6, .int .u64 n.ad.hi, .int .u64 n.ad.lo, .int .i64 n.bits]] w fun e w' => e = .returned (.int .u64 (mixNet key n)) ∧ Below w.heap.size w w' := by
 have e1 := u64of_wrap n.bits
 have hb := u64of_lt n.bits
 unfold mixNet
 generalize u64of n.bits = q at *
 have hhi := hn.1
 have hlo := hn.2
 have ho := zh (fun (w : World) (B : Nat) (hB : B = w.heap.size) (f : Nat) (hf : f < 18446744073709551616) => mixOf_any key hk (.slice (some ⟨B, 0, none⟩) 4 4) [f, n.ad.hi, n.ad.lo, q] (w.alloc (.cells #[.int .u64 f, .int .u64 n.ad.hi, .int .u64 n.ad.lo, .int .u64 q] 22)) ((BlockIs.newAt' w [.int .u64 f, .int .u64 n.ad.hi, .int .u64 n.ad.lo, .int .u64 q] 22 hB).reads rfl (by decide)) (by intro x hx; simp at hx; rcases hx with rfl | rfl | rfl | rfl <;> assumption))
 cases hv : n.ad.v6 with
 | true =>
  have hf' := fun w B hB => ho.out w B hB 6 (by omega)
  clear ho
  simp only [if_true]
  rw [show ((6 : Nat) : Int) = 6 from rfl] at hf'
  generalize mixOf key [6, n.ad.hi, n.ad.lo, q] = mv at *
  have hf := zh hf'
  clear hf'
  go_enter Tryz.func88, Tryz.ntmps88
  go_wp2_with (go_at_call 106; with_reducible refine (hf.out (w.alloc (.cells #[.bool true, .int .u64 n.ad.hi, .int .u64 n.ad.lo, .int .i64 n.bits] 82)) (w.heap.size + 1) (by simp)).mono ?_; rintro e w' ⟨rfl, rfl⟩)
  go_ret
  refine ⟨rfl, ?_⟩
  exact bel
 | false =>
  have hf' := fun w B hB => ho.out w B hB 4 (by omega)
  clear ho
  simp only [Bool.false_eq_true, if_false]
  rw [show ((4 : Nat) : Int) = 4 from rfl] at hf'
  generalize mixOf key [4, n.ad.hi, n.ad.lo, q] = mv at *
  have hf := zh hf'
  clear hf'
  go_enter Tryz.func88, Tryz.ntmps88
  go_wp2_with (go_at_call 106; with_reducible refine (hf.out (w.alloc (.cells #[.bool false, .int .u64 n.ad.hi, .int .u64 n.ad.lo, .int .i64 n.bits] 82)) (w.heap.size + 1) (by simp)).mono ?_; rintro e w' ⟨rfl, rfl⟩)
  go_ret
  refine ⟨rfl, ?_⟩
  exact bel
theorem refMixNet_any (key : Nat) (hk : key < 18446744073709551616) (n : Nt) (hn : n.ad.fits) (w : World) :
  Calls Tryz.prog 91 #[.int .u64 key, .agg #[.bool n.ad.v6, .int .u64 n.ad.hi, .int .u64 n.ad.lo, .int .i64 n.bits]] w fun e w' => e = .returned (.int .u64 (mixNet key n)) ∧ Below w.heap.size w w' := by
 have e1 := u64of_wrap n.bits
 have hb := u64of_lt n.bits
 unfold mixNet
 generalize u64of n.bits = q at *
 have hhi := hn.1
 have hlo := hn.2
 have ho := zh (fun (w : World) (B : Nat) (hB : B = w.heap.size) (f : Nat) (hf : f < 18446744073709551616) => refMixOf_any key hk (.slice (some ⟨B, 0, none⟩) 4 4) [f, n.ad.hi, n.ad.lo, q] (w.alloc (.cells #[.int .u64 f, .int .u64 n.ad.hi, .int .u64 n.ad.lo, .int .u64 q] 22)) ((BlockIs.newAt' w [.int .u64 f, .int .u64 n.ad.hi, .int .u64 n.ad.lo, .int .u64 q] 22 hB).reads rfl (by decide)) (by intro x hx; simp at hx; rcases hx with rfl | rfl | rfl | rfl <;> assumption))
 cases hv : n.ad.v6 with
 | true =>
  have hf' := fun w B hB => ho.out w B hB 6 (by omega)
  clear ho
  simp only [if_true]
  rw [show ((6 : Nat) : Int) = 6 from rfl] at hf'
  generalize mixOf key [6, n.ad.hi, n.ad.lo, q] = mv at *
  have hf := zh hf'
  clear hf'
  go_enter Tryz.func91, Tryz.ntmps91
  go_wp2_with (go_at_call 109; with_reducible refine (hf.out (w.alloc (.cells #[.bool true, .int .u64 n.ad.hi, .int .u64 n.ad.lo, .int .i64 n.bits] 82)) (w.heap.size + 1) (by simp)).mono ?_; rintro e w' ⟨rfl, rfl⟩)
  go_ret
  refine ⟨rfl, ?_⟩
  exact bel
 | false =>
  have hf' := fun w B hB => ho.out w B hB 4 (by omega)
  clear ho
  simp only [Bool.false_eq_true, if_false]
  rw [show ((4 : Nat) : Int) = 4 from rfl] at hf'
  generalize mixOf key [4, n.ad.hi, n.ad.lo, q] = mv at *
  have hf := zh hf'
  clear hf'
  go_enter Tryz.func91, Tryz.ntmps91
  go_wp2_with (go_at_call 109; with_reducible refine (hf.out (w.alloc (.cells #[.bool false, .int .u64 n.ad.hi, .int .u64 n.ad.lo, .int .i64 n.bits] 82)) (w.heap.size + 1) (by simp)).mono ?_; rintro e w' ⟨rfl, rfl⟩)
  go_ret
  refine ⟨rfl, ?_⟩
  exact bel
end Go.Proofs.YtnplgagaoeckoaaGreat
