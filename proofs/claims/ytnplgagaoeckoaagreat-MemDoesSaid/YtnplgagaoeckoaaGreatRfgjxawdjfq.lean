/- Texts put together: Ord. No condition. -/
import Derived.Test.YtnplgagaoeckoaaGreatRuzzvrjikhw
import Derived.Test.YtnplgagaoeckoaaGreatRhswffbbxtu
import Derived.Test.YtnplgagaoeckoaaGreatRluqwkbtqlq
import Derived.Test.YtnplgagaoeckoaaGreatRows
import Derived.WalkKit
import Derived.WalkSpells
import Derived.WalkLawsBesides
import Derived.BigGuardPart
import Derived.BigQuiet
import Derived.Deep.QuietTactic
import Derived.Deep.Light
import Derived.Deep.RegionHeld3
set_option maxRecDepth 100000
set_option linter.unusedSimpArgs false
set_option linter.unusedVariables false
namespace Go.Proofs.YtnplgagaoeckoaaGreat
open Go.RowKit
theorem bne_t {x y : Int} (h : (x != y) = true) : ¬ x = y := by simpa using h
theorem bne_f {x y : Int} (h : (x != y) = false) : x = y := by simpa using h
theorem nanI_any (a : Int) (w : World) : Calls Tryz.prog 112 #[.int .i64 a] w fun e w' => e = .returned (.bool false) ∧ w = w' := by
 go_enter Tryz.func112, Tryz.ntmps112
 go_wp2
 go_ret
 exact ⟨by simp, rfl⟩
theorem cmpInt_any (a b : Int) (w : World) : Calls Tryz.prog 129 #[.int .i64 a, .int .i64 b] w fun e w' => e = .returned (.int .i64 (cmpI a b)) ∧ w = w' := by
 go_enter Tryz.func129, Tryz.ntmps129
 go_wp2_with (go_at_call 112; refine (nanI_any _ _).mono ?_; rintro e w' ⟨rfl, rfl⟩)
 all_goals
  go_ret
  exact ⟨ret_int (by unfold cmpI; repeat (first | rw [if_pos (by omega)] | rw [if_neg (by omega)])), rfl⟩
theorem nanU_any (a : Int) (w : World) : Calls Tryz.prog 140 #[.int .u64 a] w fun e w' => e = .returned (.bool false) ∧ w = w' := by
 go_enter Tryz.func140, Tryz.ntmps140
 go_wp2
 go_ret
 exact ⟨by simp, rfl⟩
theorem cmpU64_any (a b : Int) (w : World) : Calls Tryz.prog 137 #[.int .u64 a, .int .u64 b] w fun e w' => e = .returned (.int .i64 (cmpI a b)) ∧ w = w' := by
 go_enter Tryz.func137, Tryz.ntmps137
 go_wp2_with (go_at_call 140; refine (nanU_any _ _).mono ?_; rintro e w' ⟨rfl, rfl⟩)
 all_goals
  go_ret
  exact ⟨ret_int (by unfold cmpI; repeat (first | rw [if_pos (by omega)] | rw [if_neg (by omega)])), rfl⟩
/-- cmp.Or of numbers in a row that is read -/
theorem or_any (v : Value) (L : List Int) (w : World) (h : Reads w v L.length 1 (L.map fun x => .int .i64 x)) :
  Calls Tryz.prog 127 #[v] w fun e w' => e = .returned (.int .i64 (orI L)) ∧ w = w' := by
 obtain ⟨h1, h2, a, c, rfl, h3⟩ := h.open
 clear h1
 go_enter Tryz.func127, Tryz.ntmps127
 go_wp2_with fail
 go_loop [8] (fun i => ∃ k : Nat, k ≤ L.length ∧ i = .int .i64 k ∧ Hid (orI L = orI (L.drop k))) (fun i => L.length - (intOf i).toNat)
 case atStart => exact ⟨0, Nat.zero_le _, rfl, rfl⟩
 case round =>
  obtain ⟨k, hk, rfl, HK⟩ := hrel
  by_cases hlt : k < L.length
  ·obtain ⟨b, o, rfl, h4, h5, h6⟩ := h3 (by omega)
   have hd := zh (List.drop_eq_getElem_cons hlt)
   have hc := h6 k (.int .i64 (L[k]'hlt)) (by rw [List.getElem?_map, List.getElem?_eq_getElem hlt]; rfl)
   generalize hx : L[k]'hlt = x at hc hd
   have HX := zh hx; clear h3 h6 hx
   go_wp2_with fail
   ·go_ret
    exact ⟨ret_int (by rw [HK.out, hd.out, orI, if_neg (bne_t ‹_›)]), rfl⟩
   ·go_round
    case rel => exact ⟨k + 1, by omega, by go_num, by rw [HK.out, hd.out, orI, if_pos (bne_f ‹_›)]; exact rfl⟩
    case measure => simp [intOf]; omega
  ·go_wp2_with fail
   go_ret
   exact ⟨ret_int (by rw [HK.out, List.drop_eq_nil_of_le (by omega)]; rfl), rfl⟩
theorem family_any (a : Ad) (w : World) : Calls Tryz.prog 136 #[.agg #[.bool a.v6, .int .u64 a.hi, .int .u64 a.lo]] w fun e w' => e = .returned (.int .i64 (famI a)) ∧ Below w.heap.size w w' := by
 unfold famI
 go_enter Tryz.func136, Tryz.ntmps136
 go_wp2
 all_goals
  go_ret
  exact ⟨ret_int (by simp [*]), (Below.refl _ _).alloc (Nat.le_refl _) _⟩
theorem adCmp_any (a b : Ad) (w : World) : Calls Tryz.prog 128 #[.agg #[.bool a.v6, .int .u64 a.hi, .int .u64 a.lo], .agg #[.bool b.v6, .int .u64 b.hi, .int .u64 b.lo]] w fun e w' => e = .returned (.int .i64 (adCmp a b)) ∧ Below w.heap.size w w' := by
 have ho := zh (fun (w : World) => or_any (.slice (some ⟨w.heap.size, 0, none⟩) 3 3) [cmpI (famI a) (famI b), cmpI a.hi b.hi, cmpI a.lo b.lo] (w.alloc (.cells #[.int .i64 (cmpI (famI a) (famI b)), .int .i64 (cmpI a.hi b.hi), .int .i64 (cmpI a.lo b.lo)] 3)) ((BlockIs.new w [.int .i64 (cmpI (famI a) (famI b)), .int .i64 (cmpI a.hi b.hi), .int .i64 (cmpI a.lo b.lo)] 3).reads rfl (by decide)))
 have z0 : w.heap.size < w.heap.size + 1 + 1 := by omega
 go_enter Tryz.func128, Tryz.ntmps128
 go_wp2_with fail
 go_region_held3 (fun w' => w'.cell? ⟨w.heap.size, 0, none⟩ = some (.bool a.v6) ∧ w'.cell? ⟨w.heap.size, 1, none⟩ = some (.int .u64 a.hi) ∧ w'.cell? ⟨w.heap.size, 2, none⟩ = some (.int .u64 a.lo) ∧ w'.cell? ⟨w.heap.size + 1, 0, none⟩ = some (.bool b.v6) ∧ w'.cell? ⟨w.heap.size + 1, 1, none⟩ = some (.int .u64 b.hi) ∧ w'.cell? ⟨w.heap.size + 1, 2, none⟩ = some (.int .u64 b.lo)) (first | go_keep | (simp (disch := omega) [*])) (first | (go_at_call 136; refine (family_any _ _).mono ?_; rintro e w1 ⟨rfl, b1⟩; obtain ⟨c1, f1⟩ := bcell b1; have z1 := b1.size; (try simp at z1)) | (go_at_call 129; refine (cmpInt_any _ _ _).mono ?_; rintro e w' ⟨rfl, rfl⟩) | (go_at_call 137; refine (cmpU64_any _ _ _).mono ?_; rintro e w' ⟨rfl, rfl⟩) | (go_at_call 127; refine (ho.out _).mono ?_; rintro e w' ⟨rfl, rfl⟩))
 go_wp2_with fail
 go_ret
 refine ⟨rfl, ?_⟩
 repeat (first | assumption | exact Below.refl _ _ | refine Below.alloc ?_ (by first | omega | (simp; done) | (simp; omega)) _ | refine Below.drew ?_ | (refine Below.trans ?_ (Below.mono (by assumption) (by first | omega | (simp; done) | (simp; omega)))))
theorem enCmp_any (a b : En) (w : World) : Calls Tryz.prog 115 #[.agg #[.bool a.ad.v6, .int .u64 a.ad.hi, .int .u64 a.ad.lo, .int .i64 a.port], .agg #[.bool b.ad.v6, .int .u64 b.ad.hi, .int .u64 b.ad.lo, .int .i64 b.port]] w fun e w' => e = .returned (.int .i64 (enCmp a b)) ∧ Below w.heap.size w w' := by
 have ho := zh (fun (w : World) => or_any (.slice (some ⟨w.heap.size, 0, none⟩) 2 2) [adCmp a.ad b.ad, cmpI a.port b.port] (w.alloc (.cells #[.int .i64 (adCmp a.ad b.ad), .int .i64 (cmpI a.port b.port)] 3)) ((BlockIs.new w [.int .i64 (adCmp a.ad b.ad), .int .i64 (cmpI a.port b.port)] 3).reads rfl (by decide)))
 have z0 : w.heap.size < w.heap.size + 1 + 1 := by omega
 go_enter Tryz.func115, Tryz.ntmps115
 go_wp2_with fail
 go_region_held3 (fun w' => w'.cell? ⟨w.heap.size, 0, none⟩ = some (.bool a.ad.v6) ∧ w'.cell? ⟨w.heap.size, 1, none⟩ = some (.int .u64 a.ad.hi) ∧ w'.cell? ⟨w.heap.size, 2, none⟩ = some (.int .u64 a.ad.lo) ∧ w'.cell? ⟨w.heap.size, 3, none⟩ = some (.int .i64 a.port) ∧ w'.cell? ⟨w.heap.size + 1, 0, none⟩ = some (.bool b.ad.v6) ∧ w'.cell? ⟨w.heap.size + 1, 1, none⟩ = some (.int .u64 b.ad.hi) ∧ w'.cell? ⟨w.heap.size + 1, 2, none⟩ = some (.int .u64 b.ad.lo) ∧ w'.cell? ⟨w.heap.size + 1, 3, none⟩ = some (.int .i64 b.port)) (first | go_keep | (simp (disch := omega) [*])) (first | (go_at_call 128; refine (adCmp_any a.ad b.ad _).mono ?_; rintro e w1 ⟨rfl, b1⟩; obtain ⟨c1, f1⟩ := bcell b1; have z1 := b1.size; (try simp at z1)) | (go_at_call 129; refine (cmpInt_any _ _ _).mono ?_; rintro e w' ⟨rfl, rfl⟩) | (go_at_call 127; refine (ho.out _).mono ?_; rintro e w' ⟨rfl, rfl⟩))
 go_wp2_with fail
 go_ret
 refine ⟨rfl, ?_⟩
 repeat (first | assumption | exact Below.refl _ _ | refine Below.alloc ?_ (by first | omega | (simp; done) | (simp; omega)) _ | refine Below.drew ?_ | (refine Below.trans ?_ (Below.mono (by assumption) (by first | omega | (simp; done) | (simp; omega)))))
theorem ad_iff2 (a b : Ad) : (if a = b then (0 : Int) else if (if a.v6 ≠ b.v6 then !a.v6 else if a.hi ≠ b.hi then decide (a.hi < b.hi) else decide (a.lo < b.lo)) = true then -1 else 1) =
  if a.v6 = b.v6 ∧ (a.hi : Int) = b.hi ∧ (a.lo : Int) = b.lo then (0 : Int) else if (if a.v6 ≠ b.v6 then !a.v6 else if (a.hi : Int) ≠ b.hi then decide (a.hi < b.hi) else decide (a.lo < b.lo)) = true then -1 else 1 := by
 have e : (a = b) ↔ (a.v6 = b.v6 ∧ (a.hi : Int) = b.hi ∧ (a.lo : Int) = b.lo) := ⟨fun h => by subst h; simp, fun ⟨h1, h2, h3⟩ => Ad.ext' h1 (by omega) (by omega)⟩
 have e2 : ((a.hi : Int) = b.hi) ↔ a.hi = b.hi := by omega
 simp only [e, ne_eq, e2]
theorem refAdCmp_any (a b : Ad) (w : World) : Calls Tryz.prog 104 #[.agg #[.bool a.v6, .int .u64 a.hi, .int .u64 a.lo], .agg #[.bool b.v6, .int .u64 b.hi, .int .u64 b.lo]] w fun e w' => e = .returned (.int .i64 (adCmp a b)) ∧ Below w.heap.size w w' := by
 go_enter Tryz.func104, Tryz.ntmps104
 go_wp2_with fail
 all_goals
  go_ret
  refine ⟨ret_int ?_, ?_⟩
  ·rw [adCmp_eq, ad_iff2]
   simp_all
   try omega
  ·repeat (first | assumption | exact Below.refl _ _ | refine Below.alloc ?_ (by first | omega | (simp; done) | (simp; omega)) _ | refine Below.drew ?_ | (refine Below.trans ?_ (Below.mono (by assumption) (by first | omega | (simp; done) | (simp; omega)))))
theorem refEnCmp_any (a b : En) (w : World) : Calls Tryz.prog 85 #[.agg #[.bool a.ad.v6, .int .u64 a.ad.hi, .int .u64 a.ad.lo, .int .i64 a.port], .agg #[.bool b.ad.v6, .int .u64 b.ad.hi, .int .u64 b.ad.lo, .int .i64 b.port]] w fun e w' => e = .returned (.int .i64 (enCmp a b)) ∧ Below w.heap.size w w' := by
 have z0 : w.heap.size < w.heap.size + 1 + 1 := by omega
 go_enter Tryz.func85, Tryz.ntmps85
 go_wp2_with (go_at_call 104; refine (refAdCmp_any a.ad b.ad _).mono ?_; rintro e w1 ⟨rfl, b1⟩; obtain ⟨c1, f1⟩ := bcell b1)
 all_goals
  go_ret
  refine ⟨ret_int ?_, ?_⟩
  ·unfold enCmp; rw [orI_two]
   simp_all [cmpI]
   try omega
  ·repeat (first | assumption | exact Below.refl _ _ | refine Below.alloc ?_ (by first | omega | (simp; done) | (simp; omega)) _ | refine Below.drew ?_ | (refine Below.trans ?_ (Below.mono (by assumption) (by first | omega | (simp; done) | (simp; omega)))))
end Go.Proofs.YtnplgagaoeckoaaGreat
