/- Texts put together: Cells, Code. No condition. -/
import Derived.Test.YtnohkfbapibmdaaGreatRctlrhhfaal
import Derived.WalkKit
import Derived.OwnWalk
import Derived.Test.YtnohkfbapibmdaaGreatRoqtylxhcsf
import Derived.Test.YtnohkfbapibmdaaGreatRows
import Derived.WalkSpells
import Derived.WalkLawsBesides
import Derived.BigGuardPart
import Derived.BigQuiet
import Derived.Deep.QuietTactic
import Derived.Deep.Light
namespace Go.Proofs.YtnohkfbapibmdaaGreat
open Go.RowKit

/-- a result that lies in a cell, loaded -/
theorem results_cell {fn : Func} {t : Tmp} {ty : TypeId} (h : fn.results = #[.cell t ty]) {tmps : Array Value} {P : Program} {w : World} {b : Nat} (ht : tmps.getD t undef = .pointer (some ⟨b, 0, none⟩)) {v : Value} (hl : (loadVar ty ⟨b, 0, none⟩).run P w = .ok v w) :
    (results fn tmps).run P w = .ok v w := by
  rw [show tmps.getD t undef = tmps[t]?.getD undef from by simp] at ht
  simp [results, h, asAddr, ht, hl]
theorem BlockIs.load {P : Program} {w : World} {B : Nat} {arr : List Value} {T : TypeId} {n : Nat} {e : TypeId} (h : BlockIs w B arr T) (hu : P.underlying T = some (.array n e)) (hi : (P.info? T).map (·.size) = some arr.length) :
    (loadVar T ⟨B, 0, none⟩).run P w = .ok (.agg arr.toArray) w := run_loadVar_row w B T T arr.toArray (0, 0) _ h hu rfl (by simpa using hi)
theorem BlockIs.other {w : World} {B : Nat} {arr : List Value} {T : TypeId} (h : BlockIs w B arr T) {p : Addr} (hp : p.block ≠ B) (v : Value) : BlockIs (w.setCell p v) B arr T := by
  unfold BlockIs at *
  rw [← h]; exact Below.heap_setCell _ _ _ _ (fun e => hp e.symm)
/-- what is read of a block that is known whole -/
theorem BlockIs.reads {w : World} {B : Nat} {arr : List Value} {T : TypeId} (h : BlockIs w B arr T) {n : Nat} (hn : n = arr.length) (hm : n ≤ 9223372036854775807) : Reads w (.slice (some ⟨B, 0, none⟩) n n) n 1 arr := by
  subst hn
  refine ⟨by omega, hm, ?_⟩
  rcases Nat.eq_zero_or_pos arr.length with h0 | h0
  · exact Or.inl ⟨h0, _, arr.length, by rw [h0]⟩
  · exact Or.inr ⟨h0, B, 0, arr.length, rfl, Nat.le_refl _, h.lt, fun j x hj => by rw [Nat.zero_add]; exact h.cell hj⟩
end Go.Proofs.YtnohkfbapibmdaaGreat
namespace Go.Proofs.YtnohkfbapibmdaaGreat
open Go.RowKit

def svs (s : List UInt8) : Value := .string (bs s)
theorem codeAt_any (v : Value) (L : List (List UInt8)) (i : Int) (w : World) (h : Reads w v L.length 1 (L.map svs)) :
    Calls Tryz.prog 50 #[v, .int .i64 i] w fun e w' => e = .returned (.string (bs (nameAt L i))) ∧ w = w' := by
  obtain ⟨h1, h2, a, c, rfl, h3⟩ := h.open
  clear h1
  by_cases h0 : i < 0
  · go_enter Tryz.func50, Tryz.ntmps50
    go_wp2_with fail
    go_ret
    exact ⟨ret_str (by rw [nameAt_lo h0]; rfl), rfl⟩
  by_cases hl : (L.length : Int) ≤ i
  · go_enter Tryz.func50, Tryz.ntmps50
    go_wp2_with fail
    go_ret
    exact ⟨ret_str (by rw [nameAt_hi hl]; rfl), rfl⟩
  obtain ⟨k, rfl⟩ := Int.eq_ofNat_of_zero_le (by omega : 0 ≤ i)
  obtain ⟨b, o, rfl, h4, h5, h6⟩ := h3 (by omega)
  obtain ⟨s, hs⟩ : ∃ s, L[k]? = some s := ⟨_, List.getElem?_eq_getElem (by omega)⟩
  have hc := h6 k (svs s) (by rw [List.getElem?_map, hs]; rfl)
  have HN := Lib.hid (nameAt_in (L := L) (n := (k : Int)) (by omega) (by simpa using hs))
  clear h3 h6 hs
  go_enter Tryz.func50, Tryz.ntmps50
  go_wp2_with fail
  go_ret
  exact ⟨ret_str (by rw [HN.out]), rfl⟩
theorem code_reads_new {w : World} (T : TypeId) (L : List Value) (n : Nat) (hn : n = L.length) (hm : n ≤ 9223372036854775807) : Reads (w.alloc (.cells L.toArray T)) (.slice (some ⟨w.heap.size, 0, none⟩) n n) n 1 L := by
  subst hn
  refine ⟨by omega, hm, ?_⟩
  rcases Nat.eq_zero_or_pos L.length with h | h
  · exact Or.inl ⟨h, _, L.length, by rw [h]⟩
  · exact Or.inr ⟨h, w.heap.size, 0, L.length, rfl, Nat.le_refl _, by simp, fun j x hj => by simp [go_sem, hj]⟩
theorem beq_t {i k : Int} (h : (i == k) = true) : i = k := by simpa using h
theorem refCall_any (i : Int) (w : World) :
    Calls Tryz.prog 31 #[.int .i64 i] w fun e w' => e = .returned (.string (bs (nameAt callN i))) ∧ w = w' := by
  go_enter Tryz.func31, Tryz.ntmps31
  go_wp2_with fail
  iterate 13
    · go_ret
      obtain rfl := beq_t (i := i) ‹_›
      exact ⟨rfl, rfl⟩
  go_ret
  refine ⟨ret_str ?_, rfl⟩
  have : i < 0 ∨ i = 0 ∨ ((callN.length : Nat) : Int) ≤ i := by
    simp only [beq_eq_false_iff_ne] at *
    show i < 0 ∨ i = 0 ∨ (14 : Int) ≤ i
    omega
  rcases this with h | h | h
  · rw [nameAt_lo h]; rfl
  · rw [h]; rfl
  · rw [nameAt_hi h]; rfl
theorem calls_any (w : World) :
    Calls Tryz.prog 38 #[] w fun e w' => e = .returned (.agg #[.string ⟨#[]⟩, .string ⟨#[97, 99, 99, 101, 112, 116]⟩, .string ⟨#[108, 101, 97, 118, 101]⟩, .string ⟨#[100, 105, 97, 108]⟩, .string ⟨#[114, 101, 115, 117, 108, 116]⟩, .string ⟨#[98, 108, 97, 109, 101]⟩, .string ⟨#[98, 97, 110]⟩, .string ⟨#[117, 110, 98, 97, 110]⟩, .string ⟨#[98, 97, 110, 110, 101, 100]⟩, .string ⟨#[116, 105, 99, 107]⟩, .string ⟨#[108, 105, 115, 116]⟩, .string ⟨#[112, 111, 110, 103]⟩, .string ⟨#[119, 111, 114, 107]⟩, .string ⟨#[108, 101, 97, 114, 110]⟩]) ∧ Below w.heap.size w w' := by
  go_enter Tryz.func38, Tryz.ntmps38
  go_wp2_with fail
  have HB := BlockIs.new w (callN.map svs) 66
  exact bodyPost_ret (results_cell rfl rfl (HB.load Tryz.underlying66 (by kernel_rfl))) rfl ⟨rfl, (Below.refl _ _).alloc (Nat.le_refl _) _⟩
theorem codeCall_any (i : Int) (w : World) :
    Calls Tryz.prog 24 #[.int .i64 i] w fun e w' => e = .returned (.string (bs (nameAt callN i))) ∧ Below w.heap.size w w' := by
  have ha := Lib.hid (fun (w : World) => codeAt_any (.slice (some ⟨w.heap.size, 0, none⟩) 14 14) callN i (w.alloc (.cells (callN.map svs).toArray 66)) (code_reads_new _ _ 14 rfl (by decide)))
  go_enter Tryz.func24, Tryz.ntmps24
  go_wp2_with (first | (go_at_call 38; refine (calls_any _).mono ?_; rintro e w1 ⟨rfl, hb⟩) | (go_at_call 50; refine (ha.out _).mono ?_; rintro e w' ⟨rfl, rfl⟩))
  go_ret
  exact ⟨rfl, hb.alloc hb.size _⟩
theorem calls_idx (k : Nat) (h : k < 14) (w : World) : (Instr.index 66 (.agg #[.string ⟨#[]⟩, .string ⟨#[97, 99, 99, 101, 112, 116]⟩, .string ⟨#[108, 101, 97, 118, 101]⟩, .string ⟨#[100, 105, 97, 108]⟩, .string ⟨#[114, 101, 115, 117, 108, 116]⟩, .string ⟨#[98, 108, 97, 109, 101]⟩, .string ⟨#[98, 97, 110]⟩, .string ⟨#[117, 110, 98, 97, 110]⟩, .string ⟨#[98, 97, 110, 110, 101, 100]⟩, .string ⟨#[116, 105, 99, 107]⟩, .string ⟨#[108, 105, 115, 116]⟩, .string ⟨#[112, 111, 110, 103]⟩, .string ⟨#[119, 111, 114, 107]⟩, .string ⟨#[108, 101, 97, 114, 110]⟩]) (.int .i64 (k : Int))).run Tryz.prog w = .ok (svs (callN[k]'h)) w := by
  have key : ∀ j : Nat, ∀ hj : j < 14, k = j → (Instr.index 66 (.agg #[.string ⟨#[]⟩, .string ⟨#[97, 99, 99, 101, 112, 116]⟩, .string ⟨#[108, 101, 97, 118, 101]⟩, .string ⟨#[100, 105, 97, 108]⟩, .string ⟨#[114, 101, 115, 117, 108, 116]⟩, .string ⟨#[98, 108, 97, 109, 101]⟩, .string ⟨#[98, 97, 110]⟩, .string ⟨#[117, 110, 98, 97, 110]⟩, .string ⟨#[98, 97, 110, 110, 101, 100]⟩, .string ⟨#[116, 105, 99, 107]⟩, .string ⟨#[108, 105, 115, 116]⟩, .string ⟨#[112, 111, 110, 103]⟩, .string ⟨#[119, 111, 114, 107]⟩, .string ⟨#[108, 101, 97, 114, 110]⟩]) (.int .i64 (k : Int))).run Tryz.prog w = .ok (svs (callN[k]'h)) w := by
    intro j hj e
    subst e
    rcases (by omega : k = 0 ∨ k = 1 ∨ k = 2 ∨ k = 3 ∨ k = 4 ∨ k = 5 ∨ k = 6 ∨ k = 7 ∨ k = 8 ∨ k = 9 ∨ k = 10 ∨ k = 11 ∨ k = 12 ∨ k = 13) with rfl | rfl | rfl | rfl | rfl | rfl | rfl | rfl | rfl | rfl | rfl | rfl | rfl | rfl <;> kernel_rfl
  exact key k h rfl

theorem beq_str {a b : List UInt8} (h : a = b) : ((bs a).toList == (bs b).toList) = true := by subst h; simp
theorem codeKind_any (s : List UInt8) (w : World) :
    Calls Tryz.prog 14 #[.string (bs s)] w fun e w' => e = .returned (.int .i64 (kindOf s)) ∧ Below w.heap.size w w' := by
  go_enter Tryz.func14, Tryz.ntmps14
  go_wp2_with (go_at_call 38; refine (calls_any _).mono ?_; rintro e w1 ⟨rfl, hb⟩)
  have HB := Lib.hid hb; clear hb
  go_loop [6] (fun i => ∃ k : Nat, k ≤ 14 ∧ i = .int .i64 k ∧ Hid (kindFrom s 0 = kindFrom s k)) (fun i => (14 - intOf i).toNat)
  case atStart => exact ⟨0, by omega, rfl, rfl⟩
  case round =>
    obtain ⟨k, hk, rfl, HK⟩ := hrel
    by_cases hlt : k < 14
    · have hi := fun w => calls_idx k hlt w
      by_cases hc : callN[k]'hlt = s
      · have hq : ((bs (callN[k]'hlt)).toList == (bs s).toList) = true := beq_str hc
        have HC := Lib.hid hc; clear hc
        unfold svs at hi
        go_wp2_with fail
        go_ret
        exact ⟨ret_int (by rw [kindOf_eq, HK.out, kindFrom_hit s k hlt HC.out]), HB.out⟩
      · have hq : ((bs (callN[k]'hlt)).toList == (bs s).toList) = false := by rw [bs_toL, bs_toL]; simpa using hc
        have HC := Lib.hid hc; clear hc
        unfold svs at hi
        go_wp2_with fail
        go_round
        case rel => exact ⟨k + 1, by omega, by go_num, by rw [HK.out]; exact kindFrom_miss s k hlt HC.out⟩
        case measure => simp [intOf]; omega
    · go_wp2_with fail
      go_ret
      exact ⟨ret_int (by rw [kindOf_eq, HK.out, kindFrom_end s k (by omega)]), HB.out⟩
theorem refKind_any (s : List UInt8) (w : World) :
    Calls Tryz.prog 18 #[.string (bs s)] w fun e w' => e = .returned (.int .i64 (kindOf s)) ∧ w = w' := by
  go_enter Tryz.func18, Tryz.ntmps18
  go_wp2_with fail
  go_loop [3] (fun i => ∃ k : Nat, 1 ≤ k ∧ k ≤ 14 ∧ i = .int .i64 k ∧ Hid (s ≠ [] → kindFrom s 0 = kindFrom s k) ∧ Hid (s = [] → kindFrom s k = none)) (fun i => (14 - intOf i).toNat)
  case atStart => exact ⟨1, by omega, by omega, rfl, fun h => kindFrom_nil s h, fun h => by subst h; decide +kernel⟩
  case round =>
    obtain ⟨k, hk1, hk, rfl, HK, HN⟩ := hrel
    by_cases hlt : k < 14
    · have hr := fun w => refCall_any (k : Int) w
      rw [nameAt_in (L := callN) (n := (k : Int)) (s := callN[k]'hlt) (by omega) (by rw [Int.toNat_natCast]; exact List.getElem?_eq_getElem _)] at hr
      have HR := Lib.hid hr; clear hr
      by_cases hc : callN[k]'hlt = s
      · have hq : ((bs (callN[k]'hlt)).toList == (bs s).toList) = true := beq_str hc
        have HC := Lib.hid hc; clear hc
        go_wp2_with (go_at_call 31; refine (HR.out _).mono ?_; rintro e w' ⟨rfl, rfl⟩)
        go_ret
        exact ⟨ret_int (by
          have hs : s ≠ [] := fun e => by have := (name_nil ⟨k, hlt⟩).1 (by rw [← e]; exact HC.out); simp at this; omega
          rw [kindOf_eq, HK.out hs, kindFrom_hit s k hlt HC.out]), rfl⟩
      · have hq : ((bs (callN[k]'hlt)).toList == (bs s).toList) = false := by rw [bs_toL, bs_toL]; simpa using hc
        have HC := Lib.hid hc; clear hc
        go_wp2_with (go_at_call 31; refine (HR.out _).mono ?_; rintro e w' ⟨rfl, rfl⟩)
        go_round
        case rel => exact ⟨k + 1, by omega, by omega, by go_num, fun h => by rw [HK.out h]; exact kindFrom_miss s k hlt HC.out, fun h => by rw [← kindFrom_miss s k hlt HC.out]; exact HN.out h⟩
        case measure => simp [intOf]; omega
    · go_wp2_with fail
      go_ret
      refine ⟨ret_int ?_, rfl⟩
      by_cases hs : s = []
      · subst hs; rfl
      · rw [kindOf_eq, HK.out hs, kindFrom_end s k (by omega)]
end Go.Proofs.YtnohkfbapibmdaaGreat
