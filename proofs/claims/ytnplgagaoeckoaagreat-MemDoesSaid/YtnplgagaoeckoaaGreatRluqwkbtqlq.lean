/- Texts put together: Cells. No condition. -/
import Derived.Test.YtnplgagaoeckoaaGreatRuzzvrjikhw
import Derived.WalkKit
import Derived.OwnWalk
set_option linter.unusedSimpArgs false
set_option linter.unusedVariables false
namespace Go.Proofs.YtnplgagaoeckoaaGreat
open Go.RowKit
/-- a result that lies in a cell, loaded -/
theorem results_cell {fn : Func} {t : Tmp} {ty : TypeId} (h : fn.results = #[.cell t ty]) {tmps : Array Value} {P : Program} {w : World} {b : Nat} (ht : tmps.getD t undef = .pointer (some ⟨b, 0, none⟩)) {v : Value} (hl : (loadVar ty ⟨b, 0, none⟩).run P w = .ok v w) :
  (results fn tmps).run P w = .ok v w := by
 rw [show tmps.getD t undef = tmps[t]?.getD undef from by simp] at ht
 simp [results, h, asAddr, ht, hl]
theorem BlockIs.load {P : Program} {w : World} {B : Nat} {arr : List Value} {T : TypeId} {n : Nat} {e : TypeId} (h : BlockIs w B arr T) (hu : P.underlying T = some (.array n e)) (hi : (P.info? T).map (·.size) = some arr.length) :
  (loadVar T ⟨B, 0, none⟩).run P w = .ok (.agg arr.toArray) w := run_loadVar_row w B T T arr.toArray (0, 0) _ h hu rfl (by simpa using hi)
theorem BlockIs.other {w : World} {B : Nat} {arr : List Value} {T : TypeId} (h : BlockIs w B arr T) {p : Addr} (hp : p.block ≠ B) (v : Value) : BlockIs (w.setCell p v) B arr T := by
 unfold BlockIs at *
 rw [← h]; exact Below.heap_setCell _ _ _ _ (fun e => hp e.symm)
/-- what is read of a block that is known whole -/
theorem BlockIs.reads {w : World} {B : Nat} {arr : List Value} {T : TypeId} (h : BlockIs w B arr T) {n : Nat} (hn : n = arr.length) (hm : n ≤ 9223372036854775807) : Reads w (.slice (some ⟨B, 0, none⟩) n n) n 1 arr := by
 subst hn
 refine ⟨by omega, hm, ?_⟩
 rcases Nat.eq_zero_or_pos arr.length with h0 | h0
 ·exact Or.inl ⟨h0, _, arr.length, by rw [h0]⟩
 ·exact Or.inr ⟨h0, B, 0, arr.length, rfl, Nat.le_refl _, h.lt, fun j x hj => by rw [Nat.zero_add]; exact h.cell hj⟩
end Go.Proofs.YtnplgagaoeckoaaGreat
