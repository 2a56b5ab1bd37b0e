/- Texts put together: BlkQ. No condition. -/
import Derived.Test.YtnohkfbapibmdaaRhwbilokfsh
import Derived.BigQuiet
namespace Go.Proofs.Ytnohkfbapibmdaa
open Go.RowKit

section
variable {P : Program} {ops : Array Oper} {rest : List Oper} {o : Oper} {a : Act} {w : World} {Q : Exit → Act → World → Prop}
/-- the same, of an operation that is wanted though it is guarded -/
theorem list_load_blk_w (hw : Region.wanted o (yielded ops a.tmps) = true) (ty : TypeId) (x : Operand) (ho : o.op = .load ty x) (g : Nat) (cells : List Value) (t : TypeId) (hB : BlockIs w g cells t)
    (hx : a.eval x = .pointer (some ⟨g, 0, none⟩)) {fs : Array Field} (hu : P.underlying ty = some (.struct fs)) (hi : (P.info? ty).map (·.size) = some cells.length)
    (h : wpList P ops Q rest (a.put o.dst (.agg cells.toArray)) w) : wpList P ops Q (o :: rest) a w :=
  wpList_step fun K hK => by rw [if_pos hw]; exact wp_load_row ty x ho g hx t cells.toArray (0, 0) _ hB hu rfl (by simpa using hi) (hK _ _ h)
end
/-- a whole struct out of a block, in a region that draws its order -/
theorem quiet_load_blk {P : Program} {C : World → Prop} {o : Oper} {a : Act} {K : Act → Prop} (ty : TypeId) (x : Operand) (ho : o.op = .load ty x) (g : Nat) (cells : List Value) (t : TypeId) (hB : ∀ w, C w → BlockIs w g cells t)
    (hx : a.eval x = .pointer (some ⟨g, 0, none⟩)) {fs : Array Field} (hu : P.underlying ty = some (.struct fs)) (hi : (P.info? ty).map (·.size) = some cells.length)
    (hk : K (a.put o.dst (.agg cells.toArray))) : o.quiet P a C K :=
  ⟨_, fun w hw => by
    unfold Oper.quietAt
    have e : (execOp a.eval o).run P w = .ok (.value (.agg cells.toArray)) w := by
      unfold execOp
      simp only [ho, hx, Instr.loadAt, Instr.sureAddr, Sem.run_bind, Sem.run_pure, Result.andThen_ok, run_loadVar_row w g t ty cells.toArray (0, 0) _ (hB w hw) hu rfl (by simpa using hi)]
    rw [e]; exact ⟨rfl, rfl⟩, hk⟩
theorem wpQuiet_load_blk {P : Program} {ops : Array Oper} {C : World → Prop} {o : Oper} {rest : List Oper} {a : Act} {Q : Act → Prop} (hw : Region.wanted o (yielded ops a.tmps) = true) (ty : TypeId) (x : Operand) (ho : o.op = .load ty x) (g : Nat) (cells : List Value) (t : TypeId) (hB : ∀ w, C w → BlockIs w g cells t)
    (hx : a.eval x = .pointer (some ⟨g, 0, none⟩)) {fs : Array Field} (hu : P.underlying ty = some (.struct fs)) (hi : (P.info? ty).map (·.size) = some cells.length)
    (h : wpQuiet P ops C Q rest (a.put o.dst (.agg cells.toArray))) : wpQuiet P ops C Q (o :: rest) a :=
  wpQuiet_step fun K hK => by rw [if_pos hw]; exact quiet_load_blk ty x ho g cells t hB hx hu hi (hK _ h)
theorem BlockIs.ext {w : World} {B : Nat} {arr : List Value} {T : TypeId} (h : BlockIs w B arr T) : ∀ w', (∃ x, w' = Go.Proofs.Ytnohkfbapibmdaa.ext w x) → BlockIs w' B arr T := fun w' ⟨x, e⟩ => by subst e; exact h.below (ext_below w x)
end Go.Proofs.Ytnohkfbapibmdaa
