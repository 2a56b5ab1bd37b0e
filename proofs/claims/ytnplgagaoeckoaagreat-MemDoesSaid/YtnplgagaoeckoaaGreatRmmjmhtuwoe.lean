/- Texts put together: App, Cat, Cat3. No condition. -/
import Derived.Test.YtnplgagaoeckoaaGreatRjocmslpnog
import Derived.Test.YtnplgagaoeckoaaGreatRrloyafqzcj
import Derived.Test.YtnplgagaoeckoaaGreatRsemyekvhto
import Derived.Laws.MakeOwn
import Derived.Lib.AppendZerosOnto
set_option maxRecDepth 100000
set_option linter.unusedSimpArgs false
set_option linter.unusedVariables false
namespace Go.Proofs.YtnplgagaoeckoaaGreat
open Go.RowKit
theorem own_made {w : World} {base g size : Nat} {e : TypeId} (hg : g = w.heap.size) (hb : base ≤ w.heap.size) : (w.alloc (.cells #[] e)).ownsRow base e size (.slice (some ⟨g, 0, none⟩) 0 0) 0 [] := by
 subst hg; exact World.ownsRow_made w #[] 0 hb (Nat.zero_le _) (by simp)
section
variable {P : Program} {t e : TypeId} {size bytes : Nat}
/-- append of so many zeros onto nil: room -/
theorem run_app_zeros_nil (R : RowT P t e size bytes) {tn ty : TypeId} {kn : IntKind} (htn : P.underlying tn = some (.int kn)) (w : World) {base : Nat} (hb : base ≤ w.heap.size) (k : Nat) (hk : 0 < k) (hn : k * bytes ≤ 140737488355328) (hn2 : k ≤ 140737488355328) :
  ∃ g cap w', (Builtin.append_ #[t, tn] ty #[.slice none 0 0, .int .i64 k]).run P w = .ok (.slice (some ⟨g, 0, none⟩) k cap) w' ∧ k ≤ cap ∧ w'.ownsRow base e size (.slice (some ⟨g, 0, none⟩) 0 cap) 0 [] ∧ Below w.heap.size w w' := by
 obtain ⟨ht, hsz, i, z, hi, hz0, hz1, hz2, hz3⟩ := R
 subst hz2 hz1
 have hr := Lib.run_append_grow_zeros (P := P) w t tn ty e i z .i64 kn ht htn hi hz0 none 0 0 [] (by simp [Builtin.firstCells]) k hk (by omega) (by omega) (by omega) (by omega) (growslice_fits (by omega) (by rw [Nat.zero_add]; exact hn))
 rw [Nat.zero_add] at hr
 have hge := grownCap_ge w k 0 e
 have hcm : grownCap w k 0 e ≤ maxLen := grownCap_le_maxLen w k 0 e (by unfold maxLen; omega)
 refine ⟨_, _, _, hr, hge, ⟨by simp, .inr ⟨w.heap.size, _, _, rfl, hb, heap_alloc_new w.drew _, Nat.zero_le _, hcm, ?_, by simp⟩⟩, ((Below.refl _ _).drew).alloc (Nat.le_refl _) _⟩
 simp only [Array.size_append, List.size_toArray, size_zeroCells, hz3, List.length_nil]
 rw [Nat.zero_add, ← Nat.add_mul]; congr 1; omega
/-- an append that is known -/
theorem list_app_run {u : TypeId} {ops : Array Oper} {rest : List Oper} {o : Oper} {a : Act} {w : World} {Q : Exit → Act → World → Prop} (hg : o.guard = none) (s x : Operand)
  (hop : o.op = .call { callee := .builtin .append, args := #[s, x], argTypes := #[t, u] }) {v y r : Value} {w1 : World} (hs : a.eval s = v) (hx : a.eval x = y) (hr : (Builtin.append_ #[t, u] o.type #[v, y]).run P w = .ok r w1)
  (h : wpList P ops Q rest (a.put o.dst r) w1) : wpList P ops Q (o :: rest) a w :=
 wpList_plain hg fun _ hK => by
  unfold Oper.wp execOp
  simp only [hop, resolve, invoke, builtin, Sem.run_bind, Sem.run_pure, Result.andThen_ok, List.map_toArray, List.map_cons, List.map_nil, hs, hx, hr]
  exact hK _ _ h
end
set_option maxHeartbeats 4000000 in
theorem growPe (n : Nat) (hn : n ≤ 1000000) (w : World) :
  Calls Tryz.prog 98 #[.slice none 0 0, .int .i64 n] w fun e w' => ∃ r, e = .returned r ∧ w'.ownsRow w.heap.size 52 10 r 0 [] ∧ Below w.heap.size w w' := by
 rcases Nat.eq_zero_or_pos n with rfl | hp
 ·go_enter Tryz.func98, Tryz.ntmps98
  go_wp2_with fail
  go_ret
  exact ⟨_, rfl, World.ownsRow_nil _ _ _ _, Below.refl _ _⟩
 ·obtain ⟨g, cap, w', hr, hc, ho, hb⟩ := run_app_zeros_nil (P := Tryz.prog) peRow (tn := 3) (ty := 29) Tryz.underlying3 w (Nat.le_refl w.heap.size) n hp (by omega) (by omega)
  obtain ⟨HO, HB⟩ := zh2 ho hb
  have q1 : (0 : Int) < (n : Int) := by omega
  have q2 : ¬ ((n : Int) < 0) := by omega
  have q3 : (0 : Int) ≤ (n : Int) := by omega
  have HR := zh hr
  have q4 : (0 : Int) ≤ (cap : Int) := by omega
  clear ho hb hr
  go_enter Tryz.func98, Tryz.ntmps98
  go_wp2_with (at_builtin; refine list_app_run rfl (.tmp 20) (.tmp 21) rfl rfl rfl HR.out ?_)
  go_ret
  exact ⟨_, rfl, HO.out, HB.out⟩
set_option maxHeartbeats 8000000 in
theorem concat3Pe (v u y : Value) (l m q : List Pe) (B : Nat) (w : World) (c0 : w.cell? ⟨B, 0, none⟩ = some v) (c1 : w.cell? ⟨B, 1, none⟩ = some u) (c2 : w.cell? ⟨B, 2, none⟩ = some y) (hB : B < w.heap.size) (h1 : ReadsL peV 10 w v l) (h2 : ReadsL peV 10 w u m) (h3 : ReadsL peV 10 w y q) (hn : l.length + m.length + q.length ≤ 1000000) :
  Calls Tryz.prog 76 #[.slice (some ⟨B, 0, none⟩) 3 3] w fun e w' => ∃ r, e = .returned r ∧ w'.ownsRow w.heap.size 52 10 r (l ++ m ++ q).length ((l ++ m ++ q).flatMap peV) ∧ Below w.heap.size w w' := by
 obtain ⟨H1, H2, H3⟩ := zh3 h1 h2 h3
 obtain ⟨hm1, a1, x1, rfl, -⟩ := pes_open h1
 obtain ⟨hm2, a2, x2, rfl, -⟩ := pes_open h2
 obtain ⟨hm3, a3, x3, rfl, -⟩ := pes_open h3
 have HG := zh (fun W => growPe (l.length + m.length + q.length) hn W)
 have HN := zh hn
 have qs : ((l.length + m.length + q.length : Nat) : Int) = (l.length : Int) + (m.length : Int) + (q.length : Int) := by omega
 rw [qs] at HG
 clear h1 h2 h3 qs
 go_enter Tryz.func76, Tryz.ntmps76
 go_wp2_with fail
 go_loop [3, 11] (fun n' i' => (i' = .int .i64 0 ∧ n' = .int .i64 0) ∨ (i' = .int .i64 1 ∧ n' = .int .i64 l.length) ∨ (i' = .int .i64 2 ∧ n' = .int .i64 ((l.length : Int) + (m.length : Int))) ∨ (i' = .int .i64 3 ∧ n' = .int .i64 ((l.length : Int) + (m.length : Int) + (q.length : Int)))) (fun _ i' => 3 - (intOf i').toNat)
 case atStart => exact Or.inl ⟨rfl, rfl⟩
 case round =>
  rcases hrel with ⟨rfl, rfl⟩ | ⟨rfl, rfl⟩ | ⟨rfl, rfl⟩ | ⟨rfl, rfl⟩
  ·have hn1 : ¬ ((l.length : Int) < 0) := by omega
   go_wp2_with fail
   go_round
   case rel => exact Or.inr (Or.inl ⟨rfl, rfl⟩)
   case measure => simp [intOf]
  ·have hn1 : ¬ ((l.length : Int) + (m.length : Int) < 0) := by omega
   go_wp2_with fail
   go_round
   case rel => exact Or.inr (Or.inr (Or.inl ⟨rfl, rfl⟩))
   case measure => simp [intOf]
  ·have hn1 : ¬ ((l.length : Int) + (m.length : Int) + (q.length : Int) < 0) := by omega
   go_wp2_with fail
   go_round
   case rel => exact Or.inr (Or.inr (Or.inr ⟨rfl, rfl⟩))
   case measure => simp [intOf]
  ·go_wp2_with (go_at_call 98; (with_reducible refine (HG.out _).mono ?_); rintro e w1 ⟨r1, rfl, o1, b1⟩)
   obtain ⟨HO1, HB1⟩ := zh2 o1 b1
   clear o1 b1
   obtain ⟨C0, C1, C2⟩ := zh3 c0 c1 c2
   clear c0 c1 c2
   go_loopw [6, 27] (fun v' i' wr => Below w.heap.size w wr ∧ ((i' = .int .i64 0 ∧ Hid (wr.ownsRow w.heap.size 52 10 v' 0 [])) ∨ (i' = .int .i64 1 ∧ Hid (wr.ownsRow w.heap.size 52 10 v' l.length (l.flatMap peV))) ∨ (i' = .int .i64 2 ∧ Hid (wr.ownsRow w.heap.size 52 10 v' (l.length + m.length) (l.flatMap peV ++ m.flatMap peV))) ∨ (i' = .int .i64 3 ∧ Hid (wr.ownsRow w.heap.size 52 10 v' (l.length + m.length + q.length) (l.flatMap peV ++ m.flatMap peV ++ q.flatMap peV))))) (fun _ i' _ => 3 - (intOf i').toNat)
   case atStart => exact ⟨HB1.out, Or.inl ⟨rfl, HO1.out⟩⟩
   case round =>
    obtain ⟨hb, hrel⟩ := hrel
    have zb := hb.size
    rcases hrel with ⟨rfl, HO⟩ | ⟨rfl, HO⟩ | ⟨rfl, HO⟩ | ⟨rfl, HO⟩
    ·have e0 := keep hb hB C0.out
     have HB := zh hb
     clear hb
     go_wp2_with (at_builtin; refine list_app_reads peRow rfl (.tmp 31) (.tmp 32) rfl w.heap.size _ (0) ([]) rfl HO.out _ l.length (l.flatMap peV) rfl (Reads.below H1.out HB.out) (peV_ones _) (by omega) (by omega) HB.out.size w.heap.size w HB.out (Nat.le_refl _) ?_; intro v2 w2 o2 b2; simp only [Nat.zero_add, List.nil_append] at o2)
     go_roundw
     case rel => exact ⟨b2, Or.inr (Or.inl ⟨rfl, o2⟩)⟩
     case measure => simp [intOf]
    ·have e1 := keep hb hB C1.out
     have HB := zh hb
     clear hb
     go_wp2_with (at_builtin; refine list_app_reads peRow rfl (.tmp 31) (.tmp 32) rfl w.heap.size _ (l.length) (l.flatMap peV) rfl HO.out _ m.length (m.flatMap peV) rfl (Reads.below H2.out HB.out) (peV_ones _) (by omega) (by omega) HB.out.size w.heap.size w HB.out (Nat.le_refl _) ?_; intro v2 w2 o2 b2)
     go_roundw
     case rel => exact ⟨b2, Or.inr (Or.inr (Or.inl ⟨rfl, o2⟩))⟩
     case measure => simp [intOf]
    ·have e2 := keep hb hB C2.out
     have HB := zh hb
     clear hb
     go_wp2_with (at_builtin; refine list_app_reads peRow rfl (.tmp 31) (.tmp 32) rfl w.heap.size _ (l.length + m.length) (l.flatMap peV ++ m.flatMap peV) rfl HO.out _ q.length (q.flatMap peV) rfl (Reads.below H3.out HB.out) (peV_ones _) (by omega) (by omega) HB.out.size w.heap.size w HB.out (Nat.le_refl _) ?_; intro v2 w2 o2 b2)
     go_roundw
     case rel => exact ⟨b2, Or.inr (Or.inr (Or.inr ⟨rfl, o2⟩))⟩
     case measure => simp [intOf]
    ·go_wp2_with fail
     go_ret
     refine ⟨_, rfl, ?_, hb⟩
     rw [List.length_append, List.length_append, List.flatMap_append, List.flatMap_append]
     exact HO.out
end Go.Proofs.YtnplgagaoeckoaaGreat
