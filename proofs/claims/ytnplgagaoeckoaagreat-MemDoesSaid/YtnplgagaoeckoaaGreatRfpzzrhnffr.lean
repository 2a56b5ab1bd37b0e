/- Texts put together: RankD, RankF, Shield, ShieldC, EvictB, Reach, Firm. No condition. -/
import Derived.Test.YtnplgagaoeckoaaGreatRabjsuhmfwm
import Derived.Test.YtnplgagaoeckoaaGreatRcwqyjfsjeh
import Derived.Test.YtnplgagaoeckoaaGreatRfgjxawdjfq
import Derived.Test.YtnplgagaoeckoaaGreatRrornvdfvpg
import Derived.Test.YtnplgagaoeckoaaGreatRqjngbjfvuz
import Derived.Test.YtnplgagaoeckoaaGreatRrloyafqzcj
import Derived.Test.YtnplgagaoeckoaaGreatRuzzvrjikhw
import Derived.Test.YtnplgagaoeckoaaGreatRfnolrsgeod
import Derived.Test.YtnplgagaoeckoaaGreatRdelfbcrueh
import Derived.Test.YtnplgagaoeckoaaGreatRjocmslpnog
import Derived.Test.YtnplgagaoeckoaaGreatRows
import Derived.WalkKit
import Derived.WalkSpells
import Derived.WalkLawsBesides
import Derived.Test.YtnplgagaoeckoaaGreatRxxmcygjsie
import Derived.Test.YtnplgagaoeckoaaGreatRsemyekvhto
import Derived.Test.YtnplgagaoeckoaaGreatRwgohmudpfg
import Derived.Test.YtnplgagaoeckoaaGreatRluqwkbtqlq
set_option maxRecDepth 100000
set_option linter.unusedSimpArgs false
set_option linter.unusedVariables false
namespace Go.Proofs.YtnplgagaoeckoaaGreat
open Go.RowKit
theorem wo_of {α : Type} {c : α → α → Int} (C : Cmp c) : WO fun a b => decide (c a b < 0) := by
 constructor
 ·intro a b d h1 h2
  have h1 : c a b < 0 := by simpa using h1
  have h2 : c b d < 0 := by simpa using h2
  exact decide_eq_true (C.le_eq h1 (show c b d ≤ 0 by omega))
 ·intro a b d h1 h2
  have h1 : ¬ c a b < 0 := by simpa using h1
  have h2 : ¬ c b d < 0 := by simpa using h2
  have := C.trans d b a (by rw [C.neg b d]; omega) (by rw [C.neg a b]; omega)
  exact decide_eq_false (by rw [C.neg d a]; omega)
 ·intro a b h1
  have h1 : c a b < 0 := by simpa using h1
  exact decide_eq_false (by rw [C.neg a b]; omega)

theorem blk_grown {w w' : World} {U : Nat} {us : List Value} {T : TypeId} {o : Option Nat} (h : BlockIs w U us T) (hg : w.grownBy w' o) (ho : o ≠ some U) : BlockIs w' U us T := by
 unfold BlockIs at *
 rw [hg.block U (BlockIs.lt (show BlockIs w U us T from h)) (fun e => ho e.symm)]; exact h

structure Qu where
 group : Int
 ping : Int
 work : Int
 time : Int

def Qu.fits (q : Qu) : Prop := (-9223372036854775808 ≤ q.group ∧ q.group ≤ 9223372036854775807) ∧ (-9223372036854775808 ≤ q.ping ∧ q.ping ≤ 9223372036854775807) ∧ (-9223372036854775808 ≤ q.work ∧ q.work ≤ 9223372036854775807) ∧ (-9223372036854775808 ≤ q.time ∧ q.time ≤ 9223372036854775807)
theorem owns_setB {w : World} {base n U i : Nat} {e : TypeId} {size : Nat} {v x : Value} {xs us : List Value} {T : TypeId} (h : w.ownsRow base e size v n xs) (hb : BlockIs w U us T) (hne : v.ownBlock ≠ some U) : (w.setCell ⟨U, i, none⟩ x).ownsRow base e size v n xs := by
 obtain ⟨h1, h2⟩ := h
 refine ⟨h1, ?_⟩
 rcases h2 with h2 | ⟨g, cap, cur, rfl, hg, hh, r⟩
 ·exact Or.inl h2
 ·refine Or.inr ⟨g, cap, cur, rfl, hg, ?_, r⟩
  have hgu : g ≠ U := fun e => hne (by rw [e]; rfl)
  rw [← hh]; exact Below.heap_setCell _ _ _ _ (fun e => hgu e)

set_option maxHeartbeats 8000000 in
theorem peers_same (v u : Value) (L : List Pe) (w : World) (hv : ReadsL peV 10 w v L) (hu : ReadsL peV 10 w u L) :
  Calls Tryz.prog 56 #[v, u] w fun e w' => e = .returned (.bool true) ∧ Below w.heap.size w w' := by
 obtain ⟨hm, p, c, rfl, h3⟩ := pes_open hv
 obtain ⟨hm1, p1, c1, rfl, k3⟩ := pes_open hu
 clear hv hu
 go_enter Tryz.func56, Tryz.ntmps56
 go_wp2_with fail
 go_loopw [5] (fun i' wr => ∃ k : Nat, k ≤ L.length ∧ i' = .int .i64 k ∧ Hid (Below w.heap.size w wr)) (fun i' _ => L.length - (intOf i').toNat)
 case atStart => exact ⟨0, by omega, rfl, Below.refl _ _⟩
 case round =>
  obtain ⟨k, hk, rfl, HB⟩ := hrel
  by_cases hlt : k < L.length
  ·obtain ⟨p, hp⟩ : ∃ p, L[k]? = some p := ⟨_, List.getElem?_eq_getElem hlt⟩
   obtain ⟨b1, o1, rfl, hc1, hb1, hx1⟩ := h3 (by omega)
   obtain ⟨b2, o2, rfl, hc2, hb2, hx2⟩ := k3 (by omega)
   have K := ((hx1 k p hp).below HB.out hb1).ext (Nat.lt_of_lt_of_le hb1 HB.out.size)
   have K2 := ((hx2 k p hp).below HB.out hb2).ext (Nat.lt_of_lt_of_le hb2 HB.out.size)
   have x0 := fun y => (K y).1; have x1 := fun y => (K y).2.1; have x2 := fun y => (K y).2.2.1; have x3 := fun y => (K y).2.2.2.1; have x4 := fun y => (K y).2.2.2.2.1; have x5 := fun y => (K y).2.2.2.2.2.1; have x6 := fun y => (K y).2.2.2.2.2.2.1; have x7 := fun y => (K y).2.2.2.2.2.2.2.1; have x8 := fun y => (K y).2.2.2.2.2.2.2.2.1; have x9 := fun y => (K y).2.2.2.2.2.2.2.2.2
   have y0 := fun y => (K2 y).1; have y1 := fun y => (K2 y).2.1; have y2 := fun y => (K2 y).2.2.1; have y3 := fun y => (K2 y).2.2.2.1; have y4 := fun y => (K2 y).2.2.2.2.1; have y5 := fun y => (K2 y).2.2.2.2.2.1; have y6 := fun y => (K2 y).2.2.2.2.2.2.1; have y7 := fun y => (K2 y).2.2.2.2.2.2.2.1; have y8 := fun y => (K2 y).2.2.2.2.2.2.2.2.1; have y9 := fun y => (K2 y).2.2.2.2.2.2.2.2.2
   have q1 : (0 : Int) ≤ (k : Int) := by omega
   have q2 : (k : Int) < (L.length : Int) := by omega
   have hq := fun W => neqPe_one p W
   clear K K2 hp hx1 hx2 h3 k3
   go_wp2_with fail
   refine wp_region_ext (by kernel_rfl) (by kernel_rfl) ?_
   repeat (go_big_quiet_step (fail))
   refine wpQuiet_nil ?_
   first | (intro _ hw'; obtain ⟨gx, hw''⟩ := hw'; subst hw'') | intro gx
   clear x0 x1 x2 x3 x4 x5 x6 x7 x8 x9 y0 y1 y2 y3 y4 y5 y6 y7 y8 y9 hq
   go_wp2_with fail
   go_roundw
   case rel => exact ⟨k + 1, by omega, by go_num, below2 HB.out (ext_below wr gx)⟩
   case measure => simp [intOf]; omega
  ·obtain rfl : k = L.length := by omega
   have q2 : ¬ ((L.length : Int) < (L.length : Int)) := by omega
   go_wp2_with fail
   go_ret
   exact ⟨rfl, HB.out⟩
def RchW (w : World) (B : Nat) (T : TypeId) (f : List Value → List Value) (t : List Value) : Prop := ∃ arr, BlockIs w B arr T ∧ f arr = t
theorem RchW.get {w : World} {B : Nat} {T : TypeId} {t : List Value} (h : RchW w B T (fun a => a) t) : BlockIs w B t T := by
 obtain ⟨a, h1, rfl⟩ := h; exact h1
theorem reach_at {w : World} {B : Nat} {T : TypeId} {f : List Value → List Value} {t arr : List Value} (h : BlockIs w B arr T) (e : f arr = t) : RchW w B T f t := ⟨arr, h, e⟩
theorem reach_set {w : World} {B i : Nat} {v : Value} {T : TypeId} {f : List Value → List Value} {t : List Value} (h : RchW w B T (fun a => f (a.set i v)) t) : RchW (w.setCell ⟨B, i, none⟩ v) B T f t := by
 obtain ⟨a, h1, h2⟩ := h; exact ⟨_, h1.set i v, h2⟩
theorem reach_other {w : World} {B O i : Nat} {v : Value} {T : TypeId} {f : List Value → List Value} {t : List Value} (hne : O ≠ B) (h : RchW w B T f t) : RchW (w.setCell ⟨O, i, none⟩ v) B T f t := by
 obtain ⟨a, h1, h2⟩ := h; exact ⟨_, h1.other hne v, h2⟩
theorem reach_alloc {w : World} {B : Nat} {o : Obj} {T : TypeId} {f : List Value → List Value} {t : List Value} (h : RchW w B T f t) : RchW (w.alloc o) B T f t := by
 obtain ⟨a, h1, h2⟩ := h; exact ⟨_, h1.alloc' o, h2⟩
theorem reach_drew {w : World} {B : Nat} {T : TypeId} {f : List Value → List Value} {t : List Value} (h : RchW w B T f t) : RchW w.drew B T f t := by
 obtain ⟨a, h1, h2⟩ := h; exact ⟨_, h1.drew', h2⟩
theorem rcx {w w0 : World} {B : Nat} {arr t : List Value} {T : TypeId} (h0 : BlockIs w0 B arr T) (h : BlockIs w0 B arr T → RchW w B T (fun a => a) t := by (intro hq; (repeat (first | with_reducible refine reach_set ?_ | with_reducible refine reach_other (by first | assumption | omega) ?_ | with_reducible refine reach_alloc ?_ | with_reducible refine reach_drew ?_)); exact reach_at hq rfl)) : BlockIs w B t T := RchW.get (h h0)
theorem wpn1 {P : Program} {c : Code} {Q : Exit → Act → World → Prop} {a : Act} {w : World} {c0 : List Value} {T0 : TypeId} (h : ∀ W : World, Below w.heap.size w W → BlockIs W (w.heap.size) c0 T0 → W.heap.size = w.heap.size + 1 → c.wp P Q a W) : c.wp P Q a (w.alloc (.cells c0.toArray T0)) := h _ ((Below.refl _ _).alloc (by simp <;> omega) _) (BlockIs.new _ _ _) (by simp)
theorem wpn2 {P : Program} {c : Code} {Q : Exit → Act → World → Prop} {a : Act} {w : World} {c0 c1 : List Value} {T0 T1 : TypeId} (h : ∀ W : World, Below w.heap.size w W → BlockIs W (w.heap.size) c0 T0 → BlockIs W (w.heap.size + 1) c1 T1 → W.heap.size = w.heap.size + 1 + 1 → c.wp P Q a W) : c.wp P Q a ((w.alloc (.cells c0.toArray T0)).alloc (.cells c1.toArray T1)) := h _ (((Below.refl _ _).alloc (by simp <;> omega) _).alloc (by simp <;> omega) _) ((BlockIs.new _ _ _).alloc' _) (BlockIs.newAt' _ _ _ (by simp)) (by simp)
theorem wpn3 {P : Program} {c : Code} {Q : Exit → Act → World → Prop} {a : Act} {w : World} {c0 c1 c2 : List Value} {T0 T1 T2 : TypeId} (h : ∀ W : World, Below w.heap.size w W → BlockIs W (w.heap.size) c0 T0 → BlockIs W (w.heap.size + 1) c1 T1 → BlockIs W (w.heap.size + 1 + 1) c2 T2 → W.heap.size = w.heap.size + 1 + 1 + 1 → c.wp P Q a W) : c.wp P Q a (((w.alloc (.cells c0.toArray T0)).alloc (.cells c1.toArray T1)).alloc (.cells c2.toArray T2)) := h _ ((((Below.refl _ _).alloc (by simp <;> omega) _).alloc (by simp <;> omega) _).alloc (by simp <;> omega) _) (((BlockIs.new _ _ _).alloc' _).alloc' _) ((BlockIs.newAt' _ _ _ (by simp)).alloc' _) (BlockIs.newAt' _ _ _ (by simp)) (by simp)
theorem wpn4 {P : Program} {c : Code} {Q : Exit → Act → World → Prop} {a : Act} {w : World} {c0 c1 c2 c3 : List Value} {T0 T1 T2 T3 : TypeId} (h : ∀ W : World, Below w.heap.size w W → BlockIs W (w.heap.size) c0 T0 → BlockIs W (w.heap.size + 1) c1 T1 → BlockIs W (w.heap.size + 1 + 1) c2 T2 → BlockIs W (w.heap.size + 1 + 1 + 1) c3 T3 → W.heap.size = w.heap.size + 1 + 1 + 1 + 1 → c.wp P Q a W) : c.wp P Q a ((((w.alloc (.cells c0.toArray T0)).alloc (.cells c1.toArray T1)).alloc (.cells c2.toArray T2)).alloc (.cells c3.toArray T3)) := h _ (((((Below.refl _ _).alloc (by simp <;> omega) _).alloc (by simp <;> omega) _).alloc (by simp <;> omega) _).alloc (by simp <;> omega) _) ((((BlockIs.new _ _ _).alloc' _).alloc' _).alloc' _) (((BlockIs.newAt' _ _ _ (by simp)).alloc' _).alloc' _) ((BlockIs.newAt' _ _ _ (by simp)).alloc' _) (BlockIs.newAt' _ _ _ (by simp)) (by simp)
theorem wpn5 {P : Program} {c : Code} {Q : Exit → Act → World → Prop} {a : Act} {w : World} {c0 c1 c2 c3 c4 : List Value} {T0 T1 T2 T3 T4 : TypeId} (h : ∀ W : World, Below w.heap.size w W → BlockIs W (w.heap.size) c0 T0 → BlockIs W (w.heap.size + 1) c1 T1 → BlockIs W (w.heap.size + 1 + 1) c2 T2 → BlockIs W (w.heap.size + 1 + 1 + 1) c3 T3 → BlockIs W (w.heap.size + 1 + 1 + 1 + 1) c4 T4 → W.heap.size = w.heap.size + 1 + 1 + 1 + 1 + 1 → c.wp P Q a W) : c.wp P Q a (((((w.alloc (.cells c0.toArray T0)).alloc (.cells c1.toArray T1)).alloc (.cells c2.toArray T2)).alloc (.cells c3.toArray T3)).alloc (.cells c4.toArray T4)) := h _ ((((((Below.refl _ _).alloc (by simp <;> omega) _).alloc (by simp <;> omega) _).alloc (by simp <;> omega) _).alloc (by simp <;> omega) _).alloc (by simp <;> omega) _) (((((BlockIs.new _ _ _).alloc' _).alloc' _).alloc' _).alloc' _) ((((BlockIs.newAt' _ _ _ (by simp)).alloc' _).alloc' _).alloc' _) (((BlockIs.newAt' _ _ _ (by simp)).alloc' _).alloc' _) ((BlockIs.newAt' _ _ _ (by simp)).alloc' _) (BlockIs.newAt' _ _ _ (by simp)) (by simp)
/-- what holds of a world and of every world that has grown from it -/
def Grows (K : World → Prop) : Prop := ∀ W W', K W → Below W.heap.size W W' → K W'
/-- P holds wherever w0 holds and w's blocks from B on still lie -/
def Firm (w0 : World → Prop) (B : Nat) (w : World) (P : World → Prop) : Prop := ∀ W, w0 W → (∀ b arr T, B ≤ b → BlockIs w b arr T → BlockIs W b arr T) → P W
theorem Firm.now {w0 : World → Prop} {w : World} {B : Nat} {P : World → Prop} (h : Firm w0 B w P) (hb : w0 w) : P w := h w hb fun _ _ _ _ h => h
theorem Firm.step {w0 : World → Prop} {w w' : World} {B : Nat} {P : World → Prop} (h : Firm w0 B w P) (hb : Below w.heap.size w w') : Firm w0 B w' P := fun W h0 hk => h W h0 fun b arr T h1 h2 => hk b arr T h1 (h2.below hb)
theorem Firm.keep {w0 : World → Prop} {w w' : World} {B : Nat} {P : World → Prop} (h : Firm w0 B w P) (hb : ∀ b arr T, B ≤ b → BlockIs w b arr T → BlockIs w' b arr T) : Firm w0 B w' P := fun W h0 hk => h W h0 fun b arr T h1 h2 => hk b arr T h1 (hb b arr T h1 h2)
theorem Firm.old {w0 : World → Prop} {w : World} {B : Nat} {P : World → Prop} (h : ∀ W, w0 W → P W) : Firm w0 B w P := fun W h0 _ => h W h0
theorem Firm.from {w0 : World → Prop} {w : World} {B B' : Nat} {P : World → Prop} (h : Firm w0 B' w P) (hB : B ≤ B') : Firm w0 B w P := fun W h0 hk => h W h0 fun b arr T h1 h2 => hk b arr T (Nat.le_trans hB h1) h2
theorem Firm.map {w0 : World → Prop} {w : World} {B : Nat} {P Q : World → Prop} (h : Firm w0 B w P) (hq : ∀ W, P W → Q W) : Firm w0 B w Q := fun W h0 hk => hq W (h W h0 hk)
/-- a row that lies in a block of its own, in a world that holds that block still -/
theorem owns_held {w w' : World} {base n size : Nat} {e : TypeId} {v : Value} {xs : List Value} (h : w.ownsRow base e size v n xs) (hk : ∀ g arr, base ≤ g → BlockIs w g arr e → BlockIs w' g arr e) : w'.ownsRow base e size v n xs := by
 refine ⟨h.1, ?_⟩
 rcases h.2 with h2 | ⟨g, cap, cur, rfl, hg, hh, r⟩
 ·exact Or.inl h2
 ·exact Or.inr ⟨g, cap, cur, rfl, hg, hk g _ hg hh, r⟩
theorem Firm.own {w0 : World → Prop} {w : World} {B base n size : Nat} {e : TypeId} {v : Value} {xs : List Value} (h : w.ownsRow base e size v n xs) (hB : B ≤ base) : Firm w0 B w fun W => W.ownsRow base e size v n xs := fun W _ hk => owns_held h fun g arr hg hb => hk g arr e (Nat.le_trans hB hg) hb
end Go.Proofs.YtnplgagaoeckoaaGreat
