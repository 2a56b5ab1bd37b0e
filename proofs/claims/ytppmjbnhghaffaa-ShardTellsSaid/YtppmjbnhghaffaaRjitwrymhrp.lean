/- Texts put together: RankD, RankF, Shield, ShieldC, Map, Crowd, LawCrowd, EvictB. No condition. -/
import Derived.Test.YtppmjbnhghaffaaRkeuztfgnol
import Derived.Test.YtppmjbnhghaffaaRiwvlkgqjfj
import Derived.Test.YtppmjbnhghaffaaRpyeqxotouj
import Derived.Test.YtppmjbnhghaffaaRhjbbgjhkvr
import Derived.Test.YtppmjbnhghaffaaRmcavooviyn
import Derived.Test.YtppmjbnhghaffaaRzgjsloivew
import Derived.Test.YtppmjbnhghaffaaRucrranjrxo
import Derived.Test.YtppmjbnhghaffaaRzzzehfclpq
import Derived.Test.YtppmjbnhghaffaaRows
import Derived.WalkKit
import Derived.WalkSpells
import Derived.WalkLawsBesides
import Derived.StillTail
import Derived.Test.YtppmjbnhghaffaaRlradtnfsql
import Derived.Test.YtppmjbnhghaffaaRhtuacnmkql
import Derived.Maps.Own
import Derived.Maps.Views
import Derived.WideKeyEntry
import Derived.DeepKeys4
import Derived.Carry
namespace Go.Proofs.Ytppmjbnhghaffaa
open Go.RowKit

def natV (i : Nat) : Value := .int .i64 (i : Int)
theorem wo_of {α : Type} {c : α → α → Int} (C : Cmp c) : WO fun a b => decide (c a b < 0) := by
  constructor
  · intro a b d h1 h2
    have h1 : c a b < 0 := by simpa using h1
    have h2 : c b d < 0 := by simpa using h2
    exact decide_eq_true (C.le_eq h1 (show c b d ≤ 0 by omega))
  · intro a b d h1 h2
    have h1 : ¬ c a b < 0 := by simpa using h1
    have h2 : ¬ c b d < 0 := by simpa using h2
    have := C.trans d b a (by rw [C.neg b d]; omega) (by rw [C.neg a b]; omega)
    exact decide_eq_false (by rw [C.neg d a]; omega)
  · intro a b h1
    have h1 : c a b < 0 := by simpa using h1
    exact decide_eq_false (by rw [C.neg a b]; omega)
end Go.Proofs.Ytppmjbnhghaffaa
namespace Go.Proofs.Ytppmjbnhghaffaa
open Go.RowKit
set_option linter.unusedSimpArgs false
set_option linter.unusedVariables false

theorem blk_grown {w w' : World} {U : Nat} {us : List Value} {T : TypeId} {o : Option Nat} (h : BlockIs w U us T) (hg : w.grownBy w' o) (ho : o ≠ some U) : BlockIs w' U us T := by
  unfold BlockIs at *
  rw [hg.block U (BlockIs.lt (show BlockIs w U us T from h)) (fun e => ho e.symm)]; exact h
theorem natV_one (x : Nat) : ∀ u ∈ [natV x], u.oneCell' = true := by intro u hu; rw [List.mem_singleton.1 hu]; rfl
end Go.Proofs.Ytppmjbnhghaffaa
namespace Go.Proofs.Ytppmjbnhghaffaa
open Go.RowKit
set_option linter.unusedSimpArgs false
set_option linter.unusedVariables false

structure Qu where
  group : Int
  ping : Int
  work : Int
  time : Int
end Go.Proofs.Ytppmjbnhghaffaa
namespace Go.Proofs.Ytppmjbnhghaffaa
open Go.RowKit
set_option linter.unusedSimpArgs false
set_option linter.unusedVariables false

def Qu.fits (q : Qu) : Prop := (-9223372036854775808 ≤ q.group ∧ q.group ≤ 9223372036854775807) ∧ (-9223372036854775808 ≤ q.ping ∧ q.ping ≤ 9223372036854775807) ∧ (-9223372036854775808 ≤ q.work ∧ q.work ≤ 9223372036854775807) ∧ (-9223372036854775808 ≤ q.time ∧ q.time ≤ 9223372036854775807)
theorem owns_setB {w : World} {base n U i : Nat} {e : TypeId} {size : Nat} {v x : Value} {xs us : List Value} {T : TypeId} (h : w.ownsRow base e size v n xs) (hb : BlockIs w U us T) (hne : v.ownBlock ≠ some U) : (w.setCell ⟨U, i, none⟩ x).ownsRow base e size v n xs := by
  obtain ⟨h1, h2⟩ := h
  refine ⟨h1, ?_⟩
  rcases h2 with h2 | ⟨g, cap, cur, rfl, hg, hh, r⟩
  · exact Or.inl h2
  · refine Or.inr ⟨g, cap, cur, rfl, hg, ?_, r⟩
    have hgu : g ≠ U := fun e => hne (by rw [e]; rfl)
    rw [← hh]; exact Below.heap_setCell _ _ _ _ (fun e => hgu e)
end Go.Proofs.Ytppmjbnhghaffaa
namespace Go.Proofs.Ytppmjbnhghaffaa
open Go.ChangeMaps Go.MapKept
open Go.WideElems (Fit rd rg pl rd_key other_key findIdx_arr findIdx_born modify_last set_self)
open Go.Maps (Keyed)

section
variable {P : Program} {k e t : TypeId} {b : Nat}
/-- so many of each key -/
def CM (P : Program) (k e : TypeId) (es : Array MapEntry) (clock n : Nat) (g : Lit → Int) : Prop :=
  Fit P k (plainElem (H := Unit) P e) es clock ∧ es.size ≤ n ∧ ∀ (key : Value) (kl : Lit), keyOf P k key = some kl → (DataW.map ((es.toList.map (rg P k (plainElem (H := Unit) P e))).foldr DataW.insert [])).atKey kl (.lit (.int .i64 0)) = .lit (.int .i64 (g kl))
end
end Go.Proofs.Ytppmjbnhghaffaa
namespace Go.Proofs.Ytppmjbnhghaffaa
open Go.RowKit

def klN (e : Nt) : Lit := .string (keyBytes [.bool e.ad.v6, .int .u64 e.ad.hi, .int .u64 e.ad.lo, .int .i64 e.bits])
def grP (p : Pe) : Nt := grOf p.en.ad
open Classical in
noncomputable def gL (l : List Pe) (x : Lit) : Int := ((l.filter fun p => decide (klN (grP p) = x)).length : Nat)
/-- what a callee that counts gives -/
def Counts (w : World) (M : Nat) (l : List Pe) : Prop := ∃ es clock n, w.heap[M]? = some (.map es clock) ∧ CM Try.prog 92 3 es clock n (gL l)
theorem Counts.lt {w : World} {M : Nat} {l : List Pe} (h : Counts w M l) : M < w.heap.size := by
  obtain ⟨es, clock, n, hb, _⟩ := h
  exact (Array.getElem?_eq_some_iff.1 hb).1
theorem Counts.below {w w' : World} {M : Nat} {l : List Pe} (h : Counts w M l) (hb : Below w.heap.size w w') : Counts w' M l := by
  have hlt := h.lt
  obtain ⟨es, clock, n, hh, hc⟩ := h
  exact ⟨es, clock, n, (hb.block M hlt).trans hh, hc⟩
end Go.Proofs.Ytppmjbnhghaffaa
namespace Go.Proofs.Ytppmjbnhghaffaa
open Go.RowKit
set_option linter.unusedSimpArgs false
set_option linter.unusedVariables false

theorem reads_blkC {α : Type} {f : α → List Value} {n : Nat} {w : World} {B : Nat} {T : TypeId} {l : List α} (hB : BlockIs w B (l.flatMap f) T) (hl : 0 < l.length) (hm : l.length ≤ 9223372036854775807) (hn : (l.flatMap f).length = l.length * n) : ReadsL f n w (.slice (some ⟨B, 0, none⟩) l.length l.length) l :=
  ⟨hn, hm, Or.inr ⟨hl, B, 0, l.length, rfl, Nat.le_refl _, hB.lt, fun j x hj => by rw [Nat.zero_add]; exact hB.cell hj⟩⟩
end Go.Proofs.Ytppmjbnhghaffaa
namespace Go.Proofs.Ytppmjbnhghaffaa
open Go.RowKit
set_option linter.unusedSimpArgs false
set_option linter.unusedVariables false

set_option maxRecDepth 100000 in
set_option maxHeartbeats 8000000 in
theorem peers_same (v u : Value) (L : List Pe) (w : World) (hv : ReadsL peV 10 w v L) (hu : ReadsL peV 10 w u L) :
    Calls Try.prog 44 #[v, u] w fun e w' => e = .returned (.bool true) ∧ Below w.heap.size w w' := by
  obtain ⟨hm, p, c, rfl, h3⟩ := pes_open hv
  obtain ⟨hm1, p1, c1, rfl, k3⟩ := pes_open hu
  clear hv hu
  go_enter Try.func44, Try.ntmps44
  go_wp2_with fail
  go_loopw [5] (fun i' wr => ∃ k : Nat, k ≤ L.length ∧ i' = .int .i64 k ∧ Hid (Below w.heap.size w wr)) (fun i' _ => L.length - (intOf i').toNat)
  case atStart => exact ⟨0, by omega, rfl, Below.refl _ _⟩
  case round =>
    obtain ⟨k, hk, rfl, HB⟩ := hrel
    by_cases hlt : k < L.length
    · obtain ⟨p, hp⟩ : ∃ p, L[k]? = some p := ⟨_, List.getElem?_eq_getElem hlt⟩
      obtain ⟨b1, o1, rfl, hc1, hb1, hx1⟩ := h3 (by omega)
      obtain ⟨b2, o2, rfl, hc2, hb2, hx2⟩ := k3 (by omega)
      have K := ((hx1 k p hp).below HB.out hb1).ext (Nat.lt_of_lt_of_le hb1 HB.out.size)
      have K2 := ((hx2 k p hp).below HB.out hb2).ext (Nat.lt_of_lt_of_le hb2 HB.out.size)
      have x0 := fun y => (K y).1; have x1 := fun y => (K y).2.1; have x2 := fun y => (K y).2.2.1; have x3 := fun y => (K y).2.2.2.1; have x4 := fun y => (K y).2.2.2.2.1; have x5 := fun y => (K y).2.2.2.2.2.1; have x6 := fun y => (K y).2.2.2.2.2.2.1; have x7 := fun y => (K y).2.2.2.2.2.2.2.1; have x8 := fun y => (K y).2.2.2.2.2.2.2.2.1; have x9 := fun y => (K y).2.2.2.2.2.2.2.2.2
      have y0 := fun y => (K2 y).1; have y1 := fun y => (K2 y).2.1; have y2 := fun y => (K2 y).2.2.1; have y3 := fun y => (K2 y).2.2.2.1; have y4 := fun y => (K2 y).2.2.2.2.1; have y5 := fun y => (K2 y).2.2.2.2.2.1; have y6 := fun y => (K2 y).2.2.2.2.2.2.1; have y7 := fun y => (K2 y).2.2.2.2.2.2.2.1; have y8 := fun y => (K2 y).2.2.2.2.2.2.2.2.1; have y9 := fun y => (K2 y).2.2.2.2.2.2.2.2.2
      have q1 : (0 : Int) ≤ (k : Int) := by omega
      have q2 : (k : Int) < (L.length : Int) := by omega
      have hq := fun W => neqPe_one p W
      clear K K2 hp hx1 hx2 h3 k3
      go_wp2_with fail
      refine wp_region_ext (by kernel_rfl) (by kernel_rfl) ?_
      repeat (go_big_quiet_step (fail))
      refine wpQuiet_nil ?_
      first | (intro _ hw'; obtain ⟨gx, hw''⟩ := hw'; subst hw'') | intro gx
      clear x0 x1 x2 x3 x4 x5 x6 x7 x8 x9 y0 y1 y2 y3 y4 y5 y6 y7 y8 y9 hq
      go_wp2_with fail
      go_roundw
      case rel => exact ⟨k + 1, by omega, by go_num, below2 HB.out (ext_below wr gx)⟩
      case measure => simp [intOf]; omega
    · obtain rfl : k = L.length := by omega
      have q2 : ¬ ((L.length : Int) < (L.length : Int)) := by omega
      go_wp2_with fail
      go_ret
      exact ⟨rfl, HB.out⟩
end Go.Proofs.Ytppmjbnhghaffaa
