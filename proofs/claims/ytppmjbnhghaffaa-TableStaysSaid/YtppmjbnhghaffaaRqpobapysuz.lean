/- Texts put together: RankD, Shield, ShieldC, Map, Crowd. No condition. -/
import Derived.Test.YtppmjbnhghaffaaRodaxvxzykb
import Derived.Test.YtppmjbnhghaffaaRjxylkaeqpy
import Derived.Test.YtppmjbnhghaffaaRmpqcngfbip
import Derived.Test.YtppmjbnhghaffaaRzrtjsefiug
import Derived.Test.YtppmjbnhghaffaaRjfnjsvqfsd
import Derived.Test.YtppmjbnhghaffaaRwknoptlhbk
import Derived.Test.YtppmjbnhghaffaaRrncnnvzmkh
import Derived.Test.YtppmjbnhghaffaaRryvnffptad
import Derived.Test.YtppmjbnhghaffaaRows
import Derived.WalkKit
import Derived.WalkSpells
import Derived.WalkLawsBesides
import Derived.Deep.Light
import Derived.Lib.Hide
import Derived.StillTail
import Derived.Test.YtppmjbnhghaffaaRnhmkjtgjxl
import Derived.Maps.Own
import Derived.Maps.Views
import Derived.WideKeyEntry
import Derived.DeepKeys4
import Derived.Test.YtppmjbnhghaffaaRvqupnkulsf
import Derived.Carry
namespace Go.Proofs.Ytppmjbnhghaffaa
open Go.RowKit

theorem wo_of {α : Type} {c : α → α → Int} (C : Cmp c) : WO fun a b => decide (c a b < 0) := by
  constructor
  · intro a b d h1 h2
    have h1 : c a b < 0 := by simpa using h1
    have h2 : c b d < 0 := by simpa using h2
    exact decide_eq_true (C.le_eq h1 (show c b d ≤ 0 by omega))
  · intro a b d h1 h2
    have h1 : ¬ c a b < 0 := by simpa using h1
    have h2 : ¬ c b d < 0 := by simpa using h2
    have := C.trans d b a (by rw [C.neg b d]; omega) (by rw [C.neg a b]; omega)
    exact decide_eq_false (by rw [C.neg d a]; omega)
  · intro a b h1
    have h1 : c a b < 0 := by simpa using h1
    exact decide_eq_false (by rw [C.neg a b]; omega)
end Go.Proofs.Ytppmjbnhghaffaa
namespace Go.Proofs.Ytppmjbnhghaffaa
open Go.RowKit
set_option linter.unusedSimpArgs false
set_option linter.unusedVariables false

structure Qu where
  group : Int
  ping : Int
  work : Int
  time : Int
end Go.Proofs.Ytppmjbnhghaffaa
namespace Go.Proofs.Ytppmjbnhghaffaa
open Go.RowKit
set_option linter.unusedSimpArgs false
set_option linter.unusedVariables false

def Qu.fits (q : Qu) : Prop := (-9223372036854775808 ≤ q.group ∧ q.group ≤ 9223372036854775807) ∧ (-9223372036854775808 ≤ q.ping ∧ q.ping ≤ 9223372036854775807) ∧ (-9223372036854775808 ≤ q.work ∧ q.work ≤ 9223372036854775807) ∧ (-9223372036854775808 ≤ q.time ∧ q.time ≤ 9223372036854775807)
end Go.Proofs.Ytppmjbnhghaffaa
namespace Go.Proofs.Ytppmjbnhghaffaa
open Go.ChangeMaps Go.MapKept
open Go.WideElems (Fit rd rg pl rd_key other_key findIdx_arr findIdx_born modify_last set_self)
open Go.Maps (Keyed)

section
variable {P : Program} {k e t : TypeId} {b : Nat}
/-- so many of each key -/
def CM (P : Program) (k e : TypeId) (es : Array MapEntry) (clock n : Nat) (g : Lit → Int) : Prop :=
  Fit P k (plainElem (H := Unit) P e) es clock ∧ es.size ≤ n ∧ ∀ (key : Value) (kl : Lit), keyOf P k key = some kl → (DataW.map ((es.toList.map (rg P k (plainElem (H := Unit) P e))).foldr DataW.insert [])).atKey kl (.lit (.int .i64 0)) = .lit (.int .i64 (g kl))
end
end Go.Proofs.Ytppmjbnhghaffaa
namespace Go.Proofs.Ytppmjbnhghaffaa
open Go.RowKit

def klN (e : Nt) : Lit := .string (keyBytes [.bool e.ad.v6, .int .u64 e.ad.hi, .int .u64 e.ad.lo, .int .i64 e.bits])
def grP (p : Pe) : Nt := grOf p.en.ad
open Classical in
noncomputable def gL (l : List Pe) (x : Lit) : Int := ((l.filter fun p => decide (klN (grP p) = x)).length : Nat)
/-- what a callee that counts gives -/
def Counts (w : World) (M : Nat) (l : List Pe) : Prop := ∃ es clock n, w.heap[M]? = some (.map es clock) ∧ CM Try.prog 92 3 es clock n (gL l)
theorem Counts.lt {w : World} {M : Nat} {l : List Pe} (h : Counts w M l) : M < w.heap.size := by
  obtain ⟨es, clock, n, hb, _⟩ := h
  exact (Array.getElem?_eq_some_iff.1 hb).1
theorem Counts.below {w w' : World} {M : Nat} {l : List Pe} (h : Counts w M l) (hb : Below w.heap.size w w') : Counts w' M l := by
  have hlt := h.lt
  obtain ⟨es, clock, n, hh, hc⟩ := h
  exact ⟨es, clock, n, (hb.block M hlt).trans hh, hc⟩
end Go.Proofs.Ytppmjbnhghaffaa
