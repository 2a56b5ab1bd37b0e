/- Texts put together: Map, Crowd, LawCrowd. No condition. -/
import Derived.Test.YtnplgagaoeckoaaGreatRhswffbbxtu
import Derived.Maps.Own
import Derived.Maps.Views
import Derived.WideKeyEntry
import Derived.DeepKeys4
import Derived.Test.YtnplgagaoeckoaaGreatRcwqyjfsjeh
import Derived.Test.YtnplgagaoeckoaaGreatRsemyekvhto
import Derived.Test.YtnplgagaoeckoaaGreatRshgxludich
import Derived.Test.YtnplgagaoeckoaaGreatRqjngbjfvuz
import Derived.Test.YtnplgagaoeckoaaGreatRrloyafqzcj
import Derived.Carry
set_option linter.unusedSimpArgs false
set_option linter.unusedVariables false
namespace Go.Proofs.YtnplgagaoeckoaaGreat
open Go.ChangeMaps Go.MapKept
open Go.WideElems (Fit rd rg pl rd_key other_key findIdx_arr findIdx_born modify_last set_self)
open Go.Maps (Keyed)
section
variable {P : Program} {k e t : TypeId} {b : Nat}
/-- so many of each key -/
def CM (P : Program) (k e : TypeId) (es : Array MapEntry) (clock n : Nat) (g : Lit → Int) : Prop :=
 Fit P k (plainElem (H := Unit) P e) es clock ∧ es.size ≤ n ∧ ∀ (key : Value) (kl : Lit), keyOf P k key = some kl → (DataW.map ((es.toList.map (rg P k (plainElem (H := Unit) P e))).foldr DataW.insert [])).atKey kl (.lit (.int .i64 0)) = .lit (.int .i64 (g kl))
end
end Go.Proofs.YtnplgagaoeckoaaGreat
namespace Go.Proofs.YtnplgagaoeckoaaGreat
open Go.RowKit
def klN (e : Nt) : Lit := .string (keyBytes [.bool e.ad.v6, .int .u64 e.ad.hi, .int .u64 e.ad.lo, .int .i64 e.bits])
def grP (p : Pe) : Nt := grOf p.en.ad
open Classical in
noncomputable def gL (l : List Pe) (x : Lit) : Int := ((l.filter fun p => decide (klN (grP p) = x)).length : Nat)
/-- what a callee that counts gives -/
def Counts (w : World) (M : Nat) (l : List Pe) : Prop := ∃ es clock n, w.heap[M]? = some (.map es clock) ∧ CM Tryz.prog 82 3 es clock n (gL l)
theorem Counts.lt {w : World} {M : Nat} {l : List Pe} (h : Counts w M l) : M < w.heap.size := by
 obtain ⟨es, clock, n, hb, _⟩ := h
 exact (Array.getElem?_eq_some_iff.1 hb).1
theorem Counts.below {w w' : World} {M : Nat} {l : List Pe} (h : Counts w M l) (hb : Below w.heap.size w w') : Counts w' M l := by
 have hlt := h.lt
 obtain ⟨es, clock, n, hh, hc⟩ := h
 exact ⟨es, clock, n, (hb.block M hlt).trans hh, hc⟩

theorem eqlPe_one (a : Pe) (W : World) : (binOp .eql 52 (.agg #[.bool a.en.ad.v6, .int .u64 a.en.ad.hi, .int .u64 a.en.ad.lo, .int .i64 a.en.port, .bool a.came, .int .i64 a.since, .int .i64 a.pts, .int .i64 a.at_, .int .i64 a.ping, .int .i64 a.work]) (.agg #[.bool a.en.ad.v6, .int .u64 a.en.ad.hi, .int .u64 a.en.ad.lo, .int .i64 a.en.port, .bool a.came, .int .i64 a.since, .int .i64 a.pts, .int .i64 a.at_, .int .i64 a.ping, .int .i64 a.work])).run Tryz.prog W = .ok (.bool true) W := by
 go_simp
theorem reads_blkC {α : Type} {f : α → List Value} {n : Nat} {w : World} {B : Nat} {T : TypeId} {l : List α} (hB : BlockIs w B (l.flatMap f) T) (hl : 0 < l.length) (hm : l.length ≤ 9223372036854775807) (hn : (l.flatMap f).length = l.length * n) : ReadsL f n w (.slice (some ⟨B, 0, none⟩) l.length l.length) l :=
 ⟨hn, hm, Or.inr ⟨hl, B, 0, l.length, rfl, Nat.le_refl _, hB.lt, fun j x hj => by rw [Nat.zero_add]; exact hB.cell hj⟩⟩
end Go.Proofs.YtnplgagaoeckoaaGreat
