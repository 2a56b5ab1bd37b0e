/- Texts put together: PlEnd, PlPeer, PlReply, PlBan, PlOp. No condition. -/
import Derived.Test.YtnplgagaoeckoaaGreatRxxptjctlof
import Derived.Lib.LastIndexByte
import Derived.Lib.Strings
import Derived.Test.YtnplgagaoeckoaaGreatRhswffbbxtu
set_option linter.unusedSimpArgs false
set_option linter.unusedVariables false
namespace Go.Proofs.YtnplgagaoeckoaaGreat
open Go.RowKit
/-! ### reading -/
def boxed (h : List UInt8) : Prop := 2 ≤ h.length ∧ h[0]? = some 91 ∧ h[h.length - 1]? = some 93
instance (h : List UInt8) : Decidable (boxed h) := by unfold boxed; infer_instance
/-! ### right, written -/
structure Pe where
 en : En
 came : Bool
 since : Int
 pts : Int
 at_ : Int
 ping : Int
 work : Int
deriving DecidableEq
instance : Inhabited Pe := ⟨⟨⟨⟨false, 0, 0⟩, 0⟩, false, 0, 0, 0, 0, 0⟩⟩
def Pe.fits (p : Pe) : Prop := (p.en.ad.fits ∧ -9223372036854775808 ≤ p.en.port ∧ p.en.port ≤ 9223372036854775807) ∧ (-9223372036854775808 ≤ p.since ∧ p.since ≤ 9223372036854775807) ∧ (-9223372036854775808 ≤ p.pts ∧ p.pts ≤ 9223372036854775807) ∧ (-9223372036854775808 ≤ p.at_ ∧ p.at_ ≤ 9223372036854775807) ∧ (-9223372036854775808 ≤ p.ping ∧ p.ping ≤ 9223372036854775807) ∧ (-9223372036854775808 ≤ p.work ∧ p.work ≤ 9223372036854775807)
theorem Pe.ext' {a b : Pe} (h1 : a.en = b.en) (h2 : a.came = b.came) (h3 : a.since = b.since) (h4 : a.pts = b.pts) (h5 : a.at_ = b.at_) (h6 : a.ping = b.ping) (h7 : a.work = b.work) : a = b := by cases a; cases b; simp_all
def zeroEn : En := ⟨⟨false, 0, 0⟩, 0⟩
def i64 (n : Int) : Prop := -9223372036854775808 ≤ n ∧ n ≤ 9223372036854775807
/-! ### two replies with one line -/
def pick (b : UInt8) (L : List (List UInt8)) : List (List UInt8) := L.filter fun x => decide (x[0]? = some b)
structure Ba where
 nt : Nt
 till : Int
deriving DecidableEq
instance : Inhabited Ba := ⟨⟨⟨⟨false, 0, 0⟩, 0⟩, 0⟩⟩
theorem Ba.ext' {a b : Ba} (h1 : a.nt = b.nt) (h2 : a.till = b.till) : a = b := by cases a; cases b; simp_all
/-- an entry of the book -/
structure Ey where
 en : En
 state : Int
 fails : Int
 next : Int
deriving DecidableEq
/-- an operation; its slices are values, told by lists -/
structure Oq where
 kind : Int
 lock : Int
 lk : Int
 ls : Int
 lt : Int
 old : Int
 new : Int
 vn : Int
 pe : Pe
 bans : Go.Value × List Ba
 book : Go.Value × List Ey
 mark : Bool
def zeroPe : Pe := ⟨zeroEn, false, 0, 0, 0, 0, 0⟩
def plOk (k s t n : Int) : Bool := decide (1 ≤ n ∧ n ≤ 8 ∧ 1 ≤ k ∧ k ≤ 6 ∧ (k < 5 ∨ 0 ≤ s ∧ s < n) ∧ (k < 6 ∨ 0 ≤ t))
def opRight (o : Oq) (n : Int) : Bool :=
 decide (1 ≤ n ∧ n ≤ 8) && (
  if o.kind = 1 ∨ o.kind = 3 then decide (0 ≤ o.lock ∧ o.lock ≤ n + 1)
  else if o.kind = 2 ∨ o.kind = 4 then decide (o.lock = 0)
  else if o.kind = 5 then plOk o.lk o.ls o.lt n
  else if o.kind = 6 then plOk o.lk o.ls o.lt n && decide (2 < o.lk)
  else if o.kind = 7 then decide (o.lk = 1 ∨ o.lk = 2)
  else decide (o.kind = 8))
end Go.Proofs.YtnplgagaoeckoaaGreat
