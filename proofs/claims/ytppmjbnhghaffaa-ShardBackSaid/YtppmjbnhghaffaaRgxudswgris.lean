/- Texts put together: PlEnd, PlPeer. No condition. -/
import Derived.Test.YtppmjbnhghaffaaRrltbpibzfv
import Derived.Lib.LastIndexByte
import Derived.Lib.Strings
import Derived.Test.YtppmjbnhghaffaaRhtuacnmkql
namespace Go.Proofs.Ytppmjbnhghaffaa
open Go.RowKit

/-! ### reading -/
def boxed (h : List UInt8) : Prop := 2 ≤ h.length ∧ h[0]? = some 91 ∧ h[h.length - 1]? = some 93
instance (h : List UInt8) : Decidable (boxed h) := by unfold boxed; infer_instance
/-! ### right, written -/
def enRight (e : En) : Bool := adRight e.ad && (decide (1 ≤ e.port) && decide (e.port ≤ 65535))
end Go.Proofs.Ytppmjbnhghaffaa
namespace Go.Proofs.Ytppmjbnhghaffaa
open Go.RowKit

structure Pe where
  en : En
  came : Bool
  since : Int
  pts : Int
  at_ : Int
  ping : Int
  work : Int
deriving DecidableEq
instance : Inhabited Pe := ⟨⟨⟨⟨false, 0, 0⟩, 0⟩, false, 0, 0, 0, 0, 0⟩⟩
def withinB (n most : Int) : Bool := decide (0 ≤ n) && decide (n ≤ most)
def peRight (p : Pe) : Bool := enRight p.en && (withinB p.since 1099511627776 && (withinB p.at_ 1099511627776 && (withinB p.work 1099511627776 && (withinB p.pts 1099511627776 && withinB p.ping 1048576))))
def Pe.fits (p : Pe) : Prop := (p.en.ad.fits ∧ -9223372036854775808 ≤ p.en.port ∧ p.en.port ≤ 9223372036854775807) ∧ (-9223372036854775808 ≤ p.since ∧ p.since ≤ 9223372036854775807) ∧ (-9223372036854775808 ≤ p.pts ∧ p.pts ≤ 9223372036854775807) ∧ (-9223372036854775808 ≤ p.at_ ∧ p.at_ ≤ 9223372036854775807) ∧ (-9223372036854775808 ≤ p.ping ∧ p.ping ≤ 9223372036854775807) ∧ (-9223372036854775808 ≤ p.work ∧ p.work ≤ 9223372036854775807)
theorem Pe.ext' {a b : Pe} (h1 : a.en = b.en) (h2 : a.came = b.came) (h3 : a.since = b.since) (h4 : a.pts = b.pts) (h5 : a.at_ = b.at_) (h6 : a.ping = b.ping) (h7 : a.work = b.work) : a = b := by cases a; cases b; simp_all
end Go.Proofs.Ytppmjbnhghaffaa
