/- Texts put together: PlEnd, PlPeer, PlReply, PlBan, PlOp, PlConf. No condition. -/
import Derived.Test.YtnplgagaoeckoaaGreatRucauhavwgz
import Derived.Lib.LastIndexByte
import Derived.Lib.Strings
import Derived.Test.YtnplgagaoeckoaaGreatRfwnkgoffnn
import Derived.Test.YtnplgagaoeckoaaGreatRqhixicnkoi
namespace Go.Proofs.YtnplgagaoeckoaaGreat
open Go.RowKit

/-! ### reading -/
def boxed (h : List UInt8) : Prop := 2 ≤ h.length ∧ h[0]? = some 91 ∧ h[h.length - 1]? = some 93
instance (h : List UInt8) : Decidable (boxed h) := by unfold boxed; infer_instance
/-! ### right, written -/
def enRight (e : En) : Bool := adRight e.ad && (decide (1 ≤ e.port) && decide (e.port ≤ 65535))
end Go.Proofs.YtnplgagaoeckoaaGreat
namespace Go.Proofs.YtnplgagaoeckoaaGreat
open Go.RowKit

structure Pe where
  en : En
  came : Bool
  since : Int
  pts : Int
  at_ : Int
  ping : Int
  work : Int
deriving DecidableEq
instance : Inhabited Pe := ⟨⟨⟨⟨false, 0, 0⟩, 0⟩, false, 0, 0, 0, 0, 0⟩⟩
def withinB (n most : Int) : Bool := decide (0 ≤ n) && decide (n ≤ most)
def peRight (p : Pe) : Bool := enRight p.en && (withinB p.since 1099511627776 && (withinB p.at_ 1099511627776 && (withinB p.work 1099511627776 && (withinB p.pts 1099511627776 && withinB p.ping 1048576))))
def Pe.fits (p : Pe) : Prop := (p.en.ad.fits ∧ -9223372036854775808 ≤ p.en.port ∧ p.en.port ≤ 9223372036854775807) ∧ (-9223372036854775808 ≤ p.since ∧ p.since ≤ 9223372036854775807) ∧ (-9223372036854775808 ≤ p.pts ∧ p.pts ≤ 9223372036854775807) ∧ (-9223372036854775808 ≤ p.at_ ∧ p.at_ ≤ 9223372036854775807) ∧ (-9223372036854775808 ≤ p.ping ∧ p.ping ≤ 9223372036854775807) ∧ (-9223372036854775808 ≤ p.work ∧ p.work ≤ 9223372036854775807)
theorem Pe.ext' {a b : Pe} (h1 : a.en = b.en) (h2 : a.came = b.came) (h3 : a.since = b.since) (h4 : a.pts = b.pts) (h5 : a.at_ = b.at_) (h6 : a.ping = b.ping) (h7 : a.work = b.work) : a = b := by cases a; cases b; simp_all
end Go.Proofs.YtnplgagaoeckoaaGreat
namespace Go.Proofs.YtnplgagaoeckoaaGreat
open Go.RowKit

def zeroEn : En := ⟨⟨false, 0, 0⟩, 0⟩
def i64 (n : Int) : Prop := -9223372036854775808 ≤ n ∧ n ≤ 9223372036854775807
/-! ### two replies with one line -/
def pick (b : UInt8) (L : List (List UInt8)) : List (List UInt8) := L.filter fun x => decide (x[0]? = some b)
end Go.Proofs.YtnplgagaoeckoaaGreat
namespace Go.Proofs.YtnplgagaoeckoaaGreat
open Go.RowKit

structure Ba where
  nt : Nt
  till : Int
deriving DecidableEq
instance : Inhabited Ba := ⟨⟨⟨⟨false, 0, 0⟩, 0⟩, 0⟩⟩
theorem Ba.ext' {a b : Ba} (h1 : a.nt = b.nt) (h2 : a.till = b.till) : a = b := by cases a; cases b; simp_all
def baRight (b : Ba) : Bool := ntRight b.nt && (decide (1 ≤ b.till) && decide (b.till ≤ 1099511627776))
end Go.Proofs.YtnplgagaoeckoaaGreat
namespace Go.Proofs.YtnplgagaoeckoaaGreat
open Go.RowKit

/-- an entry of the book -/
structure Ey where
  en : En
  state : Int
  fails : Int
  next : Int
deriving DecidableEq
/-- an operation; its slices are values, told by lists -/
structure Oq where
  kind : Int
  lock : Int
  lk : Int
  ls : Int
  lt : Int
  old : Int
  new : Int
  vn : Int
  pe : Pe
  bans : Go.Value × List Ba
  book : Go.Value × List Ey
  mark : Bool
def zeroPe : Pe := ⟨zeroEn, false, 0, 0, 0, 0, 0⟩
def plOk (k s t n : Int) : Bool := decide (1 ≤ n ∧ n ≤ 8 ∧ 1 ≤ k ∧ k ≤ 6 ∧ (k < 5 ∨ 0 ≤ s ∧ s < n) ∧ (k < 6 ∨ 0 ≤ t))
def opRight (o : Oq) (n : Int) : Bool :=
  decide (1 ≤ n ∧ n ≤ 8) && (
    if o.kind = 1 ∨ o.kind = 3 then decide (0 ≤ o.lock ∧ o.lock ≤ n + 1)
    else if o.kind = 2 ∨ o.kind = 4 then decide (o.lock = 0)
    else if o.kind = 5 then plOk o.lk o.ls o.lt n
    else if o.kind = 6 then plOk o.lk o.ls o.lt n && decide (2 < o.lk)
    else if o.kind = 7 then decide (o.lk = 1 ∨ o.lk = 2)
    else decide (o.kind = 8))
end Go.Proofs.YtnplgagaoeckoaaGreat
namespace Go.Proofs.YtnplgagaoeckoaaGreat
open Go.RowKit

structure Cf where
  mi : Int
  mo : Int
  sh : Int
  mb : Int
  mbk : Int
  secret : Nat
  qg : Int
  qp : Int
  qw : Int
  qt : Int
  half : Int
  limit : Int
  banfor : Int
  base : Int
  cap : Int
  jitter : Int
deriving DecidableEq
def plainCf : Cf := ⟨8, 4, 4, 64, 64, 1, 1, 1, 1, 1, 100, 100, 1000, 2, 64, 4⟩
def cfRight (c : Cf) : Bool := decide (c.secret ≤ 9223372036854775807) && (decide (0 ≤ c.mi ∧ c.mi ≤ 65535) && (decide (0 ≤ c.mo ∧ c.mo ≤ 65535) && (decide (1 ≤ c.sh ∧ c.sh ≤ 8) && (decide (0 ≤ c.mb ∧ c.mb ≤ 1024) && (decide (0 ≤ c.mbk ∧ c.mbk ≤ 1024) &&
  (decide (0 ≤ c.qg ∧ c.qg ≤ 64) && (decide (0 ≤ c.qp ∧ c.qp ≤ 64) && (decide (0 ≤ c.qw ∧ c.qw ≤ 64) && (decide (0 ≤ c.qt ∧ c.qt ≤ 64) && (decide (1 ≤ c.half ∧ c.half ≤ 1073741824) && (decide (1 ≤ c.limit ∧ c.limit ≤ 10000) &&
  (decide (1 ≤ c.banfor ∧ c.banfor ≤ 1073741824) && (decide (1 ≤ c.base ∧ c.base ≤ 1073741824) && (decide (c.base ≤ c.cap ∧ c.cap ≤ 1073741824) && decide (0 ≤ c.jitter ∧ c.jitter ≤ 1073741824)))))))))))))))
/-- the number of a row, if the line is one -/
def rdRow (w l : List UInt8) : Option Int :=
  if w ++ [32] <+: l then (let r := decParse (l.drop (w.length + 1)) 9223372036854775807; if r.2 = true then some r.1 else none) else none
/-- what was read so far: place after place -/
def RdTo (ws ls : List (List UInt8)) (xs : List Int) : Prop := xs.length ≤ ws.length ∧ xs.length ≤ ls.length ∧ ∀ i, i < xs.length → ∃ w l x, ws[i]? = some w ∧ ls[i]? = some l ∧ xs[i]? = some x ∧ rdRow w l = some x
theorem RdTo.nil (ws ls : List (List UInt8)) : RdTo ws ls [] := ⟨by simp, by simp, fun i h => by simp at h⟩
end Go.Proofs.YtnplgagaoeckoaaGreat
