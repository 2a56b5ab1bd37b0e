/- How an argument that is a reply is opened. No condition. -/
import Derived.Test.YtnohkfbapibmdaaQ3316e9pyruuh
import Derived.Test.YtnohkfbapibmdaaQ88427arqrptu
import Derived.Test.YtnohkfbapibmdaaQc03ddbjgfcrr
namespace Go.Proofs.Ytnohkfbapibmdaa
open Go.ChangeShapes Go.WideShapes Go.ChangeAt Go.RowKit Go.Deep
structure Rp where
  code : Int
  en : En
  n : Int
  till : Int
  pv : Value
  ps : List Pe
def rpV (r : Rp) : List Value := [.int .i64 r.code, .bool r.en.ad.v6, .int .u64 r.en.ad.hi, .int .u64 r.en.ad.lo, .int .i64 r.en.port, .int .i64 r.n, .int .i64 r.till, r.pv]
theorem rpV_len (r : Rp) : (rpV r).length = 8 := rfl
def Rp.good (w : World) (r : Rp) : Prop := i64 r.code ∧ r.en.fits ∧ i64 r.n ∧ i64 r.till ∧ ReadsL peV 10 w r.pv r.ps ∧ ∀ x ∈ r.ps, x.fits
theorem opens_reply : OpensW Try.prog 30 rpV Rp.good :=
  (opensW_of_fields Try.underlying30 (opensWF_cons (n := 1) (opens_i64 Try.underlying22).w (by kernel_rfl) rfl (opensWF_cons (n := 4) opens_end.w (by kernel_rfl) rfl (opensWF_cons (n := 1) (opens_i64 Try.underlying3).w (by kernel_rfl) rfl
    (opensWF_cons (n := 1) (opens_i64 Try.underlying3).w (by kernel_rfl) rfl (opensWF_cons (n := 1) (opensW_slice opens_peer.w peV_len (by omega) Try.underlying28 (by kernel_rfl)) (by kernel_rfl) rfl opensWF_nil))))) (by kernel_rfl)).map
    fun w ⟨c, e, n, u, p, _⟩ ⟨h1, h2, h3, h4, h5, _⟩ => ⟨⟨c, e, n, u, p.1, p.2⟩, ⟨h1, h2, h3, h4, h5.1, h5.2⟩, rfl⟩
end Go.Proofs.Ytnohkfbapibmdaa
