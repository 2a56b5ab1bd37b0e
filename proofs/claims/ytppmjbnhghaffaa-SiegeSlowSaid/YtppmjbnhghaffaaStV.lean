/- How sites are opened. No condition. -/
import Derived.Test.YtppmjbnhghaffaaQae214cktgloe
import Derived.Test.YtppmjbnhghaffaaQ26129csnrupv
namespace Go.Proofs.Ytppmjbnhghaffaa
open Go.ChangeShapes Go.WideShapes Go.ChangeAt Go.RowKit Go.Deep
def stV (t : St) : List Value := [.int .i64 t.most, .int .i64 t.q.group, .int .i64 t.q.ping, .int .i64 t.q.work, .int .i64 t.q.time, .int .u64 t.s]
theorem stV_len (t : St) : (stV t).length = 6 := rfl
theorem opens_site : Opens Try.prog 105 stV St.fits :=
  (opens_of_fields Try.underlying105 (opensF_cons (n := 1) (opens_i64 Try.underlying3) (by kernel_rfl) rfl (opensF_cons (n := 4) opens_qu (by kernel_rfl) rfl (opensF_cons (n := 1) (opens_u64 Try.underlying30) (by kernel_rfl) rfl opensF_nil))) (by kernel_rfl)).map
    fun ⟨g, q, s, _⟩ ⟨h1, h2, h3, _⟩ => ⟨⟨g, q, s⟩, ⟨h1, h2, h3⟩, rfl⟩
end Go.Proofs.Ytppmjbnhghaffaa
