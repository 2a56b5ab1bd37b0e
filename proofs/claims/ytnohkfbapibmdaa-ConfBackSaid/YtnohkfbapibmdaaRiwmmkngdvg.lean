/- Texts put together: CfV. No condition. -/
import Derived.Test.YtnohkfbapibmdaaRtlhrprcaer
import Derived.Test.YtnohkfbapibmdaaRxnutadlkyx
namespace Go.Proofs.Ytnohkfbapibmdaa
open Go.ChangeShapes Go.WideShapes Go.ChangeAt Go.RowKit Go.Deep
def cfV (c : Cf) : List Value := [.int .i64 c.mi, .int .i64 c.mo, .int .i64 c.sh, .int .i64 c.mb, .int .i64 c.mbk, .int .u64 c.secret, .int .i64 c.qg, .int .i64 c.qp, .int .i64 c.qw, .int .i64 c.qt, .int .i64 c.half, .int .i64 c.limit, .int .i64 c.banfor, .int .i64 c.base, .int .i64 c.cap, .int .i64 c.jitter]
theorem opens_quota : Opens Try.prog 68 (fun q : Int × Int × Int × Int => [.int .i64 q.1, .int .i64 q.2.1, .int .i64 q.2.2.1, .int .i64 q.2.2.2]) (fun _ => True) :=
  (opens_of_fields Try.underlying68 (opensF_cons (n := 1) (opens_i64 Try.underlying3) (by kernel_rfl) rfl (opensF_cons (n := 1) (opens_i64 Try.underlying3) (by kernel_rfl) rfl (opensF_cons (n := 1) (opens_i64 Try.underlying3) (by kernel_rfl) rfl (opensF_cons (n := 1) (opens_i64 Try.underlying3) (by kernel_rfl) rfl opensF_nil)))) (by kernel_rfl)).map
    fun ⟨a, b, c, d, _⟩ _ => ⟨⟨a, b, c, d⟩, trivial, rfl⟩
theorem opens_conf : Opens Try.prog 70 cfV (fun _ => True) :=
  (opens_of_fields Try.underlying70 (opensF_cons (n := 1) (opens_i64 Try.underlying3) (by kernel_rfl) rfl (opensF_cons (n := 1) (opens_i64 Try.underlying3) (by kernel_rfl) rfl (opensF_cons (n := 1) (opens_i64 Try.underlying3) (by kernel_rfl) rfl (opensF_cons (n := 1) (opens_i64 Try.underlying3) (by kernel_rfl) rfl (opensF_cons (n := 1) (opens_i64 Try.underlying3) (by kernel_rfl) rfl (opensF_cons (n := 1) (opens_u64 Try.underlying23) (by kernel_rfl) rfl (opensF_cons (n := 4) opens_quota (by kernel_rfl) rfl (opensF_cons (n := 1) (opens_i64 Try.underlying3) (by kernel_rfl) rfl (opensF_cons (n := 1) (opens_i64 Try.underlying3) (by kernel_rfl) rfl (opensF_cons (n := 1) (opens_i64 Try.underlying3) (by kernel_rfl) rfl (opensF_cons (n := 1) (opens_i64 Try.underlying3) (by kernel_rfl) rfl (opensF_cons (n := 1) (opens_i64 Try.underlying3) (by kernel_rfl) rfl (opensF_cons (n := 1) (opens_i64 Try.underlying3) (by kernel_rfl) rfl opensF_nil))))))))))))) (by kernel_rfl)).map
    fun ⟨a1, a2, a3, a4, a5, s, ⟨q1, q2, q3, q4⟩, h1, h2, h3, h4, h5, h6, _⟩ _ => ⟨⟨a1, a2, a3, a4, a5, s, q1, q2, q3, q4, h1, h2, h3, h4, h5, h6⟩, trivial, rfl⟩
end Go.Proofs.Ytnohkfbapibmdaa
