/- Texts put together: CfS. No condition. -/
import Derived.Test.YtnplgagaoeckoaaRrbplxpxipy
import Derived.Test.YtnplgagaoeckoaaRhshlxfqxlh
import Derived.Test.YtnplgagaoeckoaaRcgbuddcoyk
namespace Go.Proofs.Ytnplgagaoeckoaa
open Go.ChangeShapes Go.WideShapes Go.ChangeAt Go.RowKit Go.Deep
theorem opens_confS : Opens Try.prog 26 cfV (fun c => c.secret < 18446744073709551616) :=
  (opens_of_fields Try.underlying26 (opensF_cons (n := 1) (opens_i64 Try.underlying3) (by kernel_rfl) rfl (opensF_cons (n := 1) (opens_i64 Try.underlying3) (by kernel_rfl) rfl (opensF_cons (n := 1) (opens_i64 Try.underlying3) (by kernel_rfl) rfl (opensF_cons (n := 1) (opens_i64 Try.underlying3) (by kernel_rfl) rfl (opensF_cons (n := 1) (opens_i64 Try.underlying3) (by kernel_rfl) rfl (opensF_cons (n := 1) (opens_u64 Try.underlying22) (by kernel_rfl) rfl (opensF_cons (n := 4) opens_quota (by kernel_rfl) rfl (opensF_cons (n := 1) (opens_i64 Try.underlying3) (by kernel_rfl) rfl (opensF_cons (n := 1) (opens_i64 Try.underlying3) (by kernel_rfl) rfl (opensF_cons (n := 1) (opens_i64 Try.underlying3) (by kernel_rfl) rfl (opensF_cons (n := 1) (opens_i64 Try.underlying3) (by kernel_rfl) rfl (opensF_cons (n := 1) (opens_i64 Try.underlying3) (by kernel_rfl) rfl (opensF_cons (n := 1) (opens_i64 Try.underlying3) (by kernel_rfl) rfl opensF_nil))))))))))))) (by kernel_rfl)).map
    fun ⟨a1, a2, a3, a4, a5, s, ⟨q1, q2, q3, q4⟩, h1, h2, h3, h4, h5, h6, _⟩ ⟨_, _, _, _, _, hs, _⟩ => ⟨⟨a1, a2, a3, a4, a5, s, q1, q2, q3, q4, h1, h2, h3, h4, h5, h6⟩, hs, rfl⟩
theorem opens_act37 : OpensW Try.prog 56 acV (fun w a => a.op.good w) :=
  (opensW_of_fields Try.underlying56 (opensWF_cons (n := 1) (opens_i64 Try.underlying3).w (by kernel_rfl) rfl (opensWF_cons (n := 21) opens_op (by kernel_rfl) rfl opensWF_nil)) (by kernel_rfl)).map
    fun w ⟨who, op, _⟩ ⟨_, h2, _⟩ => ⟨⟨who, op⟩, h2, rfl⟩
theorem good_at {w : World} {o : Oq} (h : o.good w) : OqAt w o := ⟨h.2.2.2.2.2.2.2.2.2.1.1, h.2.2.2.2.2.2.2.2.2.2.1⟩
theorem acs_good {w : World} {v : Value} {l : List Ac} (h : ReadsL acV 22 w v l) (hg : ∀ a ∈ l, a.op.good w) : ReadsAc w v l := ⟨h, fun a ha => good_at (hg a ha)⟩
end Go.Proofs.Ytnplgagaoeckoaa
