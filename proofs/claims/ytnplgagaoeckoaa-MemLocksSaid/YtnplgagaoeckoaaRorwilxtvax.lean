/- Texts put together: LawMemL. No condition. -/
import Derived.Test.YtnplgagaoeckoaaRluotpunbdg
import Derived.Test.YtnplgagaoeckoaaRylgnsdyrgs
namespace Go.Proofs.Ytnplgagaoeckoaa
open Go.RowKit

theorem memLocks_any (c : Cf) (hsec : c.secret < 18446744073709551616) (v : Value) (l : List Ac) (w : World) (hl : ReadsAc w v l) :
    Calls Try.prog 3 #[.agg #[.int .i64 c.mi, .int .i64 c.mo, .int .i64 c.sh, .int .i64 c.mb, .int .i64 c.mbk, .int .u64 c.secret, .int .i64 c.qg, .int .i64 c.qp, .int .i64 c.qw, .int .i64 c.qt, .int .i64 c.half, .int .i64 c.limit, .int .i64 c.banfor, .int .i64 c.base, .int .i64 c.cap, .int .i64 c.jitter], v] w fun e w' => e = .returned (.bool true) ∧ Below w.heap.size w w' := by
  cases hli : acLight l with
  | false => exact memLocks_no c v l w hl (Or.inl hli)
  | true =>
    cases hcr : cfRight c with
    | false => exact memLocks_no c v l w hl (Or.inr hcr)
    | true => exact memLocks_yes c hsec v l w hl hli hcr
end Go.Proofs.Ytnplgagaoeckoaa
