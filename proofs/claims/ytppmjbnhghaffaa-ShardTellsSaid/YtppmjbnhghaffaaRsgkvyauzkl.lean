/- Texts put together: SortPD. No condition. -/
import Derived.Test.YtppmjbnhghaffaaRiqngwzmfps
import Derived.Test.YtppmjbnhghaffaaRsmnwjoaesi
import Derived.Test.YtppmjbnhghaffaaRopeanrjrik
namespace Go.Proofs.Ytppmjbnhghaffaa
open Go.RowKit Go.Lib Go.Sort

theorem symMerge_p (cf : Pe → Pe → Int) (g : Nat) (cb : Array Value) (base blk cap : Nat) (n0 : Nat) (w0 : World) (eg : ∀ args w, (callFunc g args).run Try.prog w = .ok (.enter g args) w) (hcmp : CmpP Try.prog g cb cf) (hsz : n0 < 1000000000) : ∀ (f a m b : Nat) (d : Array Pe) (w : World),
    n0 = d.size → SP base w0 blk cap d w → a < m → m < b → b ≤ d.size → b - a ≤ f →
    Calls Try.prog 166 #[.slice (some ⟨blk, 0, none⟩) d.size cap, .int .i64 a, .int .i64 m, .int .i64 b, .func (.func g) #[] cb] w fun e w' => e = .returned (.tuple #[]) ∧ SP base w0 blk cap (symM (ltOf cf) f a m b d) w'
  | 0, a, m, b, d, w, hs, S, h1, h2, h3, h4 => by omega
  | f + 1, a, m, b, d, w, hs, S, h1, h2, h3, h4 => by
    have IH := symMerge_p cf g cb base blk cap n0 w0 eg hcmp hsz f
    by_cases c1 : m - a = 1
    · exact symMergeA_p cf g cb base blk cap n0 w0 eg hcmp hsz f a m b d w IH hs S h1 h2 h3 h4 c1
    by_cases c2 : b - m = 1
    · exact symMergeB_p cf g cb base blk cap n0 w0 eg hcmp hsz f a m b d w IH hs S h1 h2 h3 h4 c1 c2
    · exact symMergeC_p cf g cb base blk cap n0 w0 eg hcmp hsz f a m b d w IH hs S h1 h2 h3 h4 c1 c2
end Go.Proofs.Ytppmjbnhghaffaa
