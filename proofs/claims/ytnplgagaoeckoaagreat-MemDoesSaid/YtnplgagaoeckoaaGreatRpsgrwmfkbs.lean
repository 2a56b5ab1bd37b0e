/- Texts put together: LawMdL. No condition. -/
import Derived.Test.YtnplgagaoeckoaaGreatRnznvdlnqhk
import Derived.Test.YtnplgagaoeckoaaGreatRqbdocepumj
set_option linter.unusedSimpArgs false
set_option linter.unusedVariables false
namespace Go.Proofs.YtnplgagaoeckoaaGreat
open Go.RowKit
theorem memDoes_any (c : Cf) (hsec : c.secret < 18446744073709551616) (vb vk vp v : Value) (bl : List Ba) (kl : List Ey) (pl : List Pe) (l : List Ac) (w : World) (hb : ReadsL baV 5 w vb bl) (hk : ReadsL eyV 7 w vk kl) (hp : ReadsL peV 10 w vp pl) (hl : ReadsAc w v l) (hfp : ∀ p ∈ pl, p.en.ad.fits) :
  Calls Tryz.prog 3 #[.agg #[.int .i64 c.mi, .int .i64 c.mo, .int .i64 c.sh, .int .i64 c.mb, .int .i64 c.mbk, .int .u64 c.secret, .int .i64 c.qg, .int .i64 c.qp, .int .i64 c.qw, .int .i64 c.qt, .int .i64 c.half, .int .i64 c.limit, .int .i64 c.banfor, .int .i64 c.base, .int .i64 c.cap, .int .i64 c.jitter], .agg #[vb, vk, vp], v] w fun e w' => e = .returned (.bool true) ∧ Below w.heap.size w w' := by
 by_cases h : acLight l = true ∧ (bl.length ≤ 20 ∧ kl.length ≤ 20 ∧ pl.length ≤ 20) ∧ cfRight c = true
 ·exact memDoes_yes c hsec vb vk vp v bl kl pl l w hb hk hp hl hfp h.1 h.2.1 h.2.2
 ·exact memDoes_no c vb vk vp v bl kl pl l w hb hk hp hl h
end Go.Proofs.YtnplgagaoeckoaaGreat
