/- slices.symMergeCmpFunc: whole. Conditions: as the theorem says. -/
import Derived.Test.YtdjmejdfcceknaaSortJA
import Derived.Test.YtdjmejdfcceknaaSortJB
import Derived.Test.YtdjmejdfcceknaaSortJC
namespace Go.Proofs.Ytdjmejdfcceknaa
open Go.Shelf Go.RowKit Go.Lib Go.Sort

theorem symMerge_s {α : Type} [Inhabited α] (enc : α → Value) (cf : α → α → Int) (g : Nat) (cb : Array Value) (blk off cap : Nat) (d0 : Array α) (w0 : World) (eg : ∀ args w, (callFunc g args).run Try.prog w = .ok (.enter g args) w) (hcmp : CmpB Try.prog g cb enc cf blk off d0.size w0) (R : Row1 enc w0 blk off d0) (hsz : d0.size < 1000000000) : ∀ (f a m b : Nat) (d : Array α) (w : World),
    d0.size = d.size → SB enc w0 blk off d w → a < m → m < b → b ≤ d.size → b - a ≤ f →
    Calls Try.prog 133 #[.slice (some ⟨blk, off, none⟩) d.size cap, .int .i64 a, .int .i64 m, .int .i64 b, .func (.func g) #[] cb] w fun e w' => e = .returned (.tuple #[]) ∧ SB enc w0 blk off (symM (ltOf cf) f a m b d) w'
  | 0, a, m, b, d, w, hs, S, h1, h2, h3, h4 => by omega
  | f + 1, a, m, b, d, w, hs, S, h1, h2, h3, h4 => by
    have IH := symMerge_s enc cf g cb blk off cap d0 w0 eg hcmp R hsz f
    by_cases c1 : m - a = 1
    · exact symMergeA_s enc cf g cb blk off cap d0 w0 eg hcmp R hsz f a m b d w IH hs S h1 h2 h3 h4 c1
    by_cases c2 : b - m = 1
    · exact symMergeB_s enc cf g cb blk off cap d0 w0 eg hcmp R hsz f a m b d w IH hs S h1 h2 h3 h4 c1 c2
    · exact symMergeC_s enc cf g cb blk off cap d0 w0 eg hcmp R hsz f a m b d w IH hs S h1 h2 h3 h4 c1 c2
end Go.Proofs.Ytdjmejdfcceknaa
