/- Texts put together: PlConf. No condition. -/
import Derived.Test.YtnplgagaoeckoaaGreatRrjxbgxemzo
import Derived.Test.YtnplgagaoeckoaaGreatRshgxludich
set_option linter.unusedSimpArgs false
set_option linter.unusedVariables false
namespace Go.Proofs.YtnplgagaoeckoaaGreat
open Go.RowKit
structure Cf where
 mi : Int
 mo : Int
 sh : Int
 mb : Int
 mbk : Int
 secret : Nat
 qg : Int
 qp : Int
 qw : Int
 qt : Int
 half : Int
 limit : Int
 banfor : Int
 base : Int
 cap : Int
 jitter : Int
deriving DecidableEq
def plainCf : Cf := ⟨8, 4, 4, 64, 64, 1, 1, 1, 1, 1, 100, 100, 1000, 2, 64, 4⟩
def cfRight (c : Cf) : Bool := decide (c.secret ≤ 9223372036854775807) && (decide (0 ≤ c.mi ∧ c.mi ≤ 65535) && (decide (0 ≤ c.mo ∧ c.mo ≤ 65535) && (decide (1 ≤ c.sh ∧ c.sh ≤ 8) && (decide (0 ≤ c.mb ∧ c.mb ≤ 1024) && (decide (0 ≤ c.mbk ∧ c.mbk ≤ 1024) &&
 (decide (0 ≤ c.qg ∧ c.qg ≤ 64) && (decide (0 ≤ c.qp ∧ c.qp ≤ 64) && (decide (0 ≤ c.qw ∧ c.qw ≤ 64) && (decide (0 ≤ c.qt ∧ c.qt ≤ 64) && (decide (1 ≤ c.half ∧ c.half ≤ 1073741824) && (decide (1 ≤ c.limit ∧ c.limit ≤ 10000) &&
 (decide (1 ≤ c.banfor ∧ c.banfor ≤ 1073741824) && (decide (1 ≤ c.base ∧ c.base ≤ 1073741824) && (decide (c.base ≤ c.cap ∧ c.cap ≤ 1073741824) && decide (0 ≤ c.jitter ∧ c.jitter ≤ 1073741824)))))))))))))))
/-- the number of a row, if the line is one -/
def rdRow (w l : List UInt8) : Option Int :=
 if w ++ [32] <+: l then (let r := decParse (l.drop (w.length + 1)) 9223372036854775807; if r.2 = true then some r.1 else none) else none
/-- what was read so far: place after place -/
def RdTo (ws ls : List (List UInt8)) (xs : List Int) : Prop := xs.length ≤ ws.length ∧ xs.length ≤ ls.length ∧ ∀ i, i < xs.length → ∃ w l x, ws[i]? = some w ∧ ls[i]? = some l ∧ xs[i]? = some x ∧ rdRow w l = some x
theorem RdTo.nil (ws ls : List (List UInt8)) : RdTo ws ls [] := ⟨by simp, by simp, fun i h => by simp at h⟩
theorem RdTo.snoc {ws ls : List (List UInt8)} {xs : List Int} {w l : List UInt8} {x : Int} (h : RdTo ws ls xs) (hw : ws[xs.length]? = some w) (hl : ls[xs.length]? = some l) (hx : rdRow w l = some x) : RdTo ws ls (xs ++ [x]) := by
 have h1 := (List.getElem?_eq_some_iff.1 hw).1
 have h2 := (List.getElem?_eq_some_iff.1 hl).1
 refine ⟨by simp; omega, by simp; omega, fun i hi => ?_⟩
 by_cases hlt : i < xs.length
 ·obtain ⟨w', l', x', a, b, c, d⟩ := h.2.2 i hlt
  exact ⟨w', l', x', a, b, by rw [List.getElem?_append_left hlt]; exact c, d⟩
 ·simp at hi
  obtain rfl : i = xs.length := by omega
  exact ⟨w, l, x, hw, hl, by simp, hx⟩
end Go.Proofs.YtnplgagaoeckoaaGreat
