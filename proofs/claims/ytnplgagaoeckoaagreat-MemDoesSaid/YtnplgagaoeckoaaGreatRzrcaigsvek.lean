/- Texts put together: BaRow, BfA. No condition. -/
import Derived.Test.YtnplgagaoeckoaaGreatRgrqssyjqzq
import Derived.Test.YtnplgagaoeckoaaGreatRuzzvrjikhw
import Derived.Test.YtnplgagaoeckoaaGreatRjocmslpnog
import Derived.Test.YtnplgagaoeckoaaGreatRluqwkbtqlq
import Derived.Test.YtnplgagaoeckoaaGreatRrloyafqzcj
import Derived.WalkKit
import Derived.WalkSpells
import Derived.Deep.RegionLaw
import Derived.Lib.SliceRun
import Derived.Test.YtnplgagaoeckoaaGreatRldnkkbbzkg
import Derived.Test.YtnplgagaoeckoaaGreatRshgxludich
import Derived.Test.YtnplgagaoeckoaaGreatRhnpgpodzhy
import Derived.Test.YtnplgagaoeckoaaGreatRpgazgkwvhb
import Derived.Handy
set_option maxRecDepth 100000
set_option linter.unusedSimpArgs false
set_option linter.unusedVariables false
namespace Go.Proofs.YtnplgagaoeckoaaGreat
open Go.RowKit
theorem baV_five (b : Ba) : (baV b).length = 5 := rfl
/-- five cells of a ban in a row -/
def BaIn (w : World) (b o : Nat) (p : Ba) : Prop := w.cell? ⟨b, o, none⟩ = some (.bool p.nt.ad.v6) ∧ w.cell? ⟨b, o + 1, none⟩ = some (.int .u64 p.nt.ad.hi) ∧ w.cell? ⟨b, o + 2, none⟩ = some (.int .u64 p.nt.ad.lo) ∧ w.cell? ⟨b, o + 3, none⟩ = some (.int .i64 p.nt.bits) ∧ w.cell? ⟨b, o + 4, none⟩ = some (.int .i64 p.till)
theorem bas_open {w : World} {v : Value} {l : List Ba} (h : ReadsL baV 5 w v l) : l.length ≤ 9223372036854775807 ∧ ∃ (a : Option Addr) (c : Nat), v = .slice a l.length c ∧ (0 < l.length → ∃ b o, a = some ⟨b, o, none⟩ ∧ l.length ≤ c ∧ b < w.heap.size ∧
   ∀ (i : Nat) (p : Ba), l[i]? = some p → BaIn w b (o + i * 5) p) := by
 obtain ⟨h1, a, c, h2, h3⟩ := h.open baV_five (by omega)
 refine ⟨h1, a, c, h2, fun hp => ?_⟩
 obtain ⟨b, o, h4, h5, h6, h7⟩ := h3 hp
 refine ⟨b, o, h4, h5, h6, fun i x hi => ⟨?_, ?_, ?_, ?_, ?_⟩⟩
 ·have := h7 i x hi 0 _ rfl; simpa [Nat.add_assoc] using this
 ·have := h7 i x hi 1 _ rfl; simpa [Nat.add_assoc] using this
 ·have := h7 i x hi 2 _ rfl; simpa [Nat.add_assoc] using this
 ·have := h7 i x hi 3 _ rfl; simpa [Nat.add_assoc] using this
 ·have := h7 i x hi 4 _ rfl; simpa [Nat.add_assoc] using this
theorem BaIn.below {B : Nat} {w w' : World} {b o : Nat} {p : Ba} (h : BaIn w b o p) (hb : Below B w w') (hlt : b < B) : BaIn w' b o p := by
 obtain ⟨a0, a1, a2, a3, a4⟩ := h
 exact ⟨keep hb hlt a0, keep hb hlt a1, keep hb hlt a2, keep hb hlt a3, keep hb hlt a4⟩
theorem BaIn.ext {w : World} {b o : Nat} {p : Ba} (h : BaIn w b o p) (hlt : b < w.heap.size) : ∀ y, BaIn (Go.Proofs.YtnplgagaoeckoaaGreat.ext w y) b o p := fun y => h.below (ext_below w y) hlt
theorem neqBa_one (a : Ba) (W : World) : (binOp .neq 84 (.agg #[.bool a.nt.ad.v6, .int .u64 a.nt.ad.hi, .int .u64 a.nt.ad.lo, .int .i64 a.nt.bits, .int .i64 a.till]) (.agg #[.bool a.nt.ad.v6, .int .u64 a.nt.ad.hi, .int .u64 a.nt.ad.lo, .int .i64 a.nt.bits, .int .i64 a.till])).run Tryz.prog W = .ok (.bool false) W := by
 go_simp
set_option maxHeartbeats 8000000 in
theorem bans_same (v u : Value) (L : List Ba) (w : World) (hv : ReadsL baV 5 w v L) (hu : ReadsL baV 5 w u L) :
  Calls Tryz.prog 25 #[v, u] w fun e w' => e = .returned (.bool true) ∧ Below w.heap.size w w' := by
 obtain ⟨hm, p, c, rfl, h3⟩ := bas_open hv
 obtain ⟨hm1, p1, c1, rfl, k3⟩ := bas_open hu
 clear hv hu
 go_enter Tryz.func25, Tryz.ntmps25
 go_wp2_with fail
 go_loopw [5] (fun i' wr => ∃ k : Nat, k ≤ L.length ∧ i' = .int .i64 k ∧ Hid (Below w.heap.size w wr)) (fun i' _ => L.length - (intOf i').toNat)
 case atStart => exact ⟨0, by omega, rfl, Below.refl _ _⟩
 case round =>
  obtain ⟨k, hk, rfl, HB⟩ := hrel
  by_cases hlt : k < L.length
  ·obtain ⟨p, hp⟩ : ∃ p, L[k]? = some p := ⟨_, List.getElem?_eq_getElem hlt⟩
   obtain ⟨b1, o1, rfl, hc1, hb1, hx1⟩ := h3 (by omega)
   obtain ⟨b2, o2, rfl, hc2, hb2, hx2⟩ := k3 (by omega)
   have K := ((hx1 k p hp).below HB.out hb1).ext (Nat.lt_of_lt_of_le hb1 HB.out.size)
   have K2 := ((hx2 k p hp).below HB.out hb2).ext (Nat.lt_of_lt_of_le hb2 HB.out.size)
   have x0 := fun y => (K y).1; have x1 := fun y => (K y).2.1; have x2 := fun y => (K y).2.2.1; have x3 := fun y => (K y).2.2.2.1; have x4 := fun y => (K y).2.2.2.2
   have y0 := fun y => (K2 y).1; have y1 := fun y => (K2 y).2.1; have y2 := fun y => (K2 y).2.2.1; have y3 := fun y => (K2 y).2.2.2.1; have y4 := fun y => (K2 y).2.2.2.2
   have q1 : (0 : Int) ≤ (k : Int) := by omega
   have q2 : (k : Int) < (L.length : Int) := by omega
   have hq := fun W => neqBa_one p W
   clear K K2 hp hx1 hx2 h3 k3
   go_wp2_with fail
   refine wp_region_ext (by kernel_rfl) (by kernel_rfl) ?_
   repeat (go_big_quiet_step (fail))
   refine wpQuiet_nil ?_
   first | (intro _ hw'; obtain ⟨gx, hw''⟩ := hw'; subst hw'') | intro gx
   clear x0 x1 x2 x3 x4 y0 y1 y2 y3 y4 hq
   go_wp2_with fail
   go_roundw
   case rel => exact ⟨k + 1, by omega, by go_num, below2 HB.out (ext_below wr gx)⟩
   case measure => simp [intOf]; omega
  ·obtain rfl : k = L.length := by omega
   have q2 : ¬ ((L.length : Int) < (L.length : Int)) := by omega
   go_wp2_with fail
   go_ret
   exact ⟨rfl, HB.out⟩
end Go.Proofs.YtnplgagaoeckoaaGreat
