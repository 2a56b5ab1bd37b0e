/- Texts put together: PeV, PeRow. No condition. -/
import Derived.Test.YtnplgagaoeckoaaGreatRmtvuvpphfn
import Derived.Test.YtnplgagaoeckoaaGreatRshgxludich
import Derived.Test.YtnplgagaoeckoaaGreatRuzzvrjikhw
set_option linter.unusedSimpArgs false
set_option linter.unusedVariables false
namespace Go.Proofs.YtnplgagaoeckoaaGreat
open Go.ChangeShapes Go.WideShapes Go.ChangeAt Go.RowKit Go.Deep
def peV (p : Pe) : List Value := [.bool p.en.ad.v6, .int .u64 p.en.ad.hi, .int .u64 p.en.ad.lo, .int .i64 p.en.port, .bool p.came, .int .i64 p.since, .int .i64 p.pts, .int .i64 p.at_, .int .i64 p.ping, .int .i64 p.work]
theorem peV_len (p : Pe) : (peV p).length = 10 := rfl
theorem opens_score : Opens Tryz.prog 50 (fun p : Int × Int => [.int .i64 p.1, .int .i64 p.2]) (fun p => (-9223372036854775808 ≤ p.1 ∧ p.1 ≤ 9223372036854775807) ∧ (-9223372036854775808 ≤ p.2 ∧ p.2 ≤ 9223372036854775807)) :=
 (opens_of_fields Tryz.underlying50 (opensF_cons (n := 1) (opens_i64 Tryz.underlying3) (by kernel_rfl) rfl (opensF_cons (n := 1) (opens_i64 Tryz.underlying3) (by kernel_rfl) rfl opensF_nil)) (by kernel_rfl)).map
  fun ⟨a, b, _⟩ ⟨h1, h2, _⟩ => ⟨⟨a, b⟩, ⟨h1, h2⟩, rfl⟩
theorem opens_peer : Opens Tryz.prog 52 peV Pe.fits :=
 (opens_of_fields Tryz.underlying52 (opensF_cons (n := 4) opens_end (by kernel_rfl) rfl (opensF_cons (n := 1) (opens_bool Tryz.underlying4) (by kernel_rfl) rfl (opensF_cons (n := 1) (opens_i64 Tryz.underlying3) (by kernel_rfl) rfl
  (opensF_cons (n := 2) opens_score (by kernel_rfl) rfl (opensF_cons (n := 1) (opens_i64 Tryz.underlying3) (by kernel_rfl) rfl (opensF_cons (n := 1) (opens_i64 Tryz.underlying3) (by kernel_rfl) rfl opensF_nil)))))) (by kernel_rfl)).map
  fun ⟨e, b, s, p, g, k, _⟩ ⟨h1, _, h3, h4, h5, h6, _⟩ => ⟨⟨e, b, s, p.1, p.2, g, k⟩, ⟨h1, h3, h4.1, h4.2, h5, h6⟩, rfl⟩
/-- a peer in a block -/
def PeAt (w : World) (B : Nat) (p : Pe) : Prop := ∀ j v, (peV p)[j]? = some v → w.cell? ⟨B, j, none⟩ = some v
theorem PeAt.open {w : World} {B : Nat} {p : Pe} (h : PeAt w B p) : w.cell? ⟨B, 0, none⟩ = some (.bool p.en.ad.v6) ∧ w.cell? ⟨B, 1, none⟩ = some (.int .u64 p.en.ad.hi) ∧ w.cell? ⟨B, 2, none⟩ = some (.int .u64 p.en.ad.lo) ∧ w.cell? ⟨B, 3, none⟩ = some (.int .i64 p.en.port) ∧ w.cell? ⟨B, 4, none⟩ = some (.bool p.came) ∧
  w.cell? ⟨B, 5, none⟩ = some (.int .i64 p.since) ∧ w.cell? ⟨B, 6, none⟩ = some (.int .i64 p.pts) ∧ w.cell? ⟨B, 7, none⟩ = some (.int .i64 p.at_) ∧ w.cell? ⟨B, 8, none⟩ = some (.int .i64 p.ping) ∧ w.cell? ⟨B, 9, none⟩ = some (.int .i64 p.work) :=
 ⟨h 0 _ rfl, h 1 _ rfl, h 2 _ rfl, h 3 _ rfl, h 4 _ rfl, h 5 _ rfl, h 6 _ rfl, h 7 _ rfl, h 8 _ rfl, h 9 _ rfl⟩
theorem PeAt.mk {w : World} {B : Nat} {p : Pe} (h0 : w.cell? ⟨B, 0, none⟩ = some (.bool p.en.ad.v6)) (h1 : w.cell? ⟨B, 1, none⟩ = some (.int .u64 p.en.ad.hi)) (h2 : w.cell? ⟨B, 2, none⟩ = some (.int .u64 p.en.ad.lo)) (h3 : w.cell? ⟨B, 3, none⟩ = some (.int .i64 p.en.port)) (h4 : w.cell? ⟨B, 4, none⟩ = some (.bool p.came))
  (h5 : w.cell? ⟨B, 5, none⟩ = some (.int .i64 p.since)) (h6 : w.cell? ⟨B, 6, none⟩ = some (.int .i64 p.pts)) (h7 : w.cell? ⟨B, 7, none⟩ = some (.int .i64 p.at_)) (h8 : w.cell? ⟨B, 8, none⟩ = some (.int .i64 p.ping)) (h9 : w.cell? ⟨B, 9, none⟩ = some (.int .i64 p.work)) : PeAt w B p := by
 intro j v hj
 have hl := (List.getElem?_eq_some_iff.1 hj).1
 rw [peV_len] at hl
 unfold peV at hj
 match j, hl with
 | 0, _ => simp at hj; rw [← hj]; exact h0
 | 1, _ => simp at hj; rw [← hj]; exact h1
 | 2, _ => simp at hj; rw [← hj]; exact h2
 | 3, _ => simp at hj; rw [← hj]; exact h3
 | 4, _ => simp at hj; rw [← hj]; exact h4
 | 5, _ => simp at hj; rw [← hj]; exact h5
 | 6, _ => simp at hj; rw [← hj]; exact h6
 | 7, _ => simp at hj; rw [← hj]; exact h7
 | 8, _ => simp at hj; rw [← hj]; exact h8
 | 9, _ => simp at hj; rw [← hj]; exact h9
theorem PeAt.below {w w' : World} {B : Nat} {p : Pe} (h : PeAt w B p) (hB : B < w.heap.size) (hb : Below w.heap.size w w') : PeAt w' B p := fun j v hj => by rw [hb.cell (p := ⟨B, j, none⟩) hB]; exact h j v hj
theorem PeAt.ext {w : World} {B : Nat} {p : Pe} (h : PeAt w B p) (hB : B < w.heap.size) (x : Grow) : PeAt (ext w x) B p := h.below hB (ext_below w x)
end Go.Proofs.YtnplgagaoeckoaaGreat
namespace Go.Proofs.YtnplgagaoeckoaaGreat
open Go.RowKit
/-- ten cells of a peer in a row -/
def PeIn (w : World) (b o : Nat) (p : Pe) : Prop := w.cell? ⟨b, o, none⟩ = some (.bool p.en.ad.v6) ∧ w.cell? ⟨b, o + 1, none⟩ = some (.int .u64 p.en.ad.hi) ∧ w.cell? ⟨b, o + 2, none⟩ = some (.int .u64 p.en.ad.lo) ∧ w.cell? ⟨b, o + 3, none⟩ = some (.int .i64 p.en.port) ∧ w.cell? ⟨b, o + 4, none⟩ = some (.bool p.came) ∧ w.cell? ⟨b, o + 5, none⟩ = some (.int .i64 p.since) ∧ w.cell? ⟨b, o + 6, none⟩ = some (.int .i64 p.pts) ∧ w.cell? ⟨b, o + 7, none⟩ = some (.int .i64 p.at_) ∧ w.cell? ⟨b, o + 8, none⟩ = some (.int .i64 p.ping) ∧ w.cell? ⟨b, o + 9, none⟩ = some (.int .i64 p.work)
theorem pes_open {w : World} {v : Value} {l : List Pe} (h : ReadsL peV 10 w v l) : l.length ≤ 9223372036854775807 ∧ ∃ (a : Option Addr) (c : Nat), v = .slice a l.length c ∧ (0 < l.length → ∃ b o, a = some ⟨b, o, none⟩ ∧ l.length ≤ c ∧ b < w.heap.size ∧
   ∀ (i : Nat) (p : Pe), l[i]? = some p → PeIn w b (o + i * 10) p) := by
 obtain ⟨h1, a, c, h2, h3⟩ := h.open peV_len (by omega)
 refine ⟨h1, a, c, h2, fun hp => ?_⟩
 obtain ⟨b, o, h4, h5, h6, h7⟩ := h3 hp
 refine ⟨b, o, h4, h5, h6, fun i x hi => ⟨?_, ?_, ?_, ?_, ?_, ?_, ?_, ?_, ?_, ?_⟩⟩
 ·have := h7 i x hi 0 _ rfl; simpa [Nat.add_assoc] using this
 ·have := h7 i x hi 1 _ rfl; simpa [Nat.add_assoc] using this
 ·have := h7 i x hi 2 _ rfl; simpa [Nat.add_assoc] using this
 ·have := h7 i x hi 3 _ rfl; simpa [Nat.add_assoc] using this
 ·have := h7 i x hi 4 _ rfl; simpa [Nat.add_assoc] using this
 ·have := h7 i x hi 5 _ rfl; simpa [Nat.add_assoc] using this
 ·have := h7 i x hi 6 _ rfl; simpa [Nat.add_assoc] using this
 ·have := h7 i x hi 7 _ rfl; simpa [Nat.add_assoc] using this
 ·have := h7 i x hi 8 _ rfl; simpa [Nat.add_assoc] using this
 ·have := h7 i x hi 9 _ rfl; simpa [Nat.add_assoc] using this
theorem PeIn.below {B : Nat} {w w' : World} {b o : Nat} {p : Pe} (h : PeIn w b o p) (hb : Below B w w') (hlt : b < B) : PeIn w' b o p := by
 obtain ⟨a0, a1, a2, a3, a4, a5, a6, a7, a8, a9⟩ := h
 exact ⟨keep hb hlt a0, keep hb hlt a1, keep hb hlt a2, keep hb hlt a3, keep hb hlt a4, keep hb hlt a5, keep hb hlt a6, keep hb hlt a7, keep hb hlt a8, keep hb hlt a9⟩
theorem PeIn.ext {w : World} {b o : Nat} {p : Pe} (h : PeIn w b o p) (hlt : b < w.heap.size) : ∀ y, PeIn (Go.Proofs.YtnplgagaoeckoaaGreat.ext w y) b o p := fun y => h.below (ext_below w y) hlt
end Go.Proofs.YtnplgagaoeckoaaGreat
