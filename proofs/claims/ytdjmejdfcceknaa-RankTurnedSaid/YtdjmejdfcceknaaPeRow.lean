/- Rows of peers, and what is read of them. No condition. -/
import Derived.Test.YtdjmejdfcceknaaPeV
import Derived.Test.YtdjmejdfcceknaaQba21a9hbayfa
namespace Go.Proofs.Ytdjmejdfcceknaa
open Go.RowKit

/-- ten cells of a peer in a row -/
def PeIn (w : World) (b o : Nat) (p : Pe) : Prop := w.cell? ⟨b, o, none⟩ = some (.bool p.en.ad.v6) ∧ w.cell? ⟨b, o + 1, none⟩ = some (.int .u64 p.en.ad.hi) ∧ w.cell? ⟨b, o + 2, none⟩ = some (.int .u64 p.en.ad.lo) ∧ w.cell? ⟨b, o + 3, none⟩ = some (.int .i64 p.en.port) ∧ w.cell? ⟨b, o + 4, none⟩ = some (.bool p.came) ∧ w.cell? ⟨b, o + 5, none⟩ = some (.int .i64 p.since) ∧ w.cell? ⟨b, o + 6, none⟩ = some (.int .i64 p.pts) ∧ w.cell? ⟨b, o + 7, none⟩ = some (.int .i64 p.at_) ∧ w.cell? ⟨b, o + 8, none⟩ = some (.int .i64 p.ping) ∧ w.cell? ⟨b, o + 9, none⟩ = some (.int .i64 p.work)
theorem pes_open {w : World} {v : Value} {l : List Pe} (h : ReadsL peV 10 w v l) : l.length ≤ 9223372036854775807 ∧ ∃ (a : Option Addr) (c : Nat), v = .slice a l.length c ∧ (0 < l.length → ∃ b o, a = some ⟨b, o, none⟩ ∧ l.length ≤ c ∧ b < w.heap.size ∧
      ∀ (i : Nat) (p : Pe), l[i]? = some p → PeIn w b (o + i * 10) p) := by
  obtain ⟨h1, a, c, h2, h3⟩ := h.open peV_len (by omega)
  refine ⟨h1, a, c, h2, fun hp => ?_⟩
  obtain ⟨b, o, h4, h5, h6, h7⟩ := h3 hp
  refine ⟨b, o, h4, h5, h6, fun i x hi => ⟨?_, ?_, ?_, ?_, ?_, ?_, ?_, ?_, ?_, ?_⟩⟩
  · have := h7 i x hi 0 _ rfl; simpa [Nat.add_assoc] using this
  · have := h7 i x hi 1 _ rfl; simpa [Nat.add_assoc] using this
  · have := h7 i x hi 2 _ rfl; simpa [Nat.add_assoc] using this
  · have := h7 i x hi 3 _ rfl; simpa [Nat.add_assoc] using this
  · have := h7 i x hi 4 _ rfl; simpa [Nat.add_assoc] using this
  · have := h7 i x hi 5 _ rfl; simpa [Nat.add_assoc] using this
  · have := h7 i x hi 6 _ rfl; simpa [Nat.add_assoc] using this
  · have := h7 i x hi 7 _ rfl; simpa [Nat.add_assoc] using this
  · have := h7 i x hi 8 _ rfl; simpa [Nat.add_assoc] using this
  · have := h7 i x hi 9 _ rfl; simpa [Nat.add_assoc] using this
theorem PeIn.below {B : Nat} {w w' : World} {b o : Nat} {p : Pe} (h : PeIn w b o p) (hb : Below B w w') (hlt : b < B) : PeIn w' b o p := by
  obtain ⟨a0, a1, a2, a3, a4, a5, a6, a7, a8, a9⟩ := h
  exact ⟨keep hb hlt a0, keep hb hlt a1, keep hb hlt a2, keep hb hlt a3, keep hb hlt a4, keep hb hlt a5, keep hb hlt a6, keep hb hlt a7, keep hb hlt a8, keep hb hlt a9⟩
theorem PeIn.ext {w : World} {b o : Nat} {p : Pe} (h : PeIn w b o p) (hlt : b < w.heap.size) : ∀ y, PeIn (Go.Proofs.Ytdjmejdfcceknaa.ext w y) b o p := fun y => h.below (ext_below w y) hlt
end Go.Proofs.Ytdjmejdfcceknaa
