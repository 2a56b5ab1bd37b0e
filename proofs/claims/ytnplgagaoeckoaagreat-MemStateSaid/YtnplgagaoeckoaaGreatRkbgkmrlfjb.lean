/- Texts put together: PeRow, PeM. No condition. -/
import Derived.Test.YtnplgagaoeckoaaGreatRhshflinjux
import Derived.Test.YtnplgagaoeckoaaGreatRanpeybqetz
import Derived.Test.YtnplgagaoeckoaaGreatRypywmygvkt
import Derived.Test.YtnplgagaoeckoaaGreatRkuomsxsqlb
namespace Go.Proofs.YtnplgagaoeckoaaGreat
open Go.RowKit

/-- ten cells of a peer in a row -/
def PeIn (w : World) (b o : Nat) (p : Pe) : Prop := w.cell? ⟨b, o, none⟩ = some (.bool p.en.ad.v6) ∧ w.cell? ⟨b, o + 1, none⟩ = some (.int .u64 p.en.ad.hi) ∧ w.cell? ⟨b, o + 2, none⟩ = some (.int .u64 p.en.ad.lo) ∧ w.cell? ⟨b, o + 3, none⟩ = some (.int .i64 p.en.port) ∧ w.cell? ⟨b, o + 4, none⟩ = some (.bool p.came) ∧ w.cell? ⟨b, o + 5, none⟩ = some (.int .i64 p.since) ∧ w.cell? ⟨b, o + 6, none⟩ = some (.int .i64 p.pts) ∧ w.cell? ⟨b, o + 7, none⟩ = some (.int .i64 p.at_) ∧ w.cell? ⟨b, o + 8, none⟩ = some (.int .i64 p.ping) ∧ w.cell? ⟨b, o + 9, none⟩ = some (.int .i64 p.work)
theorem pes_open {w : World} {v : Value} {l : List Pe} (h : ReadsL peV 10 w v l) : l.length ≤ 9223372036854775807 ∧ ∃ (a : Option Addr) (c : Nat), v = .slice a l.length c ∧ (0 < l.length → ∃ b o, a = some ⟨b, o, none⟩ ∧ l.length ≤ c ∧ b < w.heap.size ∧
      ∀ (i : Nat) (p : Pe), l[i]? = some p → PeIn w b (o + i * 10) p) := by
  obtain ⟨h1, a, c, h2, h3⟩ := h.open peV_len (by omega)
  refine ⟨h1, a, c, h2, fun hp => ?_⟩
  obtain ⟨b, o, h4, h5, h6, h7⟩ := h3 hp
  refine ⟨b, o, h4, h5, h6, fun i x hi => ⟨?_, ?_, ?_, ?_, ?_, ?_, ?_, ?_, ?_, ?_⟩⟩
  · have := h7 i x hi 0 _ rfl; simpa [Nat.add_assoc] using this
  · have := h7 i x hi 1 _ rfl; simpa [Nat.add_assoc] using this
  · have := h7 i x hi 2 _ rfl; simpa [Nat.add_assoc] using this
  · have := h7 i x hi 3 _ rfl; simpa [Nat.add_assoc] using this
  · have := h7 i x hi 4 _ rfl; simpa [Nat.add_assoc] using this
  · have := h7 i x hi 5 _ rfl; simpa [Nat.add_assoc] using this
  · have := h7 i x hi 6 _ rfl; simpa [Nat.add_assoc] using this
  · have := h7 i x hi 7 _ rfl; simpa [Nat.add_assoc] using this
  · have := h7 i x hi 8 _ rfl; simpa [Nat.add_assoc] using this
  · have := h7 i x hi 9 _ rfl; simpa [Nat.add_assoc] using this
theorem PeIn.below {B : Nat} {w w' : World} {b o : Nat} {p : Pe} (h : PeIn w b o p) (hb : Below B w w') (hlt : b < B) : PeIn w' b o p := by
  obtain ⟨a0, a1, a2, a3, a4, a5, a6, a7, a8, a9⟩ := h
  exact ⟨keep hb hlt a0, keep hb hlt a1, keep hb hlt a2, keep hb hlt a3, keep hb hlt a4, keep hb hlt a5, keep hb hlt a6, keep hb hlt a7, keep hb hlt a8, keep hb hlt a9⟩
theorem PeIn.ext {w : World} {b o : Nat} {p : Pe} (h : PeIn w b o p) (hlt : b < w.heap.size) : ∀ y, PeIn (Go.Proofs.YtnplgagaoeckoaaGreat.ext w y) b o p := fun y => h.below (ext_below w y) hlt
end Go.Proofs.YtnplgagaoeckoaaGreat
namespace Go.Proofs.YtnplgagaoeckoaaGreat
open Go.RowKit
theorem neqPe_one (a : Pe) (W : World) : (binOp .neq 52 (.agg #[.bool a.en.ad.v6, .int .u64 a.en.ad.hi, .int .u64 a.en.ad.lo, .int .i64 a.en.port, .bool a.came, .int .i64 a.since, .int .i64 a.pts, .int .i64 a.at_, .int .i64 a.ping, .int .i64 a.work]) (.agg #[.bool a.en.ad.v6, .int .u64 a.en.ad.hi, .int .u64 a.en.ad.lo, .int .i64 a.en.port, .bool a.came, .int .i64 a.since, .int .i64 a.pts, .int .i64 a.at_, .int .i64 a.ping, .int .i64 a.work])).run Tryz.prog W = .ok (.bool false) W := by
  go_simp
theorem peRow : RowT Tryz.prog 29 52 10 80 := RowT.mk (.agg #[.bool false, .int .u64 0, .int .u64 0, .int .i64 0, .bool false, .int .i64 0, .int .i64 0, .int .i64 0, .int .i64 0, .int .i64 0]) Tryz.underlying29 (by kernel_rfl) rfl (by omega)
theorem peV_one1 (p : Pe) : ∀ u ∈ peV p, u.oneCell' = true := by intro u hu; unfold peV at hu; simp only [List.mem_cons, List.not_mem_nil, or_false] at hu; rcases hu with rfl | rfl | rfl | rfl | rfl | rfl | rfl | rfl | rfl | rfl <;> rfl
theorem peV_ones (l : List Pe) : ∀ u ∈ l.flatMap peV, u.oneCell' = true := by
  intro u hu
  obtain ⟨p, _, hp⟩ := List.mem_flatMap.1 hu
  exact peV_one1 p u hp
theorem pes_len (l : List Pe) : (l.flatMap peV).length = l.length * 10 := by
  induction l with
  | nil => rfl
  | cons p r ih => rw [List.flatMap_cons, List.length_append, ih, peV_len, List.length_cons]; omega
theorem reads_dropP {w : World} {l : List Pe} {b o c k : Nat} (h : ReadsL peV 10 w (.slice (some ⟨b, o, none⟩) l.length c) l) (hk : k ≤ l.length) : ReadsL peV 10 w (.slice (some ⟨b, o + k * 10, none⟩) (l.length - k) (c - k)) (l.drop k) := by
  obtain ⟨h1, h2, h3⟩ := h
  have hd : (l.drop k).length = l.length - k := List.length_drop
  refine ⟨pes_len _, by omega, ?_⟩
  rw [hd]
  rcases Nat.eq_zero_or_pos (l.length - k) with e | e
  · exact Or.inl ⟨e, _, _, by rw [e]⟩
  · rcases h3 with ⟨h0, _⟩ | ⟨hp, b', o', c', hv, hc, hlt, hx⟩
    · omega
    · injection hv with e1 _ e3
      injection e1 with e1
      injection e1 with e4 e5
      subst e4 e5 e3
      refine Or.inr ⟨e, b, o + k * 10, c - k, rfl, by omega, hlt, fun j x hj => ?_⟩
      rw [Nat.add_assoc]
      refine hx (k * 10 + j) x ?_
      conv => lhs; rw [← List.take_append_drop k l]
      rw [List.flatMap_append, List.getElem?_append_right (by rw [pes_len, List.length_take]; omega), pes_len, List.length_take, Nat.min_eq_left hk, Nat.add_sub_cancel_left]
      exact hj
theorem reads_takeP {w : World} {l : List Pe} {b o c k : Nat} (h : ReadsL peV 10 w (.slice (some ⟨b, o, none⟩) l.length c) l) (hk : k ≤ l.length) : ReadsL peV 10 w (.slice (some ⟨b, o, none⟩) k c) (l.take k) := by
  obtain ⟨h1, h2, h3⟩ := h
  have hd : (l.take k).length = k := by rw [List.length_take]; omega
  refine ⟨pes_len _, by omega, ?_⟩
  rw [hd]
  rcases Nat.eq_zero_or_pos k with e | e
  · exact Or.inl ⟨e, _, _, by rw [e]⟩
  · rcases h3 with ⟨h0, _⟩ | ⟨hp, b', o', c', hv, hc, hlt, hx⟩
    · omega
    · injection hv with e1 _ e3
      injection e1 with e1
      injection e1 with e4 e5
      subst e4 e5 e3
      refine Or.inr ⟨e, b, o, c, rfl, by omega, hlt, fun j x hj => ?_⟩
      refine hx j x ?_
      conv => lhs; rw [← List.take_append_drop k l]
      rw [List.flatMap_append, List.getElem?_append_left (List.getElem?_eq_some_iff.1 hj).1]
      exact hj
end Go.Proofs.YtnplgagaoeckoaaGreat
