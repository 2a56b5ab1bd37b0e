/- Texts put together: PeM. No condition. -/
import Derived.Test.YtnplgagaoeckoaaGreatRrornvdfvpg
import Derived.Test.YtnplgagaoeckoaaGreatRjocmslpnog
import Derived.Test.YtnplgagaoeckoaaGreatRpgazgkwvhb
set_option linter.unusedSimpArgs false
set_option linter.unusedVariables false
namespace Go.Proofs.YtnplgagaoeckoaaGreat
open Go.RowKit
theorem neqPe_one (a : Pe) (W : World) : (binOp .neq 52 (.agg #[.bool a.en.ad.v6, .int .u64 a.en.ad.hi, .int .u64 a.en.ad.lo, .int .i64 a.en.port, .bool a.came, .int .i64 a.since, .int .i64 a.pts, .int .i64 a.at_, .int .i64 a.ping, .int .i64 a.work]) (.agg #[.bool a.en.ad.v6, .int .u64 a.en.ad.hi, .int .u64 a.en.ad.lo, .int .i64 a.en.port, .bool a.came, .int .i64 a.since, .int .i64 a.pts, .int .i64 a.at_, .int .i64 a.ping, .int .i64 a.work])).run Tryz.prog W = .ok (.bool false) W := by
 go_simp
theorem peRow : RowT Tryz.prog 29 52 10 80 := RowT.mk (.agg #[.bool false, .int .u64 0, .int .u64 0, .int .i64 0, .bool false, .int .i64 0, .int .i64 0, .int .i64 0, .int .i64 0, .int .i64 0]) Tryz.underlying29 (by kernel_rfl) rfl (by omega)
theorem peV_one1 (p : Pe) : ∀ u ∈ peV p, u.oneCell' = true := by intro u hu; unfold peV at hu; simp only [List.mem_cons, List.not_mem_nil, or_false] at hu; rcases hu with rfl | rfl | rfl | rfl | rfl | rfl | rfl | rfl | rfl | rfl <;> rfl
theorem peV_ones (l : List Pe) : ∀ u ∈ l.flatMap peV, u.oneCell' = true := by
 intro u hu
 obtain ⟨p, _, hp⟩ := List.mem_flatMap.1 hu
 exact peV_one1 p u hp
theorem pes_len (l : List Pe) : (l.flatMap peV).length = l.length * 10 := by
 induction l with
 | nil => rfl
 | cons p r ih => rw [List.flatMap_cons, List.length_append, ih, peV_len, List.length_cons]; omega
theorem reads_dropP {w : World} {l : List Pe} {b o c k : Nat} (h : ReadsL peV 10 w (.slice (some ⟨b, o, none⟩) l.length c) l) (hk : k ≤ l.length) : ReadsL peV 10 w (.slice (some ⟨b, o + k * 10, none⟩) (l.length - k) (c - k)) (l.drop k) := by
 obtain ⟨h1, h2, h3⟩ := h
 have hd : (l.drop k).length = l.length - k := List.length_drop
 refine ⟨pes_len _, by omega, ?_⟩
 rw [hd]
 rcases Nat.eq_zero_or_pos (l.length - k) with e | e
 ·exact Or.inl ⟨e, _, _, by rw [e]⟩
 ·rcases h3 with ⟨h0, _⟩ | ⟨hp, b', o', c', hv, hc, hlt, hx⟩
  ·omega
  ·injection hv with e1 _ e3
   injection e1 with e1
   injection e1 with e4 e5
   subst e4 e5 e3
   refine Or.inr ⟨e, b, o + k * 10, c - k, rfl, by omega, hlt, fun j x hj => ?_⟩
   rw [Nat.add_assoc]
   refine hx (k * 10 + j) x ?_
   conv => lhs; rw [← List.take_append_drop k l]
   rw [List.flatMap_append, List.getElem?_append_right (by rw [pes_len, List.length_take]; omega), pes_len, List.length_take, Nat.min_eq_left hk, Nat.add_sub_cancel_left]
   exact hj
theorem reads_takeP {w : World} {l : List Pe} {b o c k : Nat} (h : ReadsL peV 10 w (.slice (some ⟨b, o, none⟩) l.length c) l) (hk : k ≤ l.length) : ReadsL peV 10 w (.slice (some ⟨b, o, none⟩) k c) (l.take k) := by
 obtain ⟨h1, h2, h3⟩ := h
 have hd : (l.take k).length = k := by rw [List.length_take]; omega
 refine ⟨pes_len _, by omega, ?_⟩
 rw [hd]
 rcases Nat.eq_zero_or_pos k with e | e
 ·exact Or.inl ⟨e, _, _, by rw [e]⟩
 ·rcases h3 with ⟨h0, _⟩ | ⟨hp, b', o', c', hv, hc, hlt, hx⟩
  ·omega
  ·injection hv with e1 _ e3
   injection e1 with e1
   injection e1 with e4 e5
   subst e4 e5 e3
   refine Or.inr ⟨e, b, o, c, rfl, by omega, hlt, fun j x hj => ?_⟩
   refine hx j x ?_
   conv => lhs; rw [← List.take_append_drop k l]
   rw [List.flatMap_append, List.getElem?_append_left (List.getElem?_eq_some_iff.1 hj).1]
   exact hj
end Go.Proofs.YtnplgagaoeckoaaGreat
