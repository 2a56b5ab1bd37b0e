/- Texts put together: LawMemB. No condition. -/
import Derived.Test.YtnplgagaoeckoaaRuykdnmbwzm
import Derived.Test.YtnplgagaoeckoaaRwioubrlxuu
namespace Go.Proofs.Ytnplgagaoeckoaa
open Go.RowKit Go.Lib

section
variable {P : Program} {ops : Array Oper} {rest : List Oper} {o : Oper} {a : Act} {w : World} {Q : Exit → Act → World → Prop}
/-- a load that its guard passes over -/
theorem list_skip_ld (ty : TypeId) (x : Operand) (ho : o.op = .load ty x) (hw : Region.wanted o (yielded ops a.tmps) = false) (h : wpList P ops Q rest (a.put o.dst undef) w) : wpList P ops Q (o :: rest) a w :=
  wpList_step fun K hK => by rw [if_neg (by rw [hw]; decide)]; exact hK _ _ h
end
set_option maxRecDepth 100000 in
set_option maxHeartbeats 16000000 in
theorem memLocks_no (c : Cf) (v : Value) (l : List Ac) (w : World) (hl : ReadsAc w v l) (hno : acLight l = false ∨ cfRight c = false) :
    Calls Try.prog 3 #[.agg #[.int .i64 c.mi, .int .i64 c.mo, .int .i64 c.sh, .int .i64 c.mb, .int .i64 c.mbk, .int .u64 c.secret, .int .i64 c.qg, .int .i64 c.qp, .int .i64 c.qw, .int .i64 c.qt, .int .i64 c.half, .int .i64 c.limit, .int .i64 c.banfor, .int .i64 c.base, .int .i64 c.cap, .int .i64 c.jitter], v] w fun e w' => e = .returned (.bool true) ∧ Below w.heap.size w w' := by
  have HLI := Lib.hid (fun (W : World) (hb : Below w.heap.size w W) => light37_any v l W (hl.below hb))
  obtain ⟨_, a0, c0, e0, _⟩ := acs_open hl
  subst e0
  have hB1 : BlockIs (w.alloc (.cells #[.int .i64 c.mi, .int .i64 c.mo, .int .i64 c.sh, .int .i64 c.mb, .int .i64 c.mbk, .int .u64 c.secret, .int .i64 c.qg, .int .i64 c.qp, .int .i64 c.qw, .int .i64 c.qt, .int .i64 c.half, .int .i64 c.limit, .int .i64 c.banfor, .int .i64 c.base, .int .i64 c.cap, .int .i64 c.jitter] 26)) w.heap.size [.int .i64 c.mi, .int .i64 c.mo, .int .i64 c.sh, .int .i64 c.mb, .int .i64 c.mbk, .int .u64 c.secret, .int .i64 c.qg, .int .i64 c.qp, .int .i64 c.qw, .int .i64 c.qt, .int .i64 c.half, .int .i64 c.limit, .int .i64 c.banfor, .int .i64 c.base, .int .i64 c.cap, .int .i64 c.jitter] 26 := BlockIs.new w _ _
  have bB1 : Below w.heap.size w (w.alloc (.cells #[.int .i64 c.mi, .int .i64 c.mo, .int .i64 c.sh, .int .i64 c.mb, .int .i64 c.mbk, .int .u64 c.secret, .int .i64 c.qg, .int .i64 c.qp, .int .i64 c.qw, .int .i64 c.qt, .int .i64 c.half, .int .i64 c.limit, .int .i64 c.banfor, .int .i64 c.base, .int .i64 c.cap, .int .i64 c.jitter] 26)) := (Below.refl _ _).alloc (Nat.le_refl _) _
  clear hl
  cases hli : acLight l with
  | false =>
    rw [hli] at HLI
    clear hno hli
    go_enter Try.func3, Try.ntmps3
    go_wp2_with (first
      | (go_at_call 4; (with_reducible refine (HLI.out _ bB1).mono ?_); rintro e w1 ⟨rfl, b1⟩; have B1 := bB1.trans (b1.mono (by simp)))
      | (refine list_skip_ld 26 _ rfl (by rfl) ?_)
      | (go_at_call 6; (with_reducible refine (awake37_any _).mono ?_); rintro e w2 ⟨rfl, b2⟩; have B2 := below2 B1 b2))
    go_ret
    exact ⟨rfl, B2⟩
  | true =>
    have hcr : cfRight c = false := by rcases hno with h | h <;> simp_all
    rw [hli] at HLI
    have HCR := Lib.hid (fun (W : World) => refCfRight_any c W)
    rw [hcr] at HCR
    clear hno hli hcr
    go_enter Try.func3, Try.ntmps3
    go_wp2_with (first
      | (go_at_call 4; (with_reducible refine (HLI.out _ bB1).mono ?_); rintro e w1 ⟨rfl, b1⟩; have B1 := bB1.trans (b1.mono (by simp)); have hB2 := hB1.below b1)
      | (refine list_load_blk_w (by rfl) 26 _ rfl w.heap.size [.int .i64 c.mi, .int .i64 c.mo, .int .i64 c.sh, .int .i64 c.mb, .int .i64 c.mbk, .int .u64 c.secret, .int .i64 c.qg, .int .i64 c.qp, .int .i64 c.qw, .int .i64 c.qt, .int .i64 c.half, .int .i64 c.limit, .int .i64 c.banfor, .int .i64 c.base, .int .i64 c.cap, .int .i64 c.jitter] 26 hB2 rfl Try.underlying26 (by kernel_rfl) ?_)
      | (go_at_call 5; (with_reducible refine (HCR.out _).mono ?_); rintro e w3 ⟨rfl, b3⟩; have B3 := below2 B1 b3)
      | (go_at_call 6; (with_reducible refine (awake37_any _).mono ?_); rintro e w4 ⟨rfl, b4⟩; have B4 := below2 B3 b4))
    go_ret
    exact ⟨rfl, B4⟩
end Go.Proofs.Ytnplgagaoeckoaa
