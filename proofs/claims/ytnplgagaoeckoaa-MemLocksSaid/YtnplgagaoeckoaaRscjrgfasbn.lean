/- Texts put together: MmOff. No condition. -/
import Derived.Test.YtnplgagaoeckoaaRchengnhqpl
import Derived.Test.YtnplgagaoeckoaaRkcsqxcispm
import Derived.Test.YtnplgagaoeckoaaRtnelbysrnq
import Derived.Test.YtnplgagaoeckoaaRzwzvmmokfn
namespace Go.Proofs.Ytnplgagaoeckoaa
open Go.RowKit

/-- W keeps all of w's blocks but those of X -/
def KeepOff (X : Nat → Prop) (w W : World) : Prop := ∀ b arr T, ¬ X b → BlockIs w b arr T → BlockIs W b arr T
theorem KeepOff.refl (X : Nat → Prop) (w : World) : KeepOff X w w := fun _ _ _ _ h => h
theorem KeepOff.trans {X : Nat → Prop} {w w1 w2 : World} (h1 : KeepOff X w w1) (h2 : KeepOff X w1 w2) : KeepOff X w w2 := fun b arr T h hb => h2 b arr T h (h1 b arr T h hb)
theorem KeepOff.below {X : Nat → Prop} {w w' : World} (h : Below w.heap.size w w') : KeepOff X w w' := fun _ _ _ _ hb => hb.below h
/-- P holds in every world that keeps w's blocks but those of X -/
def HoldOff (X : Nat → Prop) (w : World) (P : World → Prop) : Prop := ∀ W, KeepOff X w W → P W
theorem HoldOff.now {X : Nat → Prop} {w : World} {P : World → Prop} (h : HoldOff X w P) : P w := h w (KeepOff.refl _ _)
theorem HoldOff.step {X : Nat → Prop} {w w' : World} {P : World → Prop} (h : HoldOff X w P) (hk : KeepOff X w w') : HoldOff X w' P := fun W hW => h W (hk.trans hW)
theorem HoldOff.below {X : Nat → Prop} {w w' : World} {P : World → Prop} (h : HoldOff X w P) (hb : Below w.heap.size w w') : HoldOff X w' P := h.step (KeepOff.below hb)
theorem HoldOff.grows (X : Nat → Prop) (w : World) : Grows (KeepOff X w) := fun _ _ h hb => h.trans (KeepOff.below hb)
/-- what a call made holds off boxes that lie below it -/
theorem HoldOff.firm {X : Nat → Prop} {w w' : World} {P : World → Prop} (h : Firm (KeepOff X w) w.heap.size w' P) (hX : ∀ b, X b → b < w.heap.size) (hb : Below w.heap.size w w') : HoldOff X w' P := fun W hW =>
  h W ((KeepOff.below hb).trans hW) fun b arr T hB hh => hW b arr T (fun hx => Nat.lt_irrefl _ (Nat.lt_of_lt_of_le (hX b hx) hB)) hh
/-- what is new holds off boxes that are old, or that come later -/
theorem HoldOff.new {X : Nat → Prop} {w w' : World} {P : World → Prop} (h : ∀ W, (∀ b arr T, w.heap.size ≤ b → BlockIs w' b arr T → BlockIs W b arr T) → P W) (hX : ∀ b, X b → b < w.heap.size ∨ w'.heap.size ≤ b) : HoldOff X w' P := fun W hW =>
  h W fun b arr T hB hh => hW b arr T (fun hx => by have := hh.lt; rcases hX b hx with h | h <;> omega) hh
theorem keep_alloc {X : Nat → Prop} (w : World) (o : Obj) : KeepOff X w (w.alloc o) := KeepOff.below ((Below.refl _ _).alloc (Nat.le_refl _) _)

theorem doOk_of {m : Mm} {N : Nat} (h : SmallP m.pl N) (hN : N ≤ 1000) (hl : LocksOk m.pl) : DoOk m := by
  obtain ⟨h1, h2, h3, h4, h5, h6, h7⟩ := h
  have e1 : m.pl.parts.length = m.parts.2.length := by unfold Mm.pl; simp
  have e2 : m.pl.locks.length = m.locks.2.length := by unfold Mm.pl; simp
  have b1 : m.pl.bans = m.bans.2 := rfl
  have b2 : m.pl.book = m.book.2 := rfl
  rw [b1] at h1; rw [b2] at h2
  refine ⟨by omega, by omega, fun k hk => ?_, fun s hs => ?_, by omega, by omega⟩
  · have hm : (k.b, k.l) ∈ m.pl.locks := List.mem_map.2 ⟨k, hk, rfl⟩
    exact ⟨Nat.le_trans (h7 _ hm) (by omega), (hl _ hm).2⟩
  · have hm : (s.size, s.l) ∈ m.pl.parts := List.mem_map.2 ⟨s, hs, rfl⟩
    exact Nat.le_trans (h5 _ hm) (by omega)
theorem newP_small (secret : Nat) (sh : Int) (bl : List Ba) (kl : List Ey) (pl : List Pe) (hb : bl.length ≤ 20) (hk : kl.length ≤ 20) (hp : pl.length ≤ 20) : SmallP (newP secret sh bl kl pl) 20 := by
  have := partsN_in sh
  refine ⟨hb, hk, ?_, ?_, fun p hp' => ?_, ?_, fun k hk' => ?_⟩
  · show 1 ≤ (List.map _ (List.range (partsN sh))).length; rw [List.length_map, List.length_range]; omega
  · show (List.map _ (List.range (partsN sh))).length ≤ 8; rw [List.length_map, List.length_range]; omega
  · obtain ⟨i, _, rfl⟩ := List.mem_map.1 hp'
    exact Nat.le_trans (partL_len _ _ _ _) hp
  · show (List.replicate _ _).length = (List.map _ (List.range (partsN sh))).length + 2; rw [List.length_map, List.length_range, List.length_replicate]
  · rw [List.eq_of_mem_replicate hk']; exact Nat.zero_le _
theorem newP_locks (secret : Nat) (sh : Int) (bl : List Ba) (kl : List Ey) (pl : List Pe) : LocksOk (newP secret sh bl kl pl) := fun k hk => by
  rw [List.eq_of_mem_replicate hk]; exact ⟨Or.inl rfl, List.Pairwise.nil⟩
theorem memDo_off (X : Nat → Prop) (m : Mm) (o : Oq) (who : Int) (w : World) (hX : ∀ b, X b → b < w.heap.size) (hm : HoldOff X w fun W => MmAt W m) (ho : OqAt w o) (hwho : 0 ≤ who ∧ who ≤ 100) (hd : DoOk m) (hob : o.bans.2.length ≤ 1000) (hok : o.book.2.length ≤ 1000) :
    Calls Try.prog 10 #[.agg #[.int .i64 m.inn, .int .i64 m.out, m.bans.1, m.book.1, m.parts.1, m.locks.1], .agg #[.int .i64 o.kind, .int .i64 o.lock, .int .i64 o.lk, .int .i64 o.ls, .int .i64 o.lt, .int .i64 o.old, .int .i64 o.new, .int .i64 o.vn, .bool o.pe.en.ad.v6, .int .u64 o.pe.en.ad.hi, .int .u64 o.pe.en.ad.lo, .int .i64 o.pe.en.port, .bool o.pe.came, .int .i64 o.pe.since, .int .i64 o.pe.pts, .int .i64 o.pe.at_, .int .i64 o.pe.ping, .int .i64 o.pe.work, o.bans.1, o.book.1, .bool o.mark], .int .i64 who] w fun e w' => ∃ (m' : Mm) (v' : Vm), e = .returned (.tuple #[.agg #[.int .i64 (m').inn, .int .i64 (m').out, (m').bans.1, (m').book.1, (m').parts.1, (m').locks.1], .agg #[.int .i64 (v').n, .bool (v').pe.en.ad.v6, .int .u64 (v').pe.en.ad.hi, .int .u64 (v').pe.en.ad.lo, .int .i64 (v').pe.en.port, .bool (v').pe.came, .int .i64 (v').pe.since, .int .i64 (v').pe.pts, .int .i64 (v').pe.at_, .int .i64 (v').pe.ping, .int .i64 (v').pe.work, (v').bans.1, (v').book.1]]) ∧ HoldOff X w' (fun W => MmAt W m') ∧ HoldOff X w' (fun W => VmAt W v') ∧ m'.pl = (doP m.pl o who).1 ∧ v'.pl = (doP m.pl o who).2 ∧ Below w.heap.size w w' :=
  (memDo_any (KeepOff X w) (HoldOff.grows X w) w.heap.size m o who w (KeepOff.refl _ _) (Nat.le_refl _) hm ho hwho hd hob hok).mono fun e w' h => by
    obtain ⟨m', v', e1, h1, h2, h3, h4, h5⟩ := h
    exact ⟨m', v', e1, HoldOff.firm h1 hX h5, HoldOff.firm h2 hX h5, h3, h4, h5⟩
end Go.Proofs.Ytnplgagaoeckoaa
