/- Texts put together: Ip6Full, Ip6G, Ip6H. No condition. -/
import Derived.Test.YtppmjbnhghaffaaRows
import Derived.Test.YtppmjbnhghaffaaQ998ff4zcrunv
import Derived.WalkKit
import Derived.WalkSpells
import Derived.WalkLawsBesides
import Derived.BigGuardPart
import Derived.BigQuiet
import Derived.Deep.QuietTactic
import Derived.Deep.Light
import Derived.OwnWalk
import Derived.Laws.OwnMore
import Derived.StillTailTactics
import Derived.BigRegion
import Derived.Handy
/- The contracts of ipv6: the reference reads. -/
namespace Go.Proofs.Ytppmjbnhghaffaa
open Go.RowKit


def iv (n : Nat) : Value := .int .i64 n
theorem intRow : RowT Try.prog 72 3 1 8 := RowT.mk (.int .i64 0) Try.underlying72 (by kernel_rfl) rfl (by omega)
def FullAt (W : World) (L : List (List UInt8)) (k : Nat) (v : Value) (wr : World) : Prop :=
  ∃ a : List Nat, k ≤ a.length ∧ (a.length = k ∨ (a.length = k + 1 ∧ k = L.length)) ∧ (∀ x ∈ a, x < 65536) ∧ fullP (L.drop k) a = fullP L [] ∧ wr.ownsRow W.heap.size 3 1 v a.length (a.map iv)
theorem mem_snoc {a : List Nat} {n : Nat} (h : ∀ x ∈ a, x < 65536) (hn : n < 65536) : ∀ x ∈ a ++ [n], x < 65536 := by
  intro x hx; rcases List.mem_append.1 hx with h1 | h1
  · exact h x h1
  · simp at h1; omega
end Go.Proofs.Ytppmjbnhghaffaa
/- The contracts of ipv6's reference: Full, Text. -/
namespace Go.Proofs.Ytppmjbnhghaffaa
open Go.RowKit

theorem hexT (n : Nat) (h : n < 65536) : hexText (n : Int) = hexs n := by
  unfold hexText; rw [if_neg (by omega), Int.toNat_natCast]
theorem hexJ_one (n : Nat) : hexJ [n] = hexs n := joinL_one 58 (hexs n)
theorem hexJ_snoc (L : List Nat) (n : Nat) (h : L ≠ []) : hexJ (L ++ [n]) = hexJ L ++ 58 :: hexs n := by
  unfold hexJ; rw [List.map_append, List.map_cons, List.map_nil, joinL_snoc _ _ _ (by simpa using h)]
end Go.Proofs.Ytppmjbnhghaffaa
/- The contracts of ipv6's reference: Text. -/
namespace Go.Proofs.Ytppmjbnhghaffaa
open Go.RowKit

theorem runK_eq (g : List Nat) (k : Nat) (h : (runK g k).1 = (runK g k).2) : (runK g k).1 = 0 := by
  induction k with
  | zero => rfl
  | succ k ih =>
    rw [runK_succ] at *
    unfold runStep at *
    split at h
    · simp at h; omega
    · rename_i hc; rw [if_neg hc]; exact ih h
theorem str_last (r : List UInt8) (y : UInt8) : ∃ sb : ByteArray, sb = bs (r ++ [y]) ∧ sb.size = r.length + 1 ∧ sb.toList.isEmpty = false ∧ ∀ h : r.length < sb.size, sb[r.length]'h = y := by
  have hs : (bs (r ++ [y])).size = r.length + 1 := by rw [bs_size, List.length_append]; rfl
  refine ⟨_, rfl, hs, by rw [isE, bs_data]; simp, fun h => ?_⟩
  have := get_data (bs (r ++ [y])) r.length h
  rw [bs_data] at this
  simp at this
  exact this.symm
/-- the text so far, at group i -/
def TxAt (g : List Nat) (f t : Nat) (gap : Bool) (i : Nat) (s : List UInt8) : Prop :=
  ((gap = false ∨ i ≤ f) ∧ s = hexJ (g.take i)) ∨ (gap = true ∧ t ≤ i ∧ s = hexJ (g.take f) ++ ([58, 58] ++ hexJ ((g.take i).drop t)))
theorem hexJ_last (L : List Nat) : (hexJ L).getLast? ≠ some 58 := (joinL_nogap _ (hexJ_ok L)).2.2
theorem hexs_pos (x : Nat) : hexs x ≠ [] := by have := hexs_ne x; intro h; rw [h] at this; simp at this
theorem tx_step {g : List Nat} {f t : Nat} {gap : Bool} {i x : Nat} {s : List UInt8} (h : TxAt g f t gap i s) (hx : g[i]? = some x) (hi : i < 8) (hf : ¬ (gap = true ∧ i = f)) (ht : t ≤ 8) (hft : f ≤ t) (h8 : g.length = 8) :
    (s = [] ∧ TxAt g f t gap (i + 1) (hexs x)) ∨ (∃ y r, s = r ++ [y] ∧ y = 58 ∧ TxAt g f t gap (i + 1) (s ++ hexs x)) ∨ (∃ y r, s = r ++ [y] ∧ y ≠ 58 ∧ TxAt g f t gap (i + 1) (s ++ [58] ++ hexs x)) := by
  have hs : g.take (i + 1) = g.take i ++ [x] := by rw [List.take_add_one, hx]; rfl
  rcases h with ⟨h1, rfl⟩ | ⟨h1, h2, rfl⟩
  · have h1' : gap = false ∨ i + 1 ≤ f := by
      rcases h1 with h | h
      · exact Or.inl h
      · cases gap
        · exact Or.inl rfl
        · exact Or.inr (by have : i ≠ f := fun e => hf ⟨rfl, e⟩; omega)
    by_cases h0 : i = 0
    · subst h0
      refine Or.inl ⟨rfl, Or.inl ⟨h1', ?_⟩⟩
      rw [hs]; simp [hexJ_one]
    · have hne : g.take i ≠ [] := by intro e; have := congrArg List.length e; rw [List.length_take, h8] at this; simp at this; omega
      have hl := hexJ_last (g.take i)
      have hp := hexJ_pos _ hne
      obtain ⟨y, r, e⟩ : ∃ y r, hexJ (g.take i) = r ++ [y] := ⟨_, _, (List.dropLast_concat_getLast (by intro e; rw [e] at hp; simp at hp)).symm⟩
      refine Or.inr (Or.inr ⟨y, r, e, fun hy => hl (by rw [e, hy]; simp), Or.inl ⟨h1', ?_⟩⟩)
      rw [hs, hexJ_snoc _ _ hne]; simp
  · have hd : (g.take (i + 1)).drop t = (g.take i).drop t ++ [x] := by rw [hs, List.drop_append_of_le_length (by rw [List.length_take, h8]; omega)]
    by_cases h0 : i = t
    · subst h0
      have e0 : (g.take i).drop i = [] := List.drop_eq_nil_of_le (by rw [List.length_take]; omega)
      refine Or.inr (Or.inl ⟨58, hexJ (g.take f) ++ [58], ?_, rfl, Or.inr ⟨h1, by omega, ?_⟩⟩)
      · rw [e0]; show hexJ (g.take f) ++ ([58, 58] ++ []) = _; simp
      · rw [hd, e0]; show hexJ (g.take f) ++ ([58, 58] ++ []) ++ hexs x = _; simp [hexJ_one]
    · have hne : (g.take i).drop t ≠ [] := by intro e; have := congrArg List.length e; rw [List.length_drop, List.length_take, h8] at this; simp at this; omega
      have hl := hexJ_last ((g.take i).drop t)
      have hp := hexJ_pos _ hne
      obtain ⟨y, r, e⟩ : ∃ y r, hexJ ((g.take i).drop t) = r ++ [y] := ⟨_, _, (List.dropLast_concat_getLast (by intro e; rw [e] at hp; simp at hp)).symm⟩
      refine Or.inr (Or.inr ⟨y, hexJ (g.take f) ++ ([58, 58] ++ r), by rw [e]; simp, fun hy => hl (by rw [e, hy]; simp), Or.inr ⟨h1, by omega, ?_⟩⟩)
      rw [hd, hexJ_snoc _ _ hne]; simp
theorem tx_gap {g : List Nat} {f t : Nat} {s : List UInt8} (h : TxAt g f t true f s) (hft : f < t) (h8 : g.length = 8) (ht : t ≤ 8) : TxAt g f t true t (s ++ [58, 58]) := by
  rcases h with ⟨_, rfl⟩ | ⟨_, h2, _⟩
  · refine Or.inr ⟨rfl, Nat.le_refl _, ?_⟩
    have e0 : (g.take t).drop t = [] := List.drop_eq_nil_of_le (by rw [List.length_take]; omega)
    rw [e0]; show _ = hexJ (g.take f) ++ ([58, 58] ++ []); simp
  · omega
theorem tx_end {g : List Nat} {gap : Bool} {s : List UInt8} (hgap : gap = decide (2 ≤ (runL g).2 - (runL g).1)) (h : TxAt g (runL g).1 (runL g).2 gap 8 s) (h8 : g.length = 8) (hf : gap = true → (runL g).1 < 8) : s = textG g (runL g) := by
  have e8 : g.take 8 = g := List.take_of_length_le (by omega)
  unfold textG
  rcases h with ⟨h1, rfl⟩ | ⟨h1, h2, rfl⟩
  · rw [e8]
    rcases h1 with h1 | h1
    · rw [if_pos]
      rw [h1] at hgap
      have := of_decide_eq_false hgap.symm
      omega
    · rw [if_pos]
      cases gap
      · have := of_decide_eq_false hgap.symm; omega
      · have := hf rfl; omega
  · rw [h1] at hgap
    have := of_decide_eq_true hgap.symm
    rw [if_neg (by omega), e8]
theorem at_end (g : List Nat) (h8 : g.length = 8) : (atK g 8 = -1 ∧ ¬ 2 ≤ (runL g).2 - (runL g).1) ∨ (atK g 8 = ((runL g).1 : Int) ∧ 2 ≤ (runL g).2 - (runL g).1 ∧ (runL g).1 < 8 ∧ (runL g).2 ≤ 8 ∧ (runL g).2 = (runL g).1 + zc (g.drop (runL g).1)) := by
  have h := atK_run g 8
  have e : runK g 8 = runL g := rfl
  have hk := runK_ok g 8
  rw [e] at h hk
  by_cases hc : (runL g).2 - (runL g).1 < 2
  · rw [if_pos hc] at h; exact Or.inl ⟨h, by omega⟩
  · rw [if_neg hc] at h
    obtain ⟨a, b, c⟩ := hk
    have hne : ¬ (runL g).1 = (runL g).2 := by omega
    rw [if_neg hne] at c
    have h2 := (run_mid g h8 (by omega)).1
    exact Or.inr ⟨h, by omega, by rcases b with b | b <;> omega, h2, c⟩
theorem atK_bd (g : List Nat) (k : Nat) : -1 ≤ atK g k ∧ (atK g k < k ∨ atK g k = -1) := by
  rw [atK_run]
  have := runK_ok g k
  split
  · exact ⟨by omega, Or.inr rfl⟩
  · obtain ⟨_, b, _⟩ := this; exact ⟨by omega, Or.inl (by omega)⟩
end Go.Proofs.Ytppmjbnhghaffaa
