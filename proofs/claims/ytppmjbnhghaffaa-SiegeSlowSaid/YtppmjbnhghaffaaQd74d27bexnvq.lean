/- Texts put together: Ip6S, Ip6W, Ip6R. No condition. -/
import Derived.Test.YtppmjbnhghaffaaRows
import Derived.Test.YtppmjbnhghaffaaQaaf71emgwmer
import Derived.Test.YtppmjbnhghaffaaQ1e6b38rhxlfp
import Derived.Test.YtppmjbnhghaffaaAppend
import Derived.Test.YtppmjbnhghaffaaIp6
import Derived.WalkKit
import Derived.WalkSpells
import Derived.WalkLawsBesides
import Derived.BigGuardPart
import Derived.BigQuiet
import Derived.Deep.QuietTactic
import Derived.Deep.Light
import Derived.OwnWalk
import Derived.Test.YtppmjbnhghaffaaCells
/- The contracts of ipv6: the texts that are read. -/
namespace Go.Proofs.Ytppmjbnhghaffaa
open Go.RowKit


/-- what a search for a text asks of the world -/
def Cpu (w : World) : Prop := ∃ m, w.cell? ⟨0, 0, none⟩ = some (.int .i64 m)
theorem Cpu.below {w w' : World} (h : Cpu w) (hb : Below w.heap.size w w') : Cpu w' := by
  obtain ⟨m, hm⟩ := h
  have : 0 < w.heap.size := World.block_lt_of_cell? w ⟨0, 0, none⟩ hm
  exact ⟨m, keep hb this hm⟩
theorem fourP_le {may : Bool} {L : List (List UInt8)} {a g : List Nat} (h : fourP may L a = some g) (ha : a.length ≤ 8) : g.length ≤ 10 := by
  induction L generalizing a with
  | nil => simp [fourP] at h; subst h; omega
  | cons p r ih =>
    unfold fourP at h
    split at h
    · simp at h; subst h; simp; omega
    · split at h
      · cases h
      · rename_i h2
        exact ih h (by simp; omega)
theorem fourL_le {may : Bool} {l : List UInt8} {g : List Nat} (h : fourL may l = some g) : g.length ≤ 10 := by
  unfold fourL at h
  split at h
  · cases h; simp
  · exact fourP_le h (by simp)
/-- a row made behind another one reads as it did when that one has grown -/
theorem kept_reads {w w1 w2 w3 : World} {e : TypeId} {size n m : Nat} {v u : Value} {xs ys : List Value} (h1 : w1.ownsRow w.heap.size e size v n xs) (h2 : w2.ownsRow w1.heap.size e size u m ys) (_hb : Below w1.heap.size w1 w2) (_hz : w.heap.size ≤ w1.heap.size) (hg : w2.grownBy w3 v.ownBlock) : Reads w3 u m size ys := by
  refine owns_reads (h2.kept hg ?_)
  cases hu : u.ownBlock with
  | none => exact Or.inl rfl
  | some k =>
    refine Or.inr fun hk => ?_
    have a := (h2.lt k hu).1
    have b := (h1.lt k hk.symm).2
    omega
theorem owns_at {w : World} {base n size : Nat} {e : TypeId} {v : Value} {xs : List Value} (hn : 0 < n) (h : w.ownsRow base e size v n xs) : ∃ b c, (n ≤ c ∧ c ≤ 9223372036854775807) ∧ v = .slice (some ⟨b, 0, none⟩) n c := by
  rcases h.2 with ⟨rfl, h0⟩ | ⟨g, cap, cur, rfl, _, _, hc, hm, _⟩
  · omega
  · exact ⟨g, cap, ⟨hc, by unfold maxLen at hm; omega⟩, rfl⟩
theorem Reads.take {w : World} {v : Value} {n : Nat} {xs : List Value} {k : Nat} {a : Option Addr} {c c' : Nat} (h : Reads w v n 1 xs) (hv : v = .slice a n c) (hk : k ≤ n) : Reads w (.slice a k c') k 1 (xs.take k) ∨ c' < k := by
  obtain ⟨h1, h2, h3⟩ := h
  by_cases hc : c' < k
  · exact Or.inr hc
  · refine Or.inl ⟨by simp; omega, by omega, ?_⟩
    rcases h3 with ⟨h0, a', c2, hv'⟩ | ⟨hp, b, o, c2, hv', hc2, hlt, hx⟩
    · exact Or.inl ⟨by omega, a, c', by rw [show k = 0 from by omega]⟩
    · rw [hv] at hv'; cases hv'
      by_cases h0 : k = 0
      · subst h0; exact Or.inl ⟨rfl, _, _, rfl⟩
      · refine Or.inr ⟨by omega, b, o, c', rfl, by omega, hlt, fun j x hj => hx j x ?_⟩
        rw [List.getElem?_take] at hj; split at hj
        · exact hj
        · cases hj
theorem Reads.drop {w : World} {b o n c : Nat} {xs : List Value} {k : Nat} {c' : Nat} (h : Reads w (.slice (some ⟨b, o, none⟩) n c) n 1 xs) (hk : k ≤ n) (hc : n - k ≤ c') : Reads w (.slice (some ⟨b, o + k, none⟩) (n - k) c') (n - k) 1 (xs.drop k) := by
  obtain ⟨h1, h2, h3⟩ := h
  refine ⟨by clear h3; rw [List.length_drop, h1]; omega, by omega, ?_⟩
  by_cases h0 : n - k = 0
  · rw [h0]; exact Or.inl ⟨rfl, _, _, rfl⟩
  · rcases h3 with ⟨h0, a', c2, hv'⟩ | ⟨hp, b', o', c2, hv', hc2, hlt, hx⟩
    · omega
    · cases hv'
      refine Or.inr ⟨by omega, b, o + k, c', rfl, hc, hlt, fun j x hj => ?_⟩
      rw [Nat.add_assoc]
      exact hx (k + j) x (by rw [List.getElem?_drop] at hj; exact hj)
theorem ret_nnb {k : IntKind} {a b c d : Int} {x y : Bool} (h : a = b) (h2 : c = d) (g : x = y) : Ending.returned (.tuple #[.int k a, .int k c, .bool x]) = .returned (.tuple #[.int k b, .int k d, .bool y]) := by rw [h, h2, g]
end Go.Proofs.Ytppmjbnhghaffaa
/- The contracts of ipv6: what is written. -/
namespace Go.Proofs.Ytppmjbnhghaffaa
open Go.RowKit

/-- the groups of an address, of each half the first k -/
def allAt (hi lo k : Nat) : List Nat := (List.range 8).map fun j => if j % 4 < k then (grps hi lo)[j]! else 0
theorem block_set2 {w : World} {B C : Nat} {arr : List Value} {T : TypeId} (h : BlockIs w B arr T) (hc : C ≠ B) {i j : Nat} (u v : Value) : BlockIs ((w.setCell ⟨C, i, none⟩ u).setCell ⟨C, j, none⟩ v) B arr T := (h.other hc u).other hc v
theorem allAt_zero (hi lo : Nat) : allAt hi lo 0 = List.replicate 8 0 := rfl
theorem allAt_four (hi lo : Nat) : allAt hi lo 4 = grps hi lo := rfl
end Go.Proofs.Ytppmjbnhghaffaa
/- The contracts of ipv6: the longest run of zeros, parts, texts. -/
namespace Go.Proofs.Ytppmjbnhghaffaa
open Go.RowKit

theorem zc_drop {g : List Nat} {j : Nat} (h : j < g.length) : zc (g.drop j) = if g.getD j 0 = 0 then zc (g.drop (j + 1)) + 1 else 0 := by
  rw [List.drop_eq_getElem_cons h, show g.getD j 0 = g[j] from by simp [List.getD, h]]; rfl
theorem runK_le (g : List Nat) (h8 : g.length = 8) (k : Nat) : (runK g k).2 ≤ 8 := by
  induction k with
  | zero => exact Nat.zero_le _
  | succ k ih =>
    rw [runK_succ]; unfold runStep
    split
    · rename_i h
      have := zc_le (g.drop k)
      rw [List.length_drop, h8] at this
      simp only; omega
    · exact ih
theorem ret_nn {k : IntKind} {a b c d : Int} (h : a = b) (h2 : c = d) : Ending.returned (.tuple #[.int k a, .int k c]) = .returned (.tuple #[.int k b, .int k d]) := by rw [h, h2]
end Go.Proofs.Ytppmjbnhghaffaa
