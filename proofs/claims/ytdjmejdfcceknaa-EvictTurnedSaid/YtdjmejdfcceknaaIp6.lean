/- The contracts of ipv6: what is read. -/
import Derived.Test.YtdjmejdfcceknaaRows
import Derived.Test.YtdjmejdfcceknaaQ1dc0aakaajas
import Derived.Test.YtdjmejdfcceknaaQ1e6b38soodjk
import Derived.Test.YtdjmejdfcceknaaAppend
import Derived.WalkKit
import Derived.WalkSpells
import Derived.WalkLawsBesides
import Derived.BigGuardPart
import Derived.BigQuiet
import Derived.Deep.QuietTactic
import Derived.Deep.Light
namespace Go.Proofs.Ytdjmejdfcceknaa
open Go.RowKit

def uv (n : Nat) : Value := .int .u16 n
theorem u16Row : RowT Try.prog 151 145 1 2 := RowT.mk (.int .u16 0) Try.underlying151 (by kernel_rfl) rfl (by omega)
theorem uv_one (l : List Nat) : ∀ u ∈ l.map uv, Value.oneCell' u = true := by
  intro u hu; obtain ⟨n, _, rfl⟩ := List.mem_map.1 hu; rfl
theorem numL_snoc (L : List Nat) (g : Nat) : numL (L ++ [g]) = numL L * 65536 + g := by simp [numL]
/-- groups, if there are such -/
def GivesU16 (W : World) (r : Option (List Nat)) (en : Ending) (w' : World) : Prop :=
  ∃ v, en = .returned (.tuple #[v, .bool r.isSome]) ∧ w'.ownsRow W.heap.size 145 1 v (r.getD []).length ((r.getD []).map uv) ∧ Below W.heap.size W w'
theorem gives16 {W w' : World} {r : Option (List Nat)} {l : List Nat} {v : Value} (h : r = some l) (ho : w'.ownsRow W.heap.size 145 1 v l.length (l.map uv)) (hb : Below W.heap.size W w') : GivesU16 W r (.returned (.tuple #[v, .bool true])) w' := by
  subst h; exact ⟨v, rfl, ho, hb⟩
theorem gives16_none {W w' : World} {r : Option (List Nat)} (h : r = none) (hb : Below W.heap.size W w') : GivesU16 W r (.returned (.tuple #[.slice none 0 0, .bool false])) w' := by
  subst h; exact ⟨_, rfl, World.ownsRow_nil _ _ _ _, hb⟩
theorem reads_new {w : World} {us : List Value} {e : TypeId} (n c : Nat) (hl : us.length = n) (hc : n ≤ c) (hn : n ≤ 1000) (hp : 0 < n) : Reads (w.alloc (.cells us.toArray e)) (.slice (some ⟨w.heap.size, 0, none⟩) n c) n 1 us := by
  refine ⟨by omega, by omega, Or.inr ⟨hp, _, _, _, rfl, hc, by simp, fun j x hx => ?_⟩⟩
  exact (BlockIs.new w us e).cell (by simpa using hx)
theorem empty_data {s : ByteArray} : s.toList.isEmpty = true ↔ s.data.toList = [] := by
  rw [isE, List.isEmpty_iff]
/-- what is gathered by place k -/
def FourAt (W : World) (may : Bool) (S : List (List UInt8)) (k : Nat) (v : Value) (wr : World) : Prop :=
  ∃ a : List Nat, a.length ≤ 8 ∧ fourP may (S.drop k) a = fourP may S [] ∧ wr.ownsRow W.heap.size 145 1 v a.length (a.map uv)
end Go.Proofs.Ytdjmejdfcceknaa
