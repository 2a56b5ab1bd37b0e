/- The contracts of ipv6: what is read. -/
import Derived.Test.YtppmjbnhghaffaaRows
import Derived.Test.YtppmjbnhghaffaaQaaf71emgwmer
import Derived.Test.YtppmjbnhghaffaaQ1e6b38rhxlfp
import Derived.Test.YtppmjbnhghaffaaAppend
import Derived.WalkKit
import Derived.WalkSpells
import Derived.WalkLawsBesides
import Derived.BigGuardPart
import Derived.BigQuiet
import Derived.Deep.QuietTactic
import Derived.Deep.Light
namespace Go.Proofs.Ytppmjbnhghaffaa
open Go.RowKit

def uv (n : Nat) : Value := .int .u16 n
theorem uv_one (l : List Nat) : ∀ u ∈ l.map uv, Value.oneCell' u = true := by
  intro u hu; obtain ⟨n, _, rfl⟩ := List.mem_map.1 hu; rfl
theorem numL_snoc (L : List Nat) (g : Nat) : numL (L ++ [g]) = numL L * 65536 + g := by simp [numL]
theorem reads_new {w : World} {us : List Value} {e : TypeId} (n c : Nat) (hl : us.length = n) (hc : n ≤ c) (hn : n ≤ 1000) (hp : 0 < n) : Reads (w.alloc (.cells us.toArray e)) (.slice (some ⟨w.heap.size, 0, none⟩) n c) n 1 us := by
  refine ⟨by omega, by omega, Or.inr ⟨hp, _, _, _, rfl, hc, by simp, fun j x hx => ?_⟩⟩
  exact (BlockIs.new w us e).cell (by simpa using hx)
theorem empty_data {s : ByteArray} : s.toList.isEmpty = true ↔ s.data.toList = [] := by
  rw [isE, List.isEmpty_iff]
end Go.Proofs.Ytppmjbnhghaffaa
