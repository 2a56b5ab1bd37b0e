/- Texts put together: Ip6W. No condition. -/
import Derived.Test.YtdmobgdgeiiicaaRqpeitfmdrk
import Derived.Test.YtdmobgdgeiiicaaRwzrzvkqbba
import Derived.Test.YtdmobgdgeiiicaaRows
import Derived.WalkKit
import Derived.WalkSpells
import Derived.WalkLawsBesides
import Derived.BigGuardPart
import Derived.BigQuiet
import Derived.Deep.QuietTactic
import Derived.Deep.Light
import Derived.OwnWalk
namespace Go.Proofs.Ytdmobgdgeiiicaa
open Go.RowKit

/-- the groups of an address, of each half the first k -/
def allAt (hi lo k : Nat) : List Nat := (List.range 8).map fun j => if j % 4 < k then (grps hi lo)[j]! else 0
theorem block_set2 {w : World} {B C : Nat} {arr : List Value} {T : TypeId} (h : BlockIs w B arr T) (hc : C ≠ B) {i j : Nat} (u v : Value) : BlockIs ((w.setCell ⟨C, i, none⟩ u).setCell ⟨C, j, none⟩ v) B arr T := (h.other hc u).other hc v
set_option maxRecDepth 100000 in
set_option maxHeartbeats 2000000 in
theorem all_any (hi lo : Nat) (h1 : hi < 18446744073709551616) (h2 : lo < 18446744073709551616) (w : World) :
    Calls Try.prog 105 #[.int .u64 hi, .int .u64 lo] w fun e w' => e = .returned (.agg ((grps hi lo).map uv).toArray) ∧ Below w.heap.size w w' := by
  have a1 : bits .and .u64 ((hi : Int) / 281474976710656) 65535 = (hi : Int) / 281474976710656 % 65536 := by rw [show ((hi : Int) / 281474976710656) = ((hi / 281474976710656 : Nat) : Int) from by omega]; exact and16_u64 _ (by omega)
  have a2 : bits .and .u64 ((hi : Int) / 4294967296) 65535 = (hi : Int) / 4294967296 % 65536 := by rw [show ((hi : Int) / 4294967296) = ((hi / 4294967296 : Nat) : Int) from by omega]; exact and16_u64 _ (by omega)
  have a3 : bits .and .u64 ((hi : Int) / 65536) 65535 = (hi : Int) / 65536 % 65536 := by rw [show ((hi : Int) / 65536) = ((hi / 65536 : Nat) : Int) from by omega]; exact and16_u64 _ (by omega)
  have a4 := and16_u64 hi (by omega)
  have b1 : bits .and .u64 ((lo : Int) / 281474976710656) 65535 = (lo : Int) / 281474976710656 % 65536 := by rw [show ((lo : Int) / 281474976710656) = ((lo / 281474976710656 : Nat) : Int) from by omega]; exact and16_u64 _ (by omega)
  have b2 : bits .and .u64 ((lo : Int) / 4294967296) 65535 = (lo : Int) / 4294967296 % 65536 := by rw [show ((lo : Int) / 4294967296) = ((lo / 4294967296 : Nat) : Int) from by omega]; exact and16_u64 _ (by omega)
  have b3 : bits .and .u64 ((lo : Int) / 65536) 65535 = (lo : Int) / 65536 % 65536 := by rw [show ((lo : Int) / 65536) = ((lo / 65536 : Nat) : Int) from by omega]; exact and16_u64 _ (by omega)
  have b4 := and16_u64 lo (by omega)
  go_enter Try.func105, Try.ntmps105
  go_wp2_with fail
  go_loopw [8] (fun i wr => ∃ (k : Nat), k ≤ 4 ∧ i = .int .i64 k ∧ Below w.heap.size w wr ∧ Hid (BlockIs wr w.heap.size (List.replicate 8 (uv 0)) 126) ∧ Hid (BlockIs wr (w.heap.size + 1) ((allAt hi lo k).map uv) 126)) (fun i _ => (4 - intOf i).toNat)
  case atStart => 
    refine ⟨0, Nat.zero_le _, rfl, ((Below.refl _ _).alloc (Nat.le_refl _) _).alloc (by simp) _, ?_, ?_⟩
    · exact (BlockIs.new w _ _).below ((Below.refl _ _).alloc (Nat.le_refl _) _)
    · have := BlockIs.new (w.alloc (.cells (List.replicate 8 (uv 0)).toArray 126)) ((allAt hi lo 0).map uv) 126
      have e : (w.alloc (.cells (List.replicate 8 (uv 0)).toArray 126)).heap.size = w.heap.size + 1 := by simp
      rw [e] at this; exact this
  case round =>
    obtain ⟨k, hk, rfl, hb, HA, HB⟩ := hrel
    by_cases hk4 : k = 4
    · subst hk4
      have cc : ∀ j v, ((grps hi lo).map uv)[j]? = some v → wr.cell? ⟨w.heap.size + 1, j, none⟩ = some v := fun j v h => HB.out.cell h
      have c0 := cc 0 _ rfl
      have c1 := cc 1 _ rfl
      have c2 := cc 2 _ rfl
      have c3 := cc 3 _ rfl
      have c4 := cc 4 _ rfl
      have c5 := cc 5 _ rfl
      have c6 := cc 6 _ rfl
      have c7 := cc 7 _ rfl
      have ff := HA.out.frozen
      have dd : ∀ j, j < 8 → wr.cell? ⟨w.heap.size, j, none⟩ = some (uv 0) := fun j h => HA.out.cell (by rw [List.getElem?_replicate, if_pos h])
      have f0 := ff 0; have f1 := ff 1; have f2 := ff 2; have f3 := ff 3; have f4 := ff 4; have f5 := ff 5; have f6 := ff 6; have f7 := ff 7
      have d0 := dd 0 (by omega); have d1 := dd 1 (by omega); have d2 := dd 2 (by omega); have d3 := dd 3 (by omega); have d4 := dd 4 (by omega); have d5 := dd 5 (by omega); have d6 := dd 6 (by omega); have d7 := dd 7 (by omega)
      simp only [uv] at c0 c1 c2 c3 c4 c5 c6 c7
      clear cc dd ff a1 a2 a3 a4 b1 b2 b3 b4
      go_wp2_with fail
      have HF := (((((((HA.out.set 0 (.int .u16 ((hi : Int) / 281474976710656))).set 1 (.int .u16 ((hi : Int) / 4294967296 % 65536))).set 2 (.int .u16 ((hi : Int) / 65536 % 65536))).set 3 (.int .u16 ((hi : Int) % 65536))).set 4 (.int .u16 ((lo : Int) / 281474976710656))).set 5 (.int .u16 ((lo : Int) / 4294967296 % 65536))).set 6 (.int .u16 ((lo : Int) / 65536 % 65536))).set 7 (.int .u16 ((lo : Int) % 65536))
      try simp only [Exit.inBlock, Exit.then]
      refine bodyPost_ret (results_cell rfl rfl (HF.load Try.underlying126 (by kernel_rfl))) rfl ⟨ret_of ?_, ?_⟩
      · rfl
      · exact (((((((hb.setCell (Nat.le_refl _) _).setCell (Nat.le_refl _) _).setCell (Nat.le_refl _) _).setCell (Nat.le_refl _) _).setCell (Nat.le_refl _) _).setCell (Nat.le_refl _) _).setCell (Nat.le_refl _) _).setCell (Nat.le_refl _) _
    · have HN := Lib.hid hb
      rcases (by omega : k = 0 ∨ k = 1 ∨ k = 2 ∨ k = 3) with rfl | rfl | rfl | rfl
      · have c0 := HB.out.cell (i := 0) rfl
        have c1 := HB.out.cell (i := 4) rfl
        have f0 := HB.out.frozen 0
        have f1 := HB.out.frozen 4
        have hlt := HB.out.lt
        go_wp2_with fail
        refine ⟨⟨1, by omega, rfl, (hb.setCell (by simp) _).setCell (by simp) _, block_set2 HA.out (by omega) _ _, ?_⟩, by simp [intOf]⟩
        have e1 : Value.int .u16 ((hi : Int) / 281474976710656 % 65536) = uv (hi / 281474976710656) := by unfold uv; congr 1 <;> omega
        have e2 : Value.int .u16 ((lo : Int) / 281474976710656 % 65536) = uv (lo / 281474976710656) := by unfold uv; congr 1 <;> omega
        rw [e1, e2]
        exact (HB.out.set 0 _).set 4 _
      · have c0 := HB.out.cell (i := 1) rfl
        have c1 := HB.out.cell (i := 5) rfl
        have f0 := HB.out.frozen 1
        have f1 := HB.out.frozen 5
        have hlt := HB.out.lt
        go_wp2_with fail
        refine ⟨⟨2, by omega, rfl, (hb.setCell (by simp) _).setCell (by simp) _, block_set2 HA.out (by omega) _ _, ?_⟩, by simp [intOf]⟩
        have e1 : Value.int .u16 ((hi : Int) / 4294967296 % 65536) = uv (hi / 4294967296 % 65536) := by unfold uv; congr 1 <;> omega
        have e2 : Value.int .u16 ((lo : Int) / 4294967296 % 65536) = uv (lo / 4294967296 % 65536) := by unfold uv; congr 1 <;> omega
        rw [e1, e2]
        exact (HB.out.set 1 _).set 5 _
      · have c0 := HB.out.cell (i := 2) rfl
        have c1 := HB.out.cell (i := 6) rfl
        have f0 := HB.out.frozen 2
        have f1 := HB.out.frozen 6
        have hlt := HB.out.lt
        go_wp2_with fail
        refine ⟨⟨3, by omega, rfl, (hb.setCell (by simp) _).setCell (by simp) _, block_set2 HA.out (by omega) _ _, ?_⟩, by simp [intOf]⟩
        have e1 : Value.int .u16 ((hi : Int) / 65536 % 65536) = uv (hi / 65536 % 65536) := by unfold uv; congr 1 <;> omega
        have e2 : Value.int .u16 ((lo : Int) / 65536 % 65536) = uv (lo / 65536 % 65536) := by unfold uv; congr 1 <;> omega
        rw [e1, e2]
        exact (HB.out.set 2 _).set 6 _
      · have c0 := HB.out.cell (i := 3) rfl
        have c1 := HB.out.cell (i := 7) rfl
        have f0 := HB.out.frozen 3
        have f1 := HB.out.frozen 7
        have hlt := HB.out.lt
        go_wp2_with fail
        refine ⟨⟨4, by omega, rfl, (hb.setCell (by simp) _).setCell (by simp) _, block_set2 HA.out (by omega) _ _, ?_⟩, by simp [intOf]⟩
        have e1 : Value.int .u16 ((hi : Int) % 65536) = uv (hi % 65536) := by unfold uv; congr 1 <;> omega
        have e2 : Value.int .u16 ((lo : Int) % 65536) = uv (lo % 65536) := by unfold uv; congr 1 <;> omega
        rw [e1, e2]
        exact (HB.out.set 3 _).set 7 _
end Go.Proofs.Ytdmobgdgeiiicaa
