/- Texts put together: TabJ. No condition. -/
import Derived.Test.YtppmjbnhghaffaaRjbbtbylgcx
namespace Go.Proofs.Ytppmjbnhghaffaa
open Go.RowKit Go.Lib

theorem putT_len (l : List Pe) (p : Pe) : (putT l p).length = l.length + 1 := by
  unfold putT insL
  simp only [List.length_append, List.length_take, List.length_cons, List.length_drop]
  omega
/-- peers put one by one -/
def pstL (l : List Pe) : List Pe := l.foldl putT []
theorem pst_len : ∀ (l a : List Pe), (l.foldl putT a).length = a.length + l.length
  | [], a => rfl
  | p :: r, a => by rw [List.foldl_cons, pst_len r, putT_len, List.length_cons]; omega
theorem pstL_len (l : List Pe) : (pstL l).length = l.length := by unfold pstL; rw [pst_len]; simp
theorem pstL_snoc (l : List Pe) (x : Pe) : pstL (l ++ [x]) = putT (pstL l) x := by unfold pstL; rw [List.foldl_append]; rfl
set_option maxRecDepth 100000 in
set_option maxHeartbeats 4000000 in
theorem refTsorted_any (v : Value) (l : List Pe) (w : World) (h : ReadsL peV 10 w v l) (hl : l.length ≤ 1000000) :
    Calls Try.prog 75 #[v] w fun e w' => ∃ r, e = .returned r ∧ ReadsL peV 10 w' r (pstL l) ∧ Below w.heap.size w w' := by
  obtain ⟨hm, a0, c, rfl, h3⟩ := pes_open h
  clear h
  have HMade := Lib.hid (fun (e : TypeId) => owns_readsL (f := peV) (n := 10) (l := []) (own_made (w := w) (base := w.heap.size) (g := w.heap.size) (size := 10) (e := e) rfl (Nat.le_refl _)))
  go_enter Try.func75, Try.ntmps75
  go_wp2_with fail
  go_loopw [3, 4] (fun u' i' wr => ∃ k : Nat, k ≤ l.length ∧ i' = .int .i64 k ∧ Hid (ReadsL peV 10 wr u' (pstL (l.take k))) ∧ Hid (Below w.heap.size w wr)) (fun _ i' _ => l.length - (intOf i').toNat)
  case atStart => exact ⟨0, by omega, rfl, HMade.out _, (Below.refl _ _).alloc (Nat.le_refl _) _⟩
  case round =>
    clear HMade
    obtain ⟨k, hk, rfl, HU, HB⟩ := hrel
    by_cases hlt : k < l.length
    · obtain ⟨x, hx⟩ : ∃ x, l[k]? = some x := ⟨_, List.getElem?_eq_getElem hlt⟩
      obtain ⟨b, o, rfl, h4, h5, h6⟩ := h3 (by omega)
      have K := (h6 k x hx).below HB.out h5
      have q1 : (0 : Int) ≤ (k : Int) := by omega
      have q2 : (k : Int) < (l.length : Int) := by omega
      have hS := pstL_snoc (l.take k) x
      rw [← show l.take (k + 1) = l.take k ++ [x] by rw [List.take_add_one, hx, Option.toList_some]] at hS
      have HS := Lib.hid hS
      have HPt := Lib.hid (refPutT_any _ _ x wr HU.out (by rw [pstL_len, List.length_take]; omega))
      obtain ⟨k0, k1, k2, k3, k4, k5, k6, k7, k8, k9⟩ := K
      clear hx h6 hS
      go_wp2_with (go_at_call 112; (with_reducible refine HPt.out.mono ?_); rintro e w5 ⟨r5, rfl, h5r, b5⟩)
      rw [← HS.out] at h5r
      go_roundw
      case rel => exact ⟨k + 1, by omega, by go_num, h5r, below2 HB.out b5⟩
      case measure => simp [intOf]; omega
    · obtain rfl : k = l.length := by omega
      have HF : Hid (l.take l.length = l) := List.take_length
      go_wp2_with fail
      go_ret
      exact ⟨_, rfl, by have := HU.out; rwa [HF.out] at this, HB.out⟩
end Go.Proofs.Ytppmjbnhghaffaa
