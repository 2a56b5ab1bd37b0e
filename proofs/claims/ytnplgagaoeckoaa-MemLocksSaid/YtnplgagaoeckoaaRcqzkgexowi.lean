/- Texts put together: Book. No condition. -/
import Derived.Test.YtnplgagaoeckoaaRtnelbysrnq
namespace Go.Proofs.Ytnplgagaoeckoaa
open Go.RowKit Go.Lib

def cntE (t : Int) (l : List Ey) : Nat := (l.filter fun p => p.state == t).length
theorem cntE_snoc (t : Int) (l : List Ey) (x : Ey) : cntE t (l ++ [x]) = cntE t l + (if x.state = t then 1 else 0) := by
  unfold cntE
  rw [List.filter_append, List.length_append]
  by_cases h : x.state = t <;> simp [h]
theorem cntE_le (t : Int) (l : List Ey) : cntE t l ≤ l.length := List.length_filter_le _ _
set_option maxRecDepth 100000 in
set_option maxHeartbeats 4000000 in
theorem bookCount_any (v : Value) (l : List Ey) (t : Int) (w : World) (h : ReadsL eyV 7 w v l) :
    Calls Try.prog 15 #[v, .int .i64 t] w fun e w' => e = .returned (.int .i64 (cntE t l)) ∧ Below w.heap.size w w' := by
  obtain ⟨hm, p, c, rfl, h3⟩ := ey_open h
  clear h
  go_enter Try.func15, Try.ntmps15
  go_wp2_with fail
  go_loopw [5, 10] (fun n' i' wr => ∃ k : Nat, k ≤ l.length ∧ i' = .int .i64 k ∧ n' = .int .i64 (cntE t (l.take k)) ∧ Hid (Below w.heap.size w wr)) (fun _ i' _ => l.length - (intOf i').toNat)
  case atStart => exact ⟨0, by omega, rfl, rfl, Below.refl _ _⟩
  case round =>
    obtain ⟨k, hk, rfl, rfl, HB⟩ := hrel
    by_cases hlt : k < l.length
    · obtain ⟨x, hx⟩ : ∃ x, l[k]? = some x := ⟨_, List.getElem?_eq_getElem hlt⟩
      obtain ⟨b, o, rfl, h4, h5, h6⟩ := h3 (by omega)
      obtain ⟨k0, k1, k2, k3, k4, k5, k6⟩ := h6 k x hx
      have k0 := keep HB.out h5 k0; have k1 := keep HB.out h5 k1; have k2 := keep HB.out h5 k2; have k3 := keep HB.out h5 k3; have k4 := keep HB.out h5 k4; have k5 := keep HB.out h5 k5; have k6 := keep HB.out h5 k6
      have q1 : (0 : Int) ≤ (k : Int) := by omega
      have q2 : (k : Int) < (l.length : Int) := by omega
      have hS := cntE_snoc t (l.take k) x
      rw [← show l.take (k + 1) = l.take k ++ [x] by rw [List.take_add_one, hx, Option.toList_some]] at hS
      have HS := Lib.hid hS
      have hcl : cntE t (l.take k) ≤ k := Nat.le_trans (cntE_le _ _) (by rw [List.length_take]; omega)
      have b5 : Below wr.heap.size wr (wr.alloc (.cells #[.bool x.en.ad.v6, .int .u64 x.en.ad.hi, .int .u64 x.en.ad.lo, .int .i64 x.en.port, .int .i64 x.state, .int .i64 x.fails, .int .i64 x.next] 77)) := (Below.refl _ _).alloc (Nat.le_refl _) _
      have HB5 := Lib.hid (HB.out.trans (b5.mono HB.out.size))
      clear hx h6 hS b5
      by_cases hc : x.state = t
      · have HS2 : Hid (cntE t (l.take (k + 1)) = cntE t (l.take k) + 1) := by show _ = _; rw [HS.out, if_pos hc]
        have f1 : (x.state == t) = true := by simpa using hc
        clear hc
        go_wp2_with fail
        go_roundw
        case rel => exact ⟨k + 1, by omega, by go_num, by rw [HS2.out]; go_num, HB5.out⟩
        case measure => simp [intOf]; omega
      · have HS2 : Hid (cntE t (l.take (k + 1)) = cntE t (l.take k)) := by show _ = _; rw [HS.out, if_neg hc]; rfl
        have f1 : (x.state == t) = false := by simpa using hc
        clear hc
        go_wp2_with fail
        go_roundw
        case rel => exact ⟨k + 1, by omega, by go_num, by rw [HS2.out], HB5.out⟩
        case measure => simp [intOf]; omega
    · obtain rfl : k = l.length := by omega
      have HR : Hid (cntE t (l.take l.length) = cntE t l) := by show _ = _; rw [List.take_length]
      go_wp2_with fail
      go_ret
      exact ⟨by rw [HR.out]; rfl, HB.out⟩
end Go.Proofs.Ytnplgagaoeckoaa
