/- Texts put together: Held. No condition. -/
import Derived.Test.YtnplgagaoeckoaaRtnelbysrnq
namespace Go.Proofs.Ytnplgagaoeckoaa
open Go.RowKit Go.Lib

def holdP (who : Int) (k : Int × List Int) : Bool := decide (k.1 = who + 1) || decide (who ∈ k.2)
def heldL (ks : List Lk) (who : Int) (n : Nat) : List Int := ((List.range n).filter fun i => holdP who (((ks[i]?).map fun k => (k.b, k.l)).getD (0, []))).map fun i : Nat => (i : Int)
theorem heldL_snoc (ks : List Lk) (who : Int) (n : Nat) (x : Lk) (hx : ks[n]? = some x) : heldL ks who (n + 1) = heldL ks who n ++ if holdP who (x.b, x.l) then [(n : Int)] else [] := by
  unfold heldL
  rw [List.range_succ, List.filter_append, List.map_append]
  congr 1
  simp only [List.filter_cons, List.filter_nil, hx, Option.map_some, Option.getD_some]
  split <;> rfl
theorem heldL_len (ks : List Lk) (who : Int) (n : Nat) : (heldL ks who n).length ≤ n := by
  unfold heldL
  rw [List.length_map]
  exact Nat.le_trans (List.length_filter_le _ _) (by simp)
theorem heldL_pl (m : Mm) (who : Int) : heldL m.locks.2 who m.locks.2.length = (heldP m.pl who).map fun i : Nat => (i : Int) := by
  unfold heldL heldP holdP
  have h1 : m.pl.locks = m.locks.2.map (fun k => (k.b, k.l)) := rfl
  rw [h1, List.length_map]
  simp only [List.getD_eq_getElem?_getD, List.getElem?_map]
theorem in_snoc (l : List Int) (x : Int) : (l ++ [x]).flatMap inV = l.flatMap inV ++ inV x := by rw [List.flatMap_append]; simp
set_option maxRecDepth 100000 in
set_option maxHeartbeats 8000000 in
theorem memHeld_any (m : Mm) (who : Int) (w : World) (h : MmAt w m) (hwho : 0 ≤ who ∧ who ≤ 100) (hl : m.locks.2.length ≤ 1000) :
    Calls Try.prog 8 #[.agg #[.int .i64 m.inn, .int .i64 m.out, m.bans.1, m.book.1, m.parts.1, m.locks.1], .int .i64 who] w fun e w' => ∃ a c, e = .returned (.slice a (heldP m.pl who).length c) ∧ ReadsL inV 1 w' (.slice a (heldP m.pl who).length c) ((heldP m.pl who).map fun i : Nat => (i : Int)) ∧ Below w.heap.size w w' := by
  have hpl := heldL_pl m who
  have hpn : (heldP m.pl who).length = (heldL m.locks.2 who m.locks.2.length).length := by rw [hpl, List.length_map]
  rw [← hpl, hpn]
  clear hpl hpn
  have HLK := Lib.hid h.2.2.2.2
  obtain ⟨a1, a2, a3, a4, c1, c2, c3, c4, e1, e2, e3, e4⟩ := mm_slices h
  obtain ⟨hm, p, c, e6, h3⟩ := lks_open h.2.2.2.1
  rw [e1, e2, e3, e6]
  rw [e4] at e6
  clear e1 e2 e3 e4 e6 h
  generalize m.inn = x0; generalize m.out = x1; generalize m.bans.2.length = n1; generalize m.book.2.length = n2; generalize m.parts.2.length = n3
  generalize m.locks.2 = L at *
  have hwr : IntKind.i64.wrap (who + 1) = who + 1 := by rw [IntKind.wrap_i64]; omega
  go_enter Try.func8, Try.ntmps8
  go_wp2_with fail
  go_name_world W2 hW2
  have HB2 : Hid (Below w.heap.size w W2) := by show Below _ _ _; subst hW2; (repeat (first | with_reducible assumption | with_reducible exact Below.refl _ _ | with_reducible refine Below.setCell ?_ (by first | omega | (simp; done) | (simp; omega)) _ | with_reducible refine Below.alloc ?_ (by first | omega | (simp; done) | (simp; omega)) _ | with_reducible refine Below.drew ?_ | (with_reducible refine Below.trans ?_ (Below.mono (by with_reducible assumption) (by first | omega | (simp; done) | (simp; omega)))) | (refine Below.trans ?_ (Below.mono (by assumption) (by first | omega | (simp; done) | (simp; omega))))))
  clear hW2
  go_loopw [5, 11] (fun v' i' wr => ∃ k : Nat, k ≤ L.length ∧ i' = .int .i64 k ∧ Hid (wr.ownsRow w.heap.size 3 1 v' (heldL L who k).length ((heldL L who k).flatMap inV)) ∧ Hid (Below w.heap.size w wr)) (fun _ i' _ => L.length - (intOf i').toNat)
  case atStart => exact ⟨0, by omega, rfl, ⟨rfl, Or.inl ⟨rfl, rfl⟩⟩, HB2.out⟩
  case round =>
    obtain ⟨k, hk, rfl, HO, HB⟩ := hrel
    by_cases hlt : k < L.length
    · obtain ⟨x, hx⟩ : ∃ x, L[k]? = some x := ⟨_, List.getElem?_eq_getElem hlt⟩
      obtain ⟨b, o, rfl, h4, h5, h6⟩ := h3 (by omega)
      obtain ⟨k0, k1⟩ := h6 k x hx
      have k0 := keep HB.out h5 k0; have k1 := keep HB.out h5 k1
      have q1 : (0 : Int) ≤ (k : Int) := by omega
      have q2 : (k : Int) < (L.length : Int) := by omega
      have hxl := HLK.out x (List.mem_of_getElem? hx)
      have HCN := Lib.hid (fun (W : World) (hb : Below w.heap.size w W) => intContains_any x.v x.l who W (ReadsL.below hxl hb))
      obtain ⟨_, xa, xc, ex, _⟩ := ins_open hxl
      have hS := heldL_snoc L who k x hx
      have hcl := heldL_len L who k
      rw [ex] at k1 HCN
      generalize hxn : x.l.length = xn at k1 HCN
      generalize hxb : x.b = xb at k0
      have HXB := Lib.hid hxb
      clear hx h6 hxl ex hxn hxb
      have b5 : Below wr.heap.size wr (wr.alloc (.cells #[.int .i64 xb, .slice xa xn xc] 63)) := (Below.refl _ _).alloc (Nat.le_refl _) _
      have HB5 := Lib.hid (HB.out.trans (b5.mono HB.out.size))
      have HO5 := Lib.hid (owns_below HO.out b5)
      have HS := Lib.hid hS
      clear hS b5
      by_cases hc : xb = who + 1
      · have HS2 : Hid (heldL L who (k + 1) = heldL L who k ++ [(k : Int)]) := by show _ = _; rw [HS.out]; unfold holdP; rw [HXB.out, decide_eq_true hc]; rfl
        have f1 : (xb == who + 1) = true := by simpa using hc
        clear hc
        go_upto_region 6 with fail
        go_name_world w6 hw6
        have HB6 := HB5
        have HO6 := HO5
        rw [hw6] at HB6 HO6
        clear hw6
        go_wp2_with (at_builtin; refine list_app_reads_g inRow rfl _ _ rfl w.heap.size _ (heldL L who k).length _ rfl (HO6.out.alloc _) _ 1 (inV (k : Int)) rfl (reads_one (us := inV (k : Int)) rfl (Nat.succ_pos 0)) (inV_one1 _) (by omega) (by omega) (by have := HB6.out.size; simp; omega) ?_; intro v' w7 hO7 hg7)
        go_roundw
        case rel => exact ⟨k + 1, by omega, by go_num, (by rw [HS2.out, List.length_append, in_snoc]; exact hO7), below_grown (HO6.out.alloc _) ((HB6.out).alloc (HB6.out.size) _) (Nat.le_refl _) (by have := HB6.out.size; simp; omega) hg7⟩
        case measure => simp [intOf]; omega
      · have f1 : (xb == who + 1) = false := by simpa using hc
        by_cases hi : who ∈ x.l
        · have HS2 : Hid (heldL L who (k + 1) = heldL L who k ++ [(k : Int)]) := by show _ = _; rw [HS.out]; unfold holdP; rw [decide_eq_true hi, Bool.or_true]; rfl
          rw [decide_eq_true hi] at HCN
          clear hc hi
          go_upto_region 6 with (go_at_call 18; (with_reducible refine (HCN.out _ (by first | exact HB5.out | (repeat (first | with_reducible assumption | with_reducible exact Below.refl _ _ | with_reducible refine Below.setCell ?_ (by first | omega | (simp; done) | (simp; omega)) _ | with_reducible refine Below.alloc ?_ (by first | omega | (simp; done) | (simp; omega)) _ | with_reducible refine Below.drew ?_ | (with_reducible refine Below.trans ?_ (Below.mono (by with_reducible assumption) (by first | omega | (simp; done) | (simp; omega)))) | (refine Below.trans ?_ (Below.mono (by assumption) (by first | omega | (simp; done) | (simp; omega)))))))).mono ?_); rintro e w6 ⟨rfl, b6⟩)
          have HB6 := Lib.hid (below2 HB5.out b6)
          have HO6 := Lib.hid (owns_below HO5.out b6)
          clear b6
          go_wp2_with (at_builtin; refine list_app_reads_g inRow rfl _ _ rfl w.heap.size _ (heldL L who k).length _ rfl (HO6.out.alloc _) _ 1 (inV (k : Int)) rfl (reads_one (us := inV (k : Int)) rfl (Nat.succ_pos 0)) (inV_one1 _) (by omega) (by omega) (by have := HB6.out.size; simp; omega) ?_; intro v' w7 hO7 hg7)
          go_roundw
          case rel => exact ⟨k + 1, by omega, by go_num, (by rw [HS2.out, List.length_append, in_snoc]; exact hO7), below_grown (HO6.out.alloc _) ((HB6.out).alloc (HB6.out.size) _) (Nat.le_refl _) (by have := HB6.out.size; simp; omega) hg7⟩
          case measure => simp [intOf]; omega
        · have HS2 : Hid (heldL L who (k + 1) = heldL L who k) := by show _ = _; rw [HS.out]; unfold holdP; rw [decide_eq_false hi, HXB.out, decide_eq_false hc]; simp
          rw [decide_eq_false hi] at HCN
          clear hc hi
          go_wp2_with (go_at_call 18; (with_reducible refine (HCN.out _ (by first | exact HB5.out | (repeat (first | with_reducible assumption | with_reducible exact Below.refl _ _ | with_reducible refine Below.setCell ?_ (by first | omega | (simp; done) | (simp; omega)) _ | with_reducible refine Below.alloc ?_ (by first | omega | (simp; done) | (simp; omega)) _ | with_reducible refine Below.drew ?_ | (with_reducible refine Below.trans ?_ (Below.mono (by with_reducible assumption) (by first | omega | (simp; done) | (simp; omega)))) | (refine Below.trans ?_ (Below.mono (by assumption) (by first | omega | (simp; done) | (simp; omega)))))))).mono ?_); rintro e w6 ⟨rfl, b6⟩)
          go_roundw
          case rel => exact ⟨k + 1, by omega, by go_num, (by rw [HS2.out]; exact owns_below HO5.out b6), below2 HB5.out b6⟩
          case measure => simp [intOf]; omega
    · obtain rfl : k = L.length := by omega
      obtain ⟨a9, c9, e9⟩ := owns_slice HO.out
      subst e9
      have HR : Hid (ReadsL inV 1 wr (.slice a9 (heldL L who L.length).length c9) (heldL L who L.length)) := owns_readsL HO.out
      go_wp2_with fail
      go_ret
      exact ⟨_, _, rfl, HR.out, HB.out⟩
end Go.Proofs.Ytnplgagaoeckoaa
