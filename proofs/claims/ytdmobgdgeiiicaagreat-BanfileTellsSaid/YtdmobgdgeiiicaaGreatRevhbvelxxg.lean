/- Texts put together: BfD. No condition. -/
import Derived.Test.YtdmobgdgeiiicaaGreatRxdejsxwjtj
import Derived.Test.YtdmobgdgeiiicaaGreatRenrwkkjxyd
import Derived.Test.YtdmobgdgeiiicaaGreatRomgclnbxzt
import Derived.Test.YtdmobgdgeiiicaaGreatRsqeweihhne
import Derived.Deep.RegionWith
import Derived.BigRegion
namespace Go.Proofs.YtdmobgdgeiiicaaGreat
open Go.RowKit

theorem ba_boxD {w : World} {B : Nat} {b : Ba} {T : TypeId} (h : BlockIs w B (baV b) T) : BaIn w B 0 b := ⟨h.cell (i := 0) rfl, h.cell (i := 1) rfl, h.cell (i := 2) rfl, h.cell (i := 3) rfl, h.cell (i := 4) rfl⟩
theorem bfText_snoc {l : List Ba} {k : Nat} {x : Ba} (h : l[k]? = some x) : bfText (l.take (k + 1)) = bfText (l.take k) ++ if baRight x = true then baText x ++ [10] else [] := by
  unfold bfText fed
  rw [List.take_add_one, h, Option.toList_some, List.filter_append, List.map_append, List.flatMap_append]
  congr 1
  cases hr : baRight x with
  | false => rw [List.filter_cons_of_neg (by rw [hr]; exact Bool.false_ne_true), if_neg Bool.false_ne_true, List.filter_nil, List.map_nil, List.flatMap_nil]
  | true => rw [List.filter_cons_of_pos hr, if_pos rfl, List.filter_nil, List.map_cons, List.map_nil, List.flatMap_cons, List.flatMap_nil, List.append_nil]
set_option maxRecDepth 100000 in
theorem bfText_len {l : List Ba} (h : ∀ x ∈ l, x.nt.ad.fits) (k : Nat) : (bfText (l.take k)).length ≤ k * 3001 := by
  induction k with
  | zero => rw [List.take_zero, Nat.zero_mul]; exact Nat.le_refl 0
  | succ k ih =>
    cases hk : l[k]? with
    | none => rw [List.take_of_length_le (by have := List.getElem?_eq_none_iff.1 hk; omega)] at ih ⊢; omega
    | some x =>
      rw [bfText_snoc hk]
      have := baText_len x (h x (List.mem_of_getElem? hk))
      rw [List.length_append]
      split
      · rw [List.length_append, List.length_singleton]; omega
      · rw [List.length_nil]; omega
set_option maxRecDepth 100000 in
set_option maxHeartbeats 16000000 in
theorem bfText_any (v : Value) (l : List Ba) (w : World) (h : ReadsL baV 5 w v l) (hf : ∀ x ∈ l, x.nt.ad.fits) (hl : l.length ≤ 100000) :
    Calls Tryz.prog 7 #[v] w fun e w' => e = .returned (.string (bs (bfText l))) ∧ Below w.heap.size w w' := by
  obtain ⟨hm, p, c, rfl, h3⟩ := bas_open h
  clear h
  have HLEN := Lib.hid (fun k => bfText_len hf k)
  go_enter Tryz.func7, Tryz.ntmps7
  go_wp2_with fail
  have HBl0 := Lib.hid (Bld.new w)
  have HB0 : Hid (Below w.heap.size w (w.alloc (.cells #[.pointer none, .slice none 0 0] 54))) := (Below.refl _ _).alloc (Nat.le_refl _) _
  go_loopw [8] (fun i wr => ∃ (k : Nat), k ≤ l.length ∧ i = .int .i64 k ∧ Hid (Bld wr w.heap.size (bfText (l.take k))) ∧ Below w.heap.size w wr) (fun i _ => l.length - (intOf i).toNat)
  case atStart => exact ⟨0, Nat.zero_le _, rfl, HBl0.out, HB0.out⟩
  case round =>
    clear HBl0 HB0
    obtain ⟨k, hk, rfl, HBL, hb⟩ := hrel
    have zb := hb.size
    have hlt := Bld.lt HBL.out
    by_cases hk2 : k < l.length
    · obtain ⟨x, hx⟩ : ∃ x, l[k]? = some x := ⟨_, List.getElem?_eq_getElem hk2⟩
      obtain ⟨b, o, rfl, h4, h5, h6⟩ := h3 (by omega)
      obtain ⟨k0, k1, k2, k3, k4⟩ := (h6 k x hx).below hb h5
      have q1 : (0 : Int) ≤ (k : Int) := by omega
      have q2 : (k : Int) < (l.length : Int) := by omega
      have hfx := hf x (List.mem_of_getElem? hx)
      have HR := Lib.hid (fun W => baRight_any x hfx W)
      have HT := Lib.hid (fun W => baText_any x hfx W)
      have hsn := bfText_snoc hx
      have htl := baText_len x hfx
      have hlen := HLEN.out k
      have HBX := Lib.hid (BlockIs.new wr (baV x) 38)
      clear hx h6 h3
      generalize baText x = t at *
      cases hr : baRight x with
      | false =>
        rw [hr] at HR hsn
        rw [if_neg (by simp), List.append_nil] at hsn
        have HSN := Lib.hid hsn
        clear hsn hr
        go_wp2_with (go_at_call 16; (with_reducible refine (HR.out _).mono ?_); rintro e w1 ⟨rfl, b1⟩; have z1 := b1.size)
        go_roundw
        case rel =>
          refine ⟨k + 1, by omega, by go_num, ?_, by (repeat (first | with_reducible assumption | with_reducible exact Below.refl _ _ | with_reducible refine Below.setCell ?_ (by first | omega | (simp; done) | (simp; omega)) _ | with_reducible refine Below.alloc ?_ (by first | omega | (simp; done) | (simp; omega)) _ | with_reducible refine Below.drew ?_ | (with_reducible refine Below.trans ?_ (Below.mono (by with_reducible assumption) (by first | omega | (simp; done) | (simp; omega)))) | (refine Below.trans ?_ (Below.mono (by assumption) (by first | omega | (simp; done) | (simp; omega))))))⟩
          unfold Hid
          rw [HSN.out]
          exact (HBL.out.alloc _).below b1
        case measure => simp [intOf]; omega
      | true =>
        rw [hr] at HR hsn
        rw [if_pos rfl] at hsn
        have HSN := Lib.hid hsn
        have s1 : ¬ 9223372036854775807 < (bs t).size + 1 := by rw [bs_size]; omega
        have hws : (bfText (l.take k)).length + (bs t ++ ⟨#[10]⟩).size ≤ 140737488355328 := by rw [ByteArray.size_append, bs_size]; have : (⟨#[10]⟩ : ByteArray).size = 1 := rfl; omega
        have HWS := Lib.hid hws
        clear hsn hr hws
        go_wp2_with (first
          | (go_at_call 16; (with_reducible refine (HR.out _).mono ?_); rintro e w1 ⟨rfl, b1⟩; have z1 := b1.size; simp only [World.size_alloc] at z1; have kB := HBX.out.below b1; obtain ⟨y0, y1, y2, y3, y4⟩ := ba_boxD kB; simp only [Nat.zero_add] at y0 y1 y2 y3 y4; have hB1 := (HBL.out.alloc _).below b1)
          | (go_at_call 18; (with_reducible refine (HT.out _).mono ?_); rintro e w3 ⟨rfl, b3⟩; have z3 := b3.size; have hB3 := hB1.below b3)
          | (go_at_call 17; refine (bldWrite_any _ _ _ _ hB3 HWS.out).mono ?_; rintro e w5 ⟨rfl, hbw, b5⟩))
        have b0 : Below w.heap.size w w3 := by (repeat (first | with_reducible assumption | with_reducible exact Below.refl _ _ | with_reducible refine Below.setCell ?_ (by first | omega | (simp; done) | (simp; omega)) _ | with_reducible refine Below.alloc ?_ (by first | omega | (simp; done) | (simp; omega)) _ | with_reducible refine Below.drew ?_ | (with_reducible refine Below.trans ?_ (Below.mono (by with_reducible assumption) (by first | omega | (simp; done) | (simp; omega)))) | (refine Below.trans ?_ (Below.mono (by assumption) (by first | omega | (simp; done) | (simp; omega))))))
        have hbe : Below w.heap.size w w5 := b0.trans (b5.mono (by omega))
        go_roundw
        case rel =>
          refine ⟨k + 1, by omega, by go_num, ?_, hbe⟩
          unfold Hid
          rw [HSN.out]
          have e : (bs t ++ ⟨#[10]⟩ : ByteArray).data.toList = t ++ [10] := by rw [show (⟨#[10]⟩ : ByteArray) = bs [10] from rfl, bs_append, bs_data]
          rw [e] at hbw
          exact hbw
        case measure => simp [intOf]; omega
    · obtain rfl : k = l.length := by omega
      have HST := Lib.hid (bldString_any _ _ wr HBL.out)
      go_wp2_with (go_at_call 19; refine HST.out.mono ?_; rintro e wc ⟨rfl, bc⟩)
      go_ret
      exact ⟨ret_str (by first | rfl | rw [List.take_length]), hb.trans (bc.mono (by omega))⟩
end Go.Proofs.YtdmobgdgeiiicaaGreat
