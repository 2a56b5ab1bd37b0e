/- Texts put together: LawBfB. No condition. -/
import Derived.Test.YtdmobgdgeiiicaaRznpfcqpsdj
namespace Go.Proofs.Ytdmobgdgeiiicaa
open Go.RowKit

theorem ba_slice {w : World} {b o n c k : Nat} {l : List Ba} {x : Ba} (hn : n = l.length) (h : ReadsL baV 5 w (.slice (some ⟨b, o, none⟩) n c) l) (hx : l[k]? = some x) (hc : l.length ≤ c) : ReadsL baV 5 w (.slice (some ⟨b, o + k * 5, none⟩) 1 (c - k)) [x] := by
  subst hn
  have hk := (List.getElem?_eq_some_iff.1 hx).1
  have h1 := Reads.dropN h k (by omega) (c - k) (by omega)
  have hd : l.drop k = x :: l.drop (k + 1) := by rw [List.drop_eq_getElem_cons hk]; congr 1; exact (List.getElem?_eq_some_iff.1 hx).2
  rw [ba_drop, hd] at h1
  rcases Reads.takeN h1 1 (by omega) (c - k) with r | r
  · have e : ((x :: l.drop (k + 1)).flatMap baV).take (1 * 5) = [x].flatMap baV := by rw [ba_take]; rfl
    rw [e] at r
    exact r
  · omega
theorem fed_rev {L : List (List UInt8)} {k : Nat} {x : List UInt8} (h : L[k]? = some x) : fed ((L.take (k + 1)).reverse) = (x ++ [10]) ++ fed ((L.take k).reverse) := by
  rw [List.take_add_one, h, Option.toList_some, List.reverse_append]; rfl
theorem bf_one {x : Ba} (h : baRight x = true) : bfText [x] = baText x ++ [10] := by
  unfold bfText fed; simp [h]
set_option maxRecDepth 100000 in
set_option maxHeartbeats 16000000 in
theorem banfileBack_any (v : Value) (l : List Ba) (most : Int) (w : World) (h : ReadsL baV 5 w v l) (hf : ∀ x ∈ l, x.nt.ad.fits) (hm : -9223372036854775808 ≤ most ∧ most ≤ 9223372036854775807) (hc : Cpu w) :
    Calls Try.prog 5 #[v, .int .i64 most] w fun e w' => e = .returned (.bool true) ∧ Below w.heap.size w w' := by
  have HV := Lib.hid h
  have HA := Lib.hid (fun w hc => awake14_any w hc)
  have HC := Lib.hid hc; clear hc
  obtain ⟨hm1, pa, ca, rfl, h3⟩ := bas_open h
  clear h
  rcases Int.lt_or_le 60 (l.length : Int) with hlen | hlen
  · go_enter Try.func5, Try.ntmps5
    go_wp2_with (go_at_call 18; (with_reducible refine (HA.out _ HC.out).mono ?_); rintro e w2 ⟨rfl, b2⟩)
    go_ret
    exact ⟨rfl, b2⟩
  have hlenn : ¬ (60 : Int) < (l.length : Int) := by omega
  have HTx := Lib.hid (fun (W : World) (hb : Below w.heap.size w W) => bfText_any _ l W (ReadsL.below HV.out hb) hf (by omega))
  by_cases hR : ¬ bfRight l
  · have HRt := Lib.hid (refBfRight_no _ l w HV.out hf hR)
    clear hR
    go_enter Try.func5, Try.ntmps5
    go_wp2_with (first
      | (go_at_call 17; (with_reducible refine HRt.out.mono ?_); rintro e w1 ⟨rfl, b1⟩)
      | (go_at_call 18; (with_reducible refine (HA.out _ (HC.out.below b1)).mono ?_); rintro e w2 ⟨rfl, b2⟩))
    go_ret
    exact ⟨rfl, below2 b1 b2⟩
  · have hR : bfRight l := Classical.not_not.1 hR
    have HRt := Lib.hid (refBfRight_yes _ l w HV.out hf hR)
    have hbk := bfBack hR (by omega) most
    have htl : (bfText l).length ≤ 6000 := by
      rw [bf_text hR]
      have := fed_len (L := l.map baText) (m := 99) (fun t ht => by obtain ⟨b, hb, rfl⟩ := List.mem_map.1 ht; exact baText_99 b (hR.1 b hb).1)
      rw [List.length_map] at this
      have : l.length * 100 ≤ 60 * 100 := Nat.mul_le_mul_right _ (by omega)
      omega
    have hP := fun (W : World) (hc : Cpu W) => bfParse_any (bs (bfText l)) most W (by rw [bs_size]; omega) hc
    rw [bs_data, hbk] at hP
    have HR := Lib.hid hR
    clear htl hbk hR
    go_enter Try.func5, Try.ntmps5
    go_upto_region 3 with (go_at_call 17; (with_reducible refine HRt.out.mono ?_); rintro e w1 ⟨rfl, b1⟩)
    have HB1 := Lib.hid b1
    clear b1 HRt
    by_cases hmx : max most 0 < (l.length : Int)
    · have hne : ¬ (l = [] ∨ (l.length : Int) ≤ most) := by
        rintro (e | e)
        · subst e; simp at hmx; omega
        · omega
      rw [if_neg hne] at hP
      unfold GivesBf at hP
      have HP := Lib.hid hP
      clear hP hne
      have hw1 : IntKind.i64.wrap (max most 0 + 1) = max most 0 + 1 := by rw [IntKind.wrap_i64]; omega
      have HW1 := Lib.hid hw1
      go_wp2_with (first
        | (go_at_call 20; (with_reducible refine (HTx.out _ HB1.out).mono ?_); rintro e w3 ⟨rfl, b3⟩; have b4 := below2 HB1.out b3)
        | (go_at_call 19; (with_reducible refine (HP.out _ (HC.out.below b4)).mono ?_); rintro e w5 ⟨r5, rfl, rd5, b5⟩; have b6 := below2 b4 b5; obtain ⟨_, p5, c5, rfl, _⟩ := bas_open rd5)
        | (go_at_call 18; (with_reducible refine (HA.out _ (HC.out.below b6)).mono ?_); rintro e w7 ⟨rfl, b7⟩))
      go_ret
      exact ⟨rfl, below2 b6 b7⟩
    · have hle : (l.length : Int) ≤ max most 0 := by omega
      have hyes : l = [] ∨ (l.length : Int) ≤ most := by
        rcases Nat.eq_zero_or_pos l.length with e | e
        · exact Or.inl (List.eq_nil_of_length_eq_zero e)
        · exact Or.inr (by omega)
      rw [if_pos hyes] at hP
      unfold GivesBf at hP
      have HP := Lib.hid hP
      have hrv := bfBack_rev HR.out (by omega) hle
      have h99 : ∀ t ∈ l.map baText, t.length ≤ 99 := fun t ht => by obtain ⟨b, hb, rfl⟩ := List.mem_map.1 ht; exact baText_99 b (HR.out.1 b hb).1
      have HLN : Hid (∀ k, (fed (((l.map baText).take k).reverse)).length ≤ 6000) := fun k => by
        have h1 := fed_len (L := ((l.map baText).take k).reverse) (m := 99) (fun t ht => h99 t (List.mem_of_mem_take (List.mem_reverse.1 ht)))
        have h2 : ((l.map baText).take k).reverse.length ≤ 60 := by rw [List.length_reverse, List.length_take, List.length_map]; omega
        have : ((l.map baText).take k).reverse.length * 100 ≤ 60 * 100 := Nat.mul_le_mul_right _ h2
        omega
      have HP2 := Lib.hid (fun (W : World) (hc : Cpu W) => bfParse_any (bs (fed ((l.map baText).reverse))) most W (by rw [bs_size]; have := HLN.out l.length; rw [show (l.map baText).take l.length = l.map baText by rw [← List.length_map (f := baText), List.take_length]] at this; omega) hc)
      rw [bs_data, hrv] at HP2
      unfold GivesBf at HP2
      have HSm := Lib.hid (fun v u W hv hu => bans_same v u l W hv hu)
      have HMP := Lib.hid (fun k (x : Ba) (hx : l[k]? = some x) => fed_rev (L := l.map baText) (k := k) (x := baText x) (by rw [List.getElem?_map, hx]; rfl))
      clear hP hyes hrv h99
      go_upto_region 6 with (first
        | (go_at_call 20; (with_reducible refine (HTx.out _ HB1.out).mono ?_); rintro e w3 ⟨rfl, b3⟩; have b4 := below2 HB1.out b3)
        | (go_at_call 19; (with_reducible refine (HP.out _ (HC.out.below b4)).mono ?_); rintro e w5 ⟨r5, rfl, rd5, b5⟩; have b6 := below2 b4 b5))
      have HB6 := Lib.hid b6; have HR5 := Lib.hid rd5
      have hmx2 : ¬ (max most 0 < (l.length : Int)) := by omega
      clear b6 rd5 b3 b4 b5 HP HTx
      go_wp2_with fail
      go_loopw [8, 9] (fun t' i' wr => ∃ k : Nat, k ≤ l.length ∧ i' = .int .i64 k ∧ t' = .string (bs (fed (((l.map baText).take k).reverse))) ∧ Hid (Below w5.heap.size w5 wr)) (fun _ i' _ => l.length - (intOf i').toNat)
      case atStart => exact ⟨0, by omega, rfl, rfl, Below.refl _ _⟩
      case round =>
        obtain ⟨k, hk, rfl, rfl, HB⟩ := hrel
        by_cases hlt : k < l.length
        · obtain ⟨x, hx⟩ : ∃ x, l[k]? = some x := ⟨_, List.getElem?_eq_getElem hlt⟩
          obtain ⟨b, o, rfl, h4, h5, h6⟩ := h3 (by omega)
          have HBw := Lib.hid (below2 HB6.out HB.out)
          have HT1 := Lib.hid (bfText_any _ [x] wr (ReadsL.below (ba_slice rfl HV.out hx h4) HBw.out) (by intro y hy; rw [List.mem_singleton.1 hy]; exact hf x (List.mem_of_getElem? hx)) (by simp))
          have HM := Lib.hid (HMP.out k x hx)
          have hbx := bf_one (HR.out.1 x (List.mem_of_getElem? hx)).2
          rw [hbx] at HT1
          have htl : (baText x).length ≤ 99 := baText_99 x (hf x (List.mem_of_getElem? hx))
          have hln := HLN.out k
          generalize baText x = t at *
          generalize fed (((l.map baText).take k).reverse) = acc at *
          have q1 : (0 : Int) ≤ (k : Int) := by omega
          have q2 : (k : Int) < (l.length : Int) := by omega
          have q3 : (k : Int) + 1 ≤ (ca : Int) := by omega
          have s1 : ¬ 9223372036854775807 < (bs (t ++ [10])).size + (bs acc).size := by rw [bs_size, bs_size, List.length_append, List.length_singleton]; omega
          have hw1 : IntKind.i64.wrap ((k : Int) + 1) = (k : Int) + 1 := by rw [IntKind.wrap_i64]; omega
          have htn : ((k : Int) + 1).toNat = k + 1 := by omega
          have hsub : k + 1 - k = 1 := by omega
          clear hx h6 hbx
          go_wp2_with (go_at_call 20; (with_reducible refine HT1.out.mono ?_); rintro e w7 ⟨rfl, b7⟩)
          go_roundw
          case rel => exact ⟨k + 1, by omega, by go_num, by rw [HM.out, bs_append], below2 HB.out b7⟩
          case measure => simp [intOf]; omega
        · obtain rfl : k = l.length := by omega
          have HTT := Lib.hid (show (l.map baText).take l.length = l.map baText by rw [← List.length_map (f := baText), List.take_length])
          rw [HTT.out]
          have HBw := Lib.hid (below2 HB6.out HB.out)
          obtain ⟨_, p5, c5, rfl, _⟩ := bas_open HR5.out
          generalize fed ((l.map baText).reverse) = acc at *
          go_wp2_with (first
            | (go_at_call 19; (with_reducible refine (HP2.out _ (HC.out.below HBw.out)).mono ?_); rintro e w9 ⟨r9, rfl, rd9, b9⟩; have b10 := below2 HBw.out b9; obtain ⟨_, p9, c9, rfl, _⟩ := bas_open rd9; have rd5 := ReadsL.below HR5.out (below2 HB.out b9); have rdv := ReadsL.below HV.out b10)
            | (go_at_call 21; (with_reducible refine (HSm.out _ _ _ rd5 rdv).mono ?_); rintro e w11 ⟨rfl, b11⟩; have b12 := below2 b10 b11; have rd9' := ReadsL.below rd9 b11; have rdv' := ReadsL.below rdv b11)
            | (go_at_call 21; (with_reducible refine (HSm.out _ _ _ rd9' rdv').mono ?_); rintro e w13 ⟨rfl, b13⟩; have b14 := below2 b12 b13)
            | (go_at_call 18; (with_reducible refine (HA.out _ (HC.out.below b14)).mono ?_); rintro e w15 ⟨rfl, b15⟩))
          go_ret
          exact ⟨rfl, below2 b14 b15⟩
end Go.Proofs.Ytdmobgdgeiiicaa
