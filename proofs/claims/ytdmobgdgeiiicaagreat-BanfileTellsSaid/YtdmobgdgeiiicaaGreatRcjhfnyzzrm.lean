/- Texts put together: BfF. No condition. -/
import Derived.Test.YtdmobgdgeiiicaaGreatRjbrbqrrlkk
import Derived.Test.YtdmobgdgeiiicaaGreatRebngdrnpww
import Derived.Test.YtdmobgdgeiiicaaGreatRevhbvelxxg
import Derived.Test.YtdmobgdgeiiicaaGreatRtlxqwfmigl
import Derived.OwnWalk
namespace Go.Proofs.YtdmobgdgeiiicaaGreat
open Go.RowKit

set_option maxRecDepth 100000 in
set_option maxHeartbeats 16000000 in
theorem refBfText_any (v : Value) (l : List Ba) (w : World) (h : ReadsL baV 5 w v l) (hf : ∀ x ∈ l, x.nt.ad.fits) (hl : l.length ≤ 100000) :
    Calls Tryz.prog 8 #[v] w fun e w' => e = .returned (.string (bs (bfText l))) ∧ Below w.heap.size w w' := by
  obtain ⟨hm, p, c, rfl, h3⟩ := bas_open h
  clear h
  have HLEN := Lib.hid (fun k => bfText_len hf k)
  go_enter Tryz.func8, Tryz.ntmps8
  go_wp2_with fail
  go_loopw [3, 4] (fun s i wr => ∃ (k : Nat), k ≤ l.length ∧ i = .int .i64 k ∧ s = .string (bs (bfText (l.take k))) ∧ Hid (Below w.heap.size w wr)) (fun _ i _ => l.length - (intOf i).toNat)
  case atStart => exact ⟨0, Nat.zero_le _, rfl, rfl, Below.refl _ _⟩
  case round =>
    obtain ⟨k, hk, rfl, rfl, HB⟩ := hrel
    by_cases hk2 : k < l.length
    · obtain ⟨x, hx⟩ : ∃ x, l[k]? = some x := ⟨_, List.getElem?_eq_getElem hk2⟩
      obtain ⟨b, o, rfl, h4, h5, h6⟩ := h3 (by omega)
      have KX := Lib.hid (fun (W : World) (hb : Below wr.heap.size wr W) => ((h6 k x hx).below HB.out h5).below hb (Nat.lt_of_lt_of_le h5 HB.out.size))
      obtain ⟨k0, k1, k2, k3, k4⟩ := KX.out wr (Below.refl _ _)
      have q1 : (0 : Int) ≤ (k : Int) := by omega
      have q2 : (k : Int) < (l.length : Int) := by omega
      have hfx := hf x (List.mem_of_getElem? hx)
      have HR := Lib.hid (fun W => refBaRight_any x hfx W)
      have HT := Lib.hid (fun W => refBaText_any x hfx W)
      have hsn := bfText_snoc hx
      have htl := baText_len x hfx
      have hlen := HLEN.out k
      clear hx h6 h3
      generalize bfText (l.take k) = acc at *
      generalize baText x = t at *
      cases hr : baRight x with
      | false =>
        rw [hr] at HR hsn
        rw [if_neg (by simp), List.append_nil] at hsn
        have HSN := Lib.hid hsn
        clear hsn hr
        go_wp2_with (go_at_call 20; (with_reducible refine (HR.out _).mono ?_); rintro e w1 ⟨rfl, b1⟩)
        go_roundw
        case rel => exact ⟨k + 1, by omega, by go_num, by rw [HSN.out], below2 HB.out b1⟩
        case measure => simp [intOf]; omega
      | true =>
        rw [hr] at HR hsn
        rw [if_pos rfl] at hsn
        have HSN := Lib.hid hsn
        have s1 : ¬ 9223372036854775807 < (bs acc).size + (bs t).size := by rw [bs_size, bs_size]; omega
        have s2 : ¬ 9223372036854775807 < (bs acc).size + (bs t).size + 1 := by rw [bs_size, bs_size]; omega
        clear hsn hr
        go_wp2_with (first
          | (go_at_call 20; (with_reducible refine (HR.out _).mono ?_); rintro e w1 ⟨rfl, b1⟩; obtain ⟨y0, y1, y2, y3, y4⟩ := KX.out w1 b1)
          | (go_at_call 21; (with_reducible refine (HT.out _).mono ?_); rintro e w3 ⟨rfl, b3⟩))
        go_roundw
        case rel => exact ⟨k + 1, by omega, by go_num, by rw [HSN.out, ← List.append_assoc, show (⟨#[10]⟩ : ByteArray) = bs [10] from rfl, bs_append, bs_append], below2 HB.out (below2 b1 b3)⟩
        case measure => simp [intOf]; omega
    · obtain rfl : k = l.length := by omega
      have HT := Lib.hid (List.take_length (l := l))
      rw [HT.out]
      go_wp2_with fail
      go_ret
      exact ⟨rfl, HB.out⟩
theorem fdB_yes {l : List Ba} {n : Nt} (h : bfHas l n = true) : ∃ k : Nat, fdB l n = (k : Int) := by
  unfold bfHas at h
  rw [List.any_eq_true] at h
  obtain ⟨x, hx, hn⟩ := h
  unfold fdB fnB
  cases hf : l.findIdx? fun p => decide (p.nt = n) with
  | none =>
    rw [List.findIdx?_eq_none_iff] at hf
    rw [hf x hx] at hn; cases hn
  | some k => exact ⟨k, rfl⟩
set_option maxRecDepth 100000 in
set_option maxHeartbeats 8000000 in
theorem refBfParse_any (s : ByteArray) (most : Int) (w : World) (hs : s.size ≤ 90000) (hmo : -9223372036854775808 ≤ most ∧ most ≤ 9223372036854775807) : Calls Tryz.prog 6 #[.string s, .int .i64 most] w (GivesBf w (bfParse s.data.toList most)) := by
  have hL := refLines_any s w (by omega)
  have hpl := bf_lines_plen s.data.toList
  have hcn := bf_lines_cnt s.data.toList
  rw [len_data] at hpl hcn
  have hg : bfParse s.data.toList most = if (linesL s.data.toList).2 ≠ 0 then ([], 0, (linesL s.data.toList).2) else bfGo most [] 0 (linesL s.data.toList).1 := rfl
  rw [hg]
  clear hg
  generalize linesL s.data.toList = r at *
  obtain ⟨L, e⟩ := r
  unfold GivesLines at hL
  simp only at hL hpl hcn ⊢
  have HL := Lib.hid hL; clear hL
  have HPL := Lib.hid hpl; clear hpl
  unfold GivesBf
  by_cases he : e ≠ 0
  · rw [if_pos he]
    have q : (e != 0) = true := by simpa using he
    clear he
    go_enter Tryz.func6, Tryz.ntmps6
    go_wp2_with (go_at_call 12; (with_reducible refine HL.out.mono ?_); rintro e w1 ⟨v1, rfl, ho1, b1⟩)
    go_ret3
    exact ⟨_, rfl, baNone _ _ rfl, b1⟩
  · obtain rfl : e = 0 := by omega
    rw [if_neg he]
    clear he
    go_enter Tryz.func6, Tryz.ntmps6
    go_upto_region 4 with (go_at_call 12; (with_reducible refine HL.out.mono ?_); rintro e w1 ⟨v1, rfl, ho1, b1⟩)
    obtain ⟨_, hLn, a, cap, rfl, ho⟩ := (owns_reads ho1).open
    have HRD := Lib.hid ho; have HB1 := Lib.hid b1
    clear ho ho1 b1
    go_wp2_with fail
    go_loopw [9, 10] (fun v' i wr => ∃ (k : Nat) (l : List Ba) (v : Value), k ≤ L.length ∧ l.length = k ∧ i = .int .i64 k ∧ v' = v ∧ Hid (ReadsL baV 5 wr v l) ∧ Hid (bfGo most [] 0 L = bfGo most l k (L.drop k)) ∧ Below w1.heap.size w1 wr) (fun _ i _ => L.length - (intOf i).toNat)
    case atStart => exact ⟨0, [], _, Nat.zero_le _, rfl, rfl, rfl, ReadsL.nil _ _ _ _ _, rfl, by (repeat (first | with_reducible assumption | with_reducible exact Below.refl _ _ | with_reducible refine Below.setCell ?_ (by first | omega | (simp; done) | (simp; omega)) _ | with_reducible refine Below.alloc ?_ (by first | omega | (simp; done) | (simp; omega)) _ | with_reducible refine Below.drew ?_ | (with_reducible refine Below.trans ?_ (Below.mono (by with_reducible assumption) (by first | omega | (simp; done) | (simp; omega)))) | (refine Below.trans ?_ (Below.mono (by assumption) (by first | omega | (simp; done) | (simp; omega))))))⟩
    case round =>
      obtain ⟨k, l, v, hk, hlk, rfl, rfl, HV, HG, hb⟩ := hrel
      by_cases hlt : k < L.length
      · obtain ⟨b, o, rfl, hcap, hbl, hx⟩ := HRD.out (by omega)
        obtain ⟨x, hxx⟩ : ∃ x, L[k]? = some x := ⟨_, List.getElem?_eq_getElem hlt⟩
        have hcl := keep hb hbl (hx k (sv x) (by rw [List.getElem?_map, hxx]; rfl))
        have hdr : L.drop k = x :: L.drop (k + 1) := by rw [List.drop_eq_getElem_cons hlt]; congr 1; exact (List.getElem?_eq_some_iff.1 hxx).2
        have hgo := HG.out
        rw [hdr, bfGo] at hgo
        have hPs := fun W => refBaParse_any (bs x) W (by rw [bs_size]; have := HPL.out x (List.mem_of_getElem? hxx); omega)
        rw [bs_data] at hPs
        have hok := baParse_ok x
        generalize baParse x = pr at *
        obtain ⟨y, ok⟩ := pr
        obtain ⟨hfy, hok, _⟩ := hok
        unfold GivesBa at hPs
        simp only at hPs hgo hfy hok
        have HPS := Lib.hid hPs
        have q1 : (0 : Int) ≤ (k : Int) := by omega
        have q2 : (k : Int) < (L.length : Int) := by omega
        have hw1 : IntKind.i64.wrap ((k : Int) + 1) = (k : Int) + 1 := by rw [IntKind.wrap_i64]; omega
        unfold sv at hcl
        have HLK := Lib.hid hlk
        clear hlk hPs hdr hxx hx HG
        obtain ⟨_, pv, cv, rfl, _⟩ := bas_open HV.out
        cases ok with
        | false =>
          rw [if_pos rfl] at hgo
          have HGO := Lib.hid hgo
          clear hgo hok
          go_wp2_with (go_at_call 13; (with_reducible refine (HPS.out _).mono ?_); rintro e w5 ⟨rfl, b5⟩)
          go_ret3
          exact ⟨.slice none 0 0, by rw [HGO.out]; rfl, by rw [HGO.out]; exact baNone _ _ rfl, HB1.out.trans (((hb.trans (b5.mono hb.size)).alloc (Nat.le_trans hb.size b5.size) _).mono HB1.out.size)⟩
        | true =>
          rw [if_neg (by simp)] at hgo
          have hry := (hok rfl).1
          have HIx := Lib.hid (fun (W : World) (hb : Below wr.heap.size wr W) => refBaIndex_any _ l y.nt W (ReadsL.below HV.out hb))
          clear hok
          cases hh : bfHas l y.nt with
          | true =>
            rw [hh, if_pos rfl] at hgo
            obtain ⟨j, hj⟩ := fdB_yes hh
            rw [hj] at HIx
            have HGO := Lib.hid hgo
            have q3 : (0 : Int) ≤ (j : Int) := by omega
            clear hgo hh hj
            go_wp2_with (first
              | (go_at_call 13; (with_reducible refine (HPS.out _).mono ?_); rintro e w5 ⟨rfl, b5⟩; have b6 : Below wr.heap.size wr (w5.alloc (.cells #[.bool y.nt.ad.v6, .int .u64 y.nt.ad.hi, .int .u64 y.nt.ad.lo, .int .i64 y.nt.bits, .int .i64 y.till] 38)) := b5.alloc b5.size _)
              | (go_at_call 14; (with_reducible refine (HIx.out _ b6).mono ?_); rintro e w7 ⟨rfl, b7⟩))
            go_ret3
            exact ⟨.slice none 0 0, by rw [HGO.out]; rfl, by rw [HGO.out]; exact baNone _ _ rfl, HB1.out.trans ((hb.trans ((below2 b6 b7).mono hb.size)).mono HB1.out.size)⟩
          | false =>
            rw [hh, if_neg (by simp)] at hgo
            rw [fdB_no hh] at HIx
            by_cases hmk : most ≤ (k : Int)
            · rw [HLK.out, if_pos hmk] at hgo
              have HGO := Lib.hid hgo
              clear hgo hh
              go_wp2_with (first
                | (go_at_call 13; (with_reducible refine (HPS.out _).mono ?_); rintro e w5 ⟨rfl, b5⟩; have b6 : Below wr.heap.size wr (w5.alloc (.cells #[.bool y.nt.ad.v6, .int .u64 y.nt.ad.hi, .int .u64 y.nt.ad.lo, .int .i64 y.nt.bits, .int .i64 y.till] 38)) := b5.alloc b5.size _)
                | (go_at_call 14; (with_reducible refine (HIx.out _ b6).mono ?_); rintro e w7 ⟨rfl, b7⟩))
              go_ret3
              exact ⟨.slice none 0 0, by rw [HGO.out]; rfl, by rw [HGO.out]; exact baNone _ _ rfl, HB1.out.trans ((hb.trans ((below2 b6 b7).mono hb.size)).mono HB1.out.size)⟩
            · rw [HLK.out, if_neg hmk] at hgo
              have hmd : (k : Int) < most := by omega
              have HAd := Lib.hid (fun (W : World) (hb : Below wr.heap.size wr W) => refAddB_any _ l y ((k : Int) + 1) hfy W (ReadsL.below HV.out hb) (by have := HLK.out; omega) hry hh (by have := HLK.out; omega))
              have HGO := Lib.hid hgo
              have hpl := bfPut_len y l
              rw [HLK.out] at hpl
              have HPLN := Lib.hid hpl
              clear hgo hh hpl hry hmk
              go_wp2_with (first
                | (go_at_call 13; (with_reducible refine (HPS.out _).mono ?_); rintro e w5 ⟨rfl, b5⟩; have b6 : Below wr.heap.size wr (w5.alloc (.cells #[.bool y.nt.ad.v6, .int .u64 y.nt.ad.hi, .int .u64 y.nt.ad.lo, .int .i64 y.nt.bits, .int .i64 y.till] 38)) := b5.alloc b5.size _; have k6 := BlockIs.new w5 (baV y) 38)
                | (go_at_call 14; (with_reducible refine (HIx.out _ b6).mono ?_); rintro e w7 ⟨rfl, b7⟩; have b8 := below2 b6 b7; obtain ⟨y0, y1, y2, y3, y4⟩ := ba_box (k6.below b7); simp only [Nat.zero_add] at y0 y1 y2 y3 y4)
                | (go_at_call 15; (with_reducible refine (HAd.out _ b8).mono ?_); rintro e w9 ⟨r9, rfl, rd9, b9⟩))
              go_roundw
              case rel => exact ⟨k + 1, bfPut y l, _, by omega, HPLN.out, by go_num, rfl, rd9, HGO.out, hb.trans ((below2 b8 b9).mono hb.size)⟩
              case measure => simp [intOf]; omega
      · obtain rfl : k = L.length := by omega
        have hgo := HG.out
        rw [List.drop_length, bfGo] at hgo
        have HGO := Lib.hid hgo
        obtain ⟨_, pv, cv, rfl, _⟩ := bas_open HV.out
        clear hgo HG
        go_wp2_with fail
        go_ret3
        exact ⟨.slice pv l.length cv, by rw [HGO.out]; rfl, by rw [HGO.out]; exact HV.out, HB1.out.trans (hb.mono HB1.out.size)⟩
end Go.Proofs.YtdmobgdgeiiicaaGreat
