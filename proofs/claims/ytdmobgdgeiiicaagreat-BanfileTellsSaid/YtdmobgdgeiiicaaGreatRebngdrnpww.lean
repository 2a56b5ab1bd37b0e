/- Texts put together: BfC. No condition. -/
import Derived.Test.YtdmobgdgeiiicaaGreatRsncjottytq
import Derived.Test.YtdmobgdgeiiicaaGreatRfjiotjisdn
import Derived.OwnWalk
namespace Go.Proofs.YtdmobgdgeiiicaaGreat
open Go.RowKit

theorem bf_lines_plen (s : List UInt8) : ∀ x ∈ (linesL s).1, x.length ≤ s.length := by
  intro x hx
  unfold linesL at hx
  split at hx
  · simp at hx
  · split at hx
    · simp at hx
    · split at hx
      · simp at hx
      · split at hx
        · simp at hx
        · have := splitL_part_len 10 _ x hx
          simp at this; omega
theorem bf_lines_cnt (s : List UInt8) : (linesL s).1.length ≤ s.length + 1 := by
  unfold linesL
  repeat' split
  all_goals first | (simp; done) | skip
  have := splitL_len 10 s.dropLast
  simp at this
  simp only; omega
def bfTake (l : List Ba) (s : List UInt8) (most : Int) : List Ba × Int := if (baParse s).2 = false then ([], 2) else if bfHas l (baParse s).1.nt = true then ([], 7) else bfAdd l (baParse s).1 most
theorem bfGo_take (most : Int) (l : List Ba) (i : Nat) (x : List UInt8) (r : List (List UInt8)) : bfGo most l i (x :: r) = if (bfTake l x most).2 ≠ 0 then ([], (i : Int) + 1, (bfTake l x most).2) else bfGo most (bfTake l x most).1 (i + 1) r := by
  rw [bfGo]
  unfold bfTake bfAdd
  split
  · rfl
  · split
    · rfl
    · split <;> rfl
theorem bfPut_len (b : Ba) (l : List Ba) : (bfPut b l).length = l.length + 1 := by
  induction l with
  | nil => rfl
  | cons x l ih => rw [bfPut]; split <;> simp [ih]
theorem bfTake_len {l : List Ba} {s : List UInt8} {most : Int} (h : (bfTake l s most).2 = 0) : (bfTake l s most).1.length = l.length + 1 := by
  unfold bfTake bfAdd at h ⊢
  repeat' split at h
  all_goals first | (simp at h; done) | skip
  rename_i h1 h2 h3
  rw [if_neg h1, if_neg h2, if_neg h3, bfPut_len]
set_option maxRecDepth 100000 in
set_option maxHeartbeats 8000000 in
theorem take_any (v : Value) (l : List Ba) (s : ByteArray) (most : Int) (w : World) (hs : s.size ≤ 4000000000) (hc : Cpu w) (h : ReadsL baV 5 w v l) (hl : l.length ≤ 100000) :
    Calls Tryz.prog 11 #[v, .string s, .int .i64 most] w fun e w' => ∃ r, e = .returned (.tuple #[r, .int .i64 (bfTake l s.data.toList most).2]) ∧ ReadsL baV 5 w' r (bfTake l s.data.toList most).1 ∧ Below w.heap.size w w' := by
  have HP := Lib.hid (baParse_any s w hs hc)
  have hok := baParse_ok s.data.toList
  have hbt : bfTake l s.data.toList most = if (baParse s.data.toList).2 = false then ([], 2) else if bfHas l (baParse s.data.toList).1.nt = true then ([], 7) else bfAdd l (baParse s.data.toList).1 most := rfl
  rw [hbt]
  clear hbt
  generalize baParse s.data.toList = pr at *
  obtain ⟨b, ok⟩ := pr
  obtain ⟨hf, hok, _⟩ := hok
  unfold GivesBa at HP
  simp only at hf hok HP ⊢
  have HTh := Lib.hid (fun (W : World) (hb : Below w.heap.size w W) => there_any v l b.nt W (ReadsL.below h hb))
  have HAd := Lib.hid (fun (W : World) (hb : Below w.heap.size w W) => addB_any v l b most hf W (ReadsL.below h hb) hl)
  obtain ⟨hm, p, c, rfl, _⟩ := bas_open h
  clear h
  cases ok with
  | false =>
    rw [if_pos rfl]
    clear hok HAd HTh
    go_enter Tryz.func11, Tryz.ntmps11
    go_wp2_with (go_at_call 25; (with_reducible refine HP.out.mono ?_); rintro e w1 ⟨rfl, b1⟩)
    go_ret2
    exact ⟨_, rfl, baNone _ _ rfl, b1.alloc b1.size _⟩
  | true =>
    rw [if_neg (by simp)]
    have hr := (hok rfl).1
    clear hok
    have HB0 := Lib.hid (fun (W : World) => BlockIs.new W (baV b) 38)
    cases hh : bfHas l b.nt with
    | true =>
      rw [if_pos rfl]
      rw [hh] at HTh
      clear hh HAd hr
      go_enter Tryz.func11, Tryz.ntmps11
      go_wp2_with (first | (go_at_call 25; (with_reducible refine HP.out.mono ?_); rintro e w1 ⟨rfl, b1⟩; have z1 := b1.size; have b2 : Below w.heap.size w (w1.alloc (.cells #[.bool b.nt.ad.v6, .int .u64 b.nt.ad.hi, .int .u64 b.nt.ad.lo, .int .i64 b.nt.bits, .int .i64 b.till] 38)) := b1.alloc z1 _) | (go_at_call 26; (with_reducible refine (HTh.out _ b2).mono ?_); rintro e w3 ⟨rfl, b3⟩; have b4 := below2 b2 b3))
      go_ret2
      exact ⟨_, rfl, baNone _ _ rfl, b4⟩
    | false =>
      rw [if_neg (by simp)]
      rw [hh] at HTh
      have HAD := Lib.hid (fun W hb => HAd.out W hb hr hh)
      clear HAd hr hh
      go_enter Tryz.func11, Tryz.ntmps11
      go_wp2_with (first | (go_at_call 25; (with_reducible refine HP.out.mono ?_); rintro e w1 ⟨rfl, b1⟩; have z1 := b1.size; have b2 : Below w.heap.size w (w1.alloc (.cells #[.bool b.nt.ad.v6, .int .u64 b.nt.ad.hi, .int .u64 b.nt.ad.lo, .int .i64 b.nt.bits, .int .i64 b.till] 38)) := b1.alloc z1 _; have k2 := HB0.out w1) | (go_at_call 26; (with_reducible refine (HTh.out _ b2).mono ?_); rintro e w3 ⟨rfl, b3⟩; have b4 := below2 b2 b3; obtain ⟨y0, y1, y2, y3, y4⟩ := ba_box (k2.below b3); simp only [Nat.zero_add] at y0 y1 y2 y3 y4) | (go_at_call 27; (with_reducible refine (HAD.out _ b4).mono ?_); rintro e w5 ⟨r5, rfl, rd5, b5⟩))
      go_ret2
      exact ⟨_, rfl, rd5, below2 b4 b5⟩
def GivesBf (w : World) (r : List Ba × Int × Int) (e : Ending) (w' : World) : Prop := ∃ v, e = .returned (.tuple #[v, .int .i64 r.2.1, .int .i64 r.2.2]) ∧ ReadsL baV 5 w' v r.1 ∧ Below w.heap.size w w'
set_option maxRecDepth 100000 in
set_option maxHeartbeats 8000000 in
theorem bfParse_any (s : ByteArray) (most : Int) (w : World) (hs : s.size ≤ 90000) (hc : Cpu w) : Calls Tryz.prog 5 #[.string s, .int .i64 most] w (GivesBf w (bfParse s.data.toList most)) := by
  have hL := lines_any s w (by omega)
  have hpl := bf_lines_plen s.data.toList
  have hcn := bf_lines_cnt s.data.toList
  rw [len_data] at hpl hcn
  have hg : bfParse s.data.toList most = if (linesL s.data.toList).2 ≠ 0 then ([], 0, (linesL s.data.toList).2) else bfGo most [] 0 (linesL s.data.toList).1 := rfl
  rw [hg]
  clear hg
  generalize linesL s.data.toList = r at *
  obtain ⟨L, e⟩ := r
  unfold GivesLines at hL
  simp only at hL hpl hcn ⊢
  have HL := Lib.hid hL; clear hL
  have HPL := Lib.hid hpl; clear hpl
  unfold GivesBf
  by_cases he : e ≠ 0
  · rw [if_pos he]
    have q : (e != 0) = true := by simpa using he
    clear he
    go_enter Tryz.func5, Tryz.ntmps5
    go_wp2_with (go_at_call 10; (with_reducible refine HL.out.mono ?_); rintro e w1 ⟨v1, rfl, ho1, b1⟩)
    go_ret3
    exact ⟨_, rfl, baNone _ _ rfl, b1⟩
  · obtain rfl : e = 0 := by omega
    rw [if_neg he]
    clear he
    go_enter Tryz.func5, Tryz.ntmps5
    go_upto_region 5 with (go_at_call 10; (with_reducible refine HL.out.mono ?_); rintro e w1 ⟨v1, rfl, ho1, b1⟩)
    obtain ⟨_, hLn, a, cap, rfl, ho⟩ := (owns_reads ho1).open
    have HRD := Lib.hid ho; have HB1 := Lib.hid b1
    clear ho ho1 b1
    go_wp2_with fail
    go_loopw [9, 24] (fun v' i wr => ∃ (k : Nat) (l : List Ba) (v : Value), k ≤ L.length ∧ l.length = k ∧ i = .int .i64 k ∧ v' = v ∧ Hid (ReadsL baV 5 wr v l) ∧ Hid (bfGo most [] 0 L = bfGo most l k (L.drop k)) ∧ Below w1.heap.size w1 wr) (fun _ i _ => L.length - (intOf i).toNat)
    case atStart => exact ⟨0, [], _, Nat.zero_le _, rfl, rfl, rfl, baNone _ _ rfl, rfl, Below.refl _ _⟩
    case round =>
      obtain ⟨k, l, v, hk, hlk, rfl, rfl, HV, HG, hb⟩ := hrel
      by_cases hlt : k < L.length
      · obtain ⟨b, o, rfl, hcap, hbl, hx⟩ := HRD.out (by omega)
        obtain ⟨x, hxx⟩ : ∃ x, L[k]? = some x := ⟨_, List.getElem?_eq_getElem hlt⟩
        have hcl := keep hb hbl (hx k (sv x) (by rw [List.getElem?_map, hxx]; rfl))
        have hdr : L.drop k = x :: L.drop (k + 1) := by rw [List.drop_eq_getElem_cons hlt]; congr 1; exact (List.getElem?_eq_some_iff.1 hxx).2
        have hgo := HG.out
        rw [hdr, bfGo_take] at hgo
        have hTk := take_any _ l (bs x) most wr (by rw [bs_size]; have := HPL.out x (List.mem_of_getElem? hxx); omega) ((hc.below HB1.out).below hb) HV.out (by omega)
        rw [bs_data] at hTk
        have htl := fun h => @bfTake_len l x most h
        generalize bfTake l x most = t at *
        obtain ⟨t, te⟩ := t
        simp only at hTk hgo htl
        have q1 : (0 : Int) ≤ (k : Int) := by omega
        have q2 : (k : Int) < (L.length : Int) := by omega
        have HTK := Lib.hid hTk
        unfold sv at hcl
        have HLK := Lib.hid hlk
        clear hlk
        obtain ⟨_, pv, cv, rfl, _⟩ := bas_open HV.out
        clear hTk hdr hxx hx HV HG
        by_cases hte : te ≠ 0
        · rw [if_pos hte] at hgo
          have HGO := Lib.hid hgo
          have q3 : (te != 0) = true := by simpa using hte
          have hw1 : IntKind.i64.wrap ((k : Int) + 1) = (k : Int) + 1 := by rw [IntKind.wrap_i64]; omega
          clear hgo hte
          go_wp2_with (go_at_call 11; (with_reducible refine HTK.out.mono ?_); rintro e w5 ⟨r5, rfl, rd5, b5⟩)
          go_ret3
          exact ⟨.slice none 0 0, by rw [HGO.out]; rfl, by rw [HGO.out]; exact baNone _ _ rfl, HB1.out.trans ((hb.trans (b5.mono hb.size)).mono HB1.out.size)⟩
        · obtain rfl : te = 0 := by omega
          rw [if_neg hte] at hgo
          have HGO := Lib.hid hgo
          have htl2 := htl rfl
          clear hgo hte htl
          go_wp2_with (go_at_call 11; (with_reducible refine HTK.out.mono ?_); rintro e w5 ⟨r5, rfl, rd5, b5⟩)
          go_roundw
          case rel => exact ⟨k + 1, t, _, by omega, by have := HLK.out; omega, by go_num, rfl, rd5, HGO.out, hb.trans (b5.mono hb.size)⟩
          case measure => simp [intOf]; omega
      · obtain rfl : k = L.length := by omega
        have hgo := HG.out
        rw [List.drop_length, bfGo] at hgo
        have HGO := Lib.hid hgo
        obtain ⟨_, pv, cv, rfl, _⟩ := bas_open HV.out
        clear hgo HG
        go_wp2_with fail
        go_ret3
        exact ⟨.slice pv l.length cv, by rw [HGO.out]; rfl, by rw [HGO.out]; exact HV.out, HB1.out.trans (hb.mono HB1.out.size)⟩
end Go.Proofs.YtdmobgdgeiiicaaGreat
