/- Texts put together: Ip6Full, Ip6G, Ip6H. No condition. -/
import Derived.Test.YtnohkfbapibmdaaGreatRatcaptwxtl
import Derived.Test.YtnohkfbapibmdaaGreatRows
import Derived.WalkKit
import Derived.WalkSpells
import Derived.WalkLawsBesides
import Derived.BigGuardPart
import Derived.BigQuiet
import Derived.Deep.QuietTactic
import Derived.Deep.Light
import Derived.OwnWalk
import Derived.Laws.OwnMore
import Derived.StillTailTactics
import Derived.BigRegion
import Derived.Handy
namespace Go.Proofs.YtnohkfbapibmdaaGreat
open Go.RowKit


def iv (n : Nat) : Value := .int .i64 n
theorem intRow : RowT Tryz.prog 111 3 1 8 := RowT.mk (.int .i64 0) Tryz.underlying111 (by kernel_rfl) rfl (by omega)
def FullAt (W : World) (L : List (List UInt8)) (k : Nat) (v : Value) (wr : World) : Prop :=
  ∃ a : List Nat, k ≤ a.length ∧ (a.length = k ∨ (a.length = k + 1 ∧ k = L.length)) ∧ (∀ x ∈ a, x < 65536) ∧ fullP (L.drop k) a = fullP L [] ∧ wr.ownsRow W.heap.size 3 1 v a.length (a.map iv)
theorem mem_snoc {a : List Nat} {n : Nat} (h : ∀ x ∈ a, x < 65536) (hn : n < 65536) : ∀ x ∈ a ++ [n], x < 65536 := by
  intro x hx; rcases List.mem_append.1 hx with h1 | h1
  · exact h x h1
  · simp at h1; omega
set_option maxRecDepth 100000 in
set_option maxHeartbeats 2000000 in
theorem full_any (v : Value) (L : List (List UInt8)) (w : World) (hN : L.length ≤ 8000000000000) (hs : ∀ p ∈ L, p.length ≤ 8000000000000) (hv : Reads w v L.length 1 (L.map sv)) :
    Calls Tryz.prog 80 #[v] w fun e w' => e = .returned (.tuple #[.int .u64 (fullL L).1, .int .u64 (fullL L).2.1, .bool (fullL L).2.2]) ∧ Below w.heap.size w w' := by
  obtain ⟨_, _, ad, c, rfl, hx⟩ := hv.open
  have HX := Lib.hid hx; have HS := Lib.hid hs; clear hx hs hv
  go_enter Tryz.func80, Tryz.ntmps80
  go_wp2_with fail
  go_loopw [6, 5] (fun i x wr => ∃ k : Nat, k ≤ L.length ∧ k ≤ 9 ∧ i = .int .i64 k ∧ Below w.heap.size w wr ∧ Hid (FullAt w L k x wr)) (fun i _ _ => 9 - (intOf i).toNat)
  case atStart => exact ⟨0, Nat.zero_le _, by omega, rfl, Below.refl _ _, ⟨[], by simp, by simp, by simp, rfl, World.ownsRow_nil _ _ _ _⟩⟩
  case round =>
    obtain ⟨k, hk, hk9, rfl, hb, HF⟩ := hrel
    obtain ⟨a, ha1, ha2, ha3, hfp, hown⟩ := HF.out
    obtain ⟨sa, sc, rfl⟩ := owns_slice hown
    have hz := hb.size
    have HFP := Lib.hid hfp; have HA3 := Lib.hid ha3; clear hfp ha3
    by_cases hk2 : k < L.length ∧ k < 9
    · obtain ⟨hk2, hk3⟩ := hk2
      obtain ⟨b, o, rfl, h1, h2, h3⟩ := HX.out (by omega)
      have c1 : wr.cell? ⟨b, o + k, none⟩ = some (.string (bs L[k])) := keep hb h2 (h3 k _ (by rw [List.getElem?_map, List.getElem?_eq_getElem hk2]; rfl))
      have hsz : (bs L[k]).size ≤ 8000000000000 := by rw [bs_size]; exact HS.out _ (List.getElem_mem hk2)
      have hv4 := fun w => ref4Parse_any (bs L[k]) w hsz
      have hhx := fun w => refParseHex_any (bs L[k]) w (by omega)
      simp only [bs_data] at hv4 hhx
      have hdr : L.drop k = L[k] :: L.drop (k + 1) := List.drop_eq_getElem_cons hk2
      have hst : fullP L [] = if (hexParse L[k]).2 = true then fullP (L.drop (k + 1)) (a ++ [(hexParse L[k]).1.toNat])
          else if (v4parse L[k]).2 = true ∧ L.drop (k + 1) = [] then some (a ++ [(v4parse L[k]).1 / 65536, (v4parse L[k]).1 % 65536]) else none := by
        rw [← HFP.out, hdr]; rfl
      have hlast : L.drop (k + 1) = [] ↔ k + 1 = L.length := by rw [List.drop_eq_nil_iff]; omega
      simp only [hlast] at hst
      have hb4 : (v4parse L[k]).1 < 4294967296 := by
        cases h : (v4parse L[k]).2 with
        | true => exact (v4parse_true (l := L[k]) (n := (v4parse L[k]).1) (by rw [← h])).1
        | false => rw [v4parse_false h]; decide
      have hbh := hexParse_bd L[k]
      generalize hn4 : (v4parse L[k]).1 = n4 at hst hb4 hv4
      generalize hvv : (v4parse L[k]).2 = ok4 at hst hv4
      generalize hnh : (hexParse L[k]).1 = nh at hst hbh hhx
      generalize hvh : (hexParse L[k]).2 = okh at hst hhx
      have HST := Lib.hid hst; have HV4 := Lib.hid hv4; have HHX := Lib.hid hhx; have H3 := Lib.hid h3
      clear hst hv4 hhx hdr hlast hn4 hvv hnh hvh h3
      cases okh with
      | true =>
        have hst : Hid (fullP (L.drop (k + 1)) (a ++ [nh.toNat]) = fullP L []) := by unfold Hid; rw [HST.out, if_pos rfl]
        clear HST
        go_wp2_with (first | (go_at_call 82; refine (HHX.out _).mono ?_; rintro e w3 ⟨rfl, rfl⟩) | (at_builtin; refine list_app intRow rfl (.tmp 59) (.tmp 61) rfl w.heap.size _ a.length (a.map iv) rfl hown [_] rfl rfl rfl (by omega) (by omega) hz w.heap.size w hb (Nat.le_refl _) ?_; intro v' w' hown' hb'))
        go_roundw
        case rel =>
          refine ⟨k + 1, by omega, by omega, by go_num, hb', ⟨a ++ [nh.toNat], by simp; omega, by simp; omega, mem_snoc HA3.out (by omega), hst.out, ?_⟩⟩
          have e : [Value.int .i64 nh] = [nh.toNat].map iv := by simp [iv]; omega
          rw [e] at hown'
          simpa using hown'
        case measure => simp [intOf]; omega
      | false =>
        by_cases hc : ok4 = true ∧ k + 1 = L.length
        · obtain ⟨rfl, hl⟩ := hc
          have hst : Hid (fullP (L.drop (k + 1)) (a ++ [n4 / 65536] ++ [n4 % 65536]) = fullP L []) := by
            unfold Hid; rw [HST.out, if_neg (by simp), if_pos ⟨rfl, hl⟩, List.drop_eq_nil_of_le (by omega)]; simp [fullP]
          have hq : ((k : Int) != (L.length : Int) - 1) = false := by rw [bne_eq_false_iff_eq]; omega
          have q3 : IntKind.i64.wrap ((L.length : Int) - 1) = (L.length : Int) - 1 := IntWalk.i64_in _ (by omega)
          clear HST
          go_wp2_with (first | (go_at_call 82; refine (HHX.out _).mono ?_; rintro e w3 ⟨rfl, rfl⟩) | (go_at_call 44; refine (HV4.out _).mono ?_; rintro e w2 ⟨rfl, b2⟩) | (at_builtin; refine list_app intRow rfl (.tmp 50) (.tmp 54) rfl w.heap.size _ a.length (a.map iv) rfl (owns_below hown b2) [_] rfl rfl rfl (by omega) (by omega) (by have := b2.size; omega) w.heap.size w (below2 hb b2) (Nat.le_refl _) ?_; intro v' w' hown' hb') | (at_builtin; refine list_app intRow rfl (.tmp 59) (.tmp 61) rfl w.heap.size _ (a.length + 1) _ rfl hown' [_] rfl rfl rfl (by omega) (by omega) hb'.size w.heap.size w hb' (Nat.le_refl _) ?_; intro v2' w2' hown2' hb2'))
          go_roundw
          case rel =>
            refine ⟨k + 1, by omega, by omega, by go_num, hb2', ⟨a ++ [n4 / 65536] ++ [n4 % 65536], by simp; omega, by simp; omega, mem_snoc (mem_snoc HA3.out (by omega)) (by omega), hst.out, ?_⟩⟩
            simpa [iv] using hown2'
          case measure => simp [intOf]; omega
        · have hres : Hid (fullL L = (0, 0, false)) := by unfold Hid fullL; rw [HST.out, if_neg (by simp), if_neg hc]
          have h3 : ok4 = false ∨ (ok4 = true ∧ ((k : Int) != (L.length : Int) - 1) = true) := by
            cases ok4
            · exact Or.inl rfl
            · exact Or.inr ⟨rfl, by rw [bne_iff_ne]; intro h; exact hc ⟨rfl, by omega⟩⟩
          have q3 : IntKind.i64.wrap ((L.length : Int) - 1) = (L.length : Int) - 1 := IntWalk.i64_in _ (by omega)
          clear HST hc
          rcases h3 with rfl | ⟨rfl, hq⟩
          all_goals
            go_wp2_with (first | (go_at_call 82; refine (HHX.out _).mono ?_; rintro e w3 ⟨rfl, rfl⟩) | (go_at_call 44; refine (HV4.out _).mono ?_; rintro e w2 ⟨rfl, b2⟩))
            go_ret3
            exact ⟨by rw [hres.out]; rfl, below2 hb b2⟩
    · by_cases hgood : a.length = 8 ∧ L.length ≤ 8
      · obtain ⟨ha8, hl8⟩ := hgood
        have hkl : k = L.length := by omega
        have hres : fullL L = (numL (a.take 4), numL (a.drop 4), true) := by
          unfold fullL; rw [← HFP.out, List.drop_eq_nil_of_le (by omega)]; simp only [fullP]; rw [if_pos ⟨ha8, hl8⟩]
        have hq : ((a.length : Int) != 8) = false := by rw [bne_eq_false_iff_eq]; omega
        have hq2 : ¬ (8 : Int) < (L.length : Int) := by omega
        have hkk : ¬ k < L.length := by omega
        obtain ⟨g, c9, e9, hg1, hg2, hg3⟩ := owns_some hown (by omega)
        injection e9 with e9 _ e10
        subst e9; subst e10
        have hci := fun (i : Nat) (x : Nat) (h : a[i]? = some x) => (hown.cellAt i (by have := (List.getElem?_eq_some_iff.1 h).1; omega)).trans (by rw [List.getElem?_map, h]; rfl : (a.map iv)[i]? = some (iv x))
        have hax := HA3.out
        have HRes := Lib.hid hres; have HC := Lib.hid hci; have HAx := Lib.hid hax; have HL8 := Lib.hid ha8
        clear hres hci hax hk2 HF HFP HA3 hkl
        have hgb : g < wr.heap.size := hg2
        obtain ⟨wo, rfl⟩ : ∃ wo : World, wo = wr := ⟨_, rfl⟩
        go_wp2_with fail
        go_loopw [12] (fun x wl => ∃ i : Nat, x = .int .i64 i ∧ i ≤ 8 ∧ Below wo.heap.size wo wl ∧ Hid (BlockIs wl wo.heap.size [.int .u64 (numL ((a.take i).take 4) : Nat), .int .u64 (numL ((a.take i).drop 4) : Nat)] 112)) (fun x _ => 8 - (intOf x).toNat)
        case atStart => exact ⟨0, rfl, by omega, (Below.refl _ _).alloc (Nat.le_refl _) _, BlockIs.new wo [.int .u64 0, .int .u64 0] 112⟩
        case round =>
          obtain ⟨i, rfl, hi, hbl, HB⟩ := hrel
          by_cases hi8 : i < 8
          · obtain ⟨x, hx⟩ : ∃ x, a[i]? = some x := ⟨_, List.getElem?_eq_getElem (by have := HL8.out; omega)⟩
            have hxl := HAx.out x (List.mem_of_getElem? hx)
            have c9 := keep hbl hgb (HC.out i x hx)
            have c0 := HB.out.cell (i := 0) rfl
            have c1 := HB.out.cell (i := 1) rfl
            have f0 := HB.out.frozen 0
            have f1 := HB.out.frozen 1
            have hblt := HB.out.lt
            have q1 : (0 : Int) ≤ (i : Int) := by omega
            have q2 : (i : Int) < (a.length : Int) := by have := HL8.out; omega
            have ht : a.take (i + 1) = a.take i ++ [x] := by rw [List.take_add_one, hx]; rfl
            unfold iv at c9
            by_cases hi4 : i < 4
            · have hq : (i : Int) / 4 = 0 := by omega
              have n1 : (a.take (i + 1)).take 4 = (a.take i).take 4 ++ [x] := by
                have e1 : (a.take (i + 1)).take 4 = a.take (i + 1) := List.take_of_length_le (by simp; omega)
                have e2 : (a.take i).take 4 = a.take i := List.take_of_length_le (by simp; omega)
                rw [e1, e2]; exact ht
              have n2 : (a.take (i + 1)).drop 4 = (a.take i).drop 4 := by rw [List.drop_eq_nil_of_le (by simp; omega), List.drop_eq_nil_of_le (by simp; omega)]
              have hb0 := numL_lt ((a.take i).take 4) (fun y hy => HAx.out y (List.mem_of_mem_take (List.mem_of_mem_take hy)))
              have hb1 : 65536 ^ ((a.take i).take 4).length ≤ 65536 ^ 3 := Nat.pow_le_pow_right (by omega) (by simp; omega)
              have hn : numL ((a.take (i + 1)).take 4) = numL ((a.take i).take 4) * 65536 + x := by rw [n1]; simp [numL]
              have hbd : numL ((a.take i).take 4) < 281474976710656 := by omega
              have HN := Lib.hid hn; have HN2 := Lib.hid n2
              clear hn n1 n2 hb0 hb1 ht hx
              generalize numL ((a.take i).take 4) = h0 at *
              generalize hh1 : numL ((a.take i).drop 4) = h1 at *
              have HH1 := Lib.hid hh1; clear hh1
              go_wp2_with fail
              have q2b : (i : Int) < 8 := by omega
              go_region
              go_wp2_with fail
              refine ⟨⟨i + 1, by go_num, by omega, (hbl.setCell (Nat.le_refl _) _).drew, ?_⟩, by simp [intOf]; omega⟩
              have e : (.int .u64 ((h0 : Int) * 65536 + x) : Value) = .int .u64 ((h0 * 65536 + x : Nat) : Int) := by congr 1
              unfold Hid; rw [HN.out, HN2.out, HH1.out, e]
              exact HB.out.set 0 _
            · have hq : (i : Int) / 4 = 1 := by omega
              have n1 : (a.take (i + 1)).drop 4 = (a.take i).drop 4 ++ [x] := by rw [ht, List.drop_append_of_le_length (by simp; omega)]
              have n2 : (a.take (i + 1)).take 4 = (a.take i).take 4 := by rw [List.take_take, List.take_take, Nat.min_eq_left (by omega), Nat.min_eq_left (by omega)]
              have hb0 := numL_lt ((a.take i).drop 4) (fun y hy => HAx.out y (List.mem_of_mem_take (List.mem_of_mem_drop hy)))
              have hb1 : 65536 ^ ((a.take i).drop 4).length ≤ 65536 ^ 3 := Nat.pow_le_pow_right (by omega) (by simp; omega)
              have hn : numL ((a.take (i + 1)).drop 4) = numL ((a.take i).drop 4) * 65536 + x := by rw [n1]; simp [numL]
              have hbd : numL ((a.take i).drop 4) < 281474976710656 := by omega
              have HN := Lib.hid hn; have HN2 := Lib.hid n2
              clear hn n1 n2 hb0 hb1 ht hx
              generalize numL ((a.take i).drop 4) = h0 at *
              generalize hh1 : numL ((a.take i).take 4) = h1 at *
              have HH1 := Lib.hid hh1; clear hh1
              go_wp2_with fail
              have q2b : (i : Int) < 8 := by omega
              go_region
              go_wp2_with fail
              refine ⟨⟨i + 1, by go_num, by omega, (hbl.setCell (Nat.le_refl _) _).drew, ?_⟩, by simp [intOf]; omega⟩
              have e : (.int .u64 ((h0 : Int) * 65536 + x) : Value) = .int .u64 ((h0 * 65536 + x : Nat) : Int) := by congr 1
              unfold Hid; rw [HN.out, HN2.out, HH1.out, e]
              exact HB.out.set 1 _
          · have e : a.take i = a := List.take_of_length_le (by have := HL8.out; omega)
            have hB := HB.out
            rw [e] at hB
            have c0 := hB.cell (i := 0) rfl
            have c1 := hB.cell (i := 1) rfl
            clear e hB
            go_wp2_with fail
            go_region
            go_wp2_with fail
            go_ret3
            exact ⟨by rw [HRes.out]; rfl, hb.trans ((hbl.mono hz).drew)⟩
      · have hres : Hid (fullL L = (0, 0, false)) := by
          unfold Hid fullL
          cases hf : fullP L [] with
          | none => rfl
          | some g =>
            simp only
            rw [if_neg]
            rintro ⟨h8, hl⟩
            have hkl : k = L.length := by omega
            have := HFP.out
            rw [List.drop_eq_nil_of_le (by omega), hf] at this
            simp only [fullP, Option.some.injEq] at this
            subst this; exact hgood ⟨h8, hl⟩
        by_cases h8 : a.length = 8
        · have hq : ((a.length : Int) != 8) = false := by rw [bne_eq_false_iff_eq]; omega
          have q1 : (8 : Int) < (L.length : Int) := by omega
          have h9 : k = 9 := by omega
          clear hgood
          go_wp2_with fail
          all_goals (go_ret3; exact ⟨by rw [hres.out]; rfl, hb⟩)
        · have hq : ((a.length : Int) != 8) = true := by rw [bne_iff_ne]; omega
          by_cases hkl : k < L.length
          · have h9 : ¬ (k : Int) < 9 := by omega
            go_wp2_with fail
            all_goals (go_ret3; exact ⟨by rw [hres.out]; rfl, hb⟩)
          · go_wp2_with fail
            all_goals (go_ret3; exact ⟨by rw [hres.out]; rfl, hb⟩)
end Go.Proofs.YtnohkfbapibmdaaGreat
namespace Go.Proofs.YtnohkfbapibmdaaGreat
open Go.RowKit

theorem hexT (n : Nat) (h : n < 65536) : hexText (n : Int) = hexs n := by
  unfold hexText; rw [if_neg (by omega), Int.toNat_natCast]
theorem refHexN (n : Nat) (h : n < 65536) (w : World) : Calls Tryz.prog 88 #[.int .i64 n] w fun e w' => e = .returned (.string (bs (hexs n))) ∧ Below w.heap.size w w' := by
  have := refHex_any 3 (n : Int) w (by rw [Int.toNat_natCast]; exact h)
  rw [hexT n h] at this; exact this
theorem hexJ_one (n : Nat) : hexJ [n] = hexs n := joinL_one 58 (hexs n)
theorem hexJ_snoc (L : List Nat) (n : Nat) (h : L ≠ []) : hexJ (L ++ [n]) = hexJ L ++ 58 :: hexs n := by
  unfold hexJ; rw [List.map_append, List.map_cons, List.map_nil, joinL_snoc _ _ _ (by simpa using h)]
end Go.Proofs.YtnohkfbapibmdaaGreat
namespace Go.Proofs.YtnohkfbapibmdaaGreat
open Go.RowKit

theorem runK_eq (g : List Nat) (k : Nat) (h : (runK g k).1 = (runK g k).2) : (runK g k).1 = 0 := by
  induction k with
  | zero => rfl
  | succ k ih =>
    rw [runK_succ] at *
    unfold runStep at *
    split at h
    · simp at h; omega
    · rename_i hc; rw [if_neg hc]; exact ih h
theorem str_last (r : List UInt8) (y : UInt8) : ∃ sb : ByteArray, sb = bs (r ++ [y]) ∧ sb.size = r.length + 1 ∧ sb.toList.isEmpty = false ∧ ∀ h : r.length < sb.size, sb[r.length]'h = y := by
  have hs : (bs (r ++ [y])).size = r.length + 1 := by rw [bs_size, List.length_append]; rfl
  refine ⟨_, rfl, hs, by rw [isE, bs_data]; simp, fun h => ?_⟩
  have := get_data (bs (r ++ [y])) r.length h
  rw [bs_data] at this
  simp at this
  exact this.symm
/-- the text so far, at group i -/
def TxAt (g : List Nat) (f t : Nat) (gap : Bool) (i : Nat) (s : List UInt8) : Prop :=
  ((gap = false ∨ i ≤ f) ∧ s = hexJ (g.take i)) ∨ (gap = true ∧ t ≤ i ∧ s = hexJ (g.take f) ++ ([58, 58] ++ hexJ ((g.take i).drop t)))
theorem hexJ_last (L : List Nat) : (hexJ L).getLast? ≠ some 58 := (joinL_nogap _ (hexJ_ok L)).2.2
theorem tx_step {g : List Nat} {f t : Nat} {gap : Bool} {i x : Nat} {s : List UInt8} (h : TxAt g f t gap i s) (hx : g[i]? = some x) (hi : i < 8) (hf : ¬ (gap = true ∧ i = f)) (ht : t ≤ 8) (hft : f ≤ t) (h8 : g.length = 8) :
    (s = [] ∧ TxAt g f t gap (i + 1) (hexs x)) ∨ (∃ y r, s = r ++ [y] ∧ y = 58 ∧ TxAt g f t gap (i + 1) (s ++ hexs x)) ∨ (∃ y r, s = r ++ [y] ∧ y ≠ 58 ∧ TxAt g f t gap (i + 1) (s ++ [58] ++ hexs x)) := by
  have hs : g.take (i + 1) = g.take i ++ [x] := by rw [List.take_add_one, hx]; rfl
  rcases h with ⟨h1, rfl⟩ | ⟨h1, h2, rfl⟩
  · have h1' : gap = false ∨ i + 1 ≤ f := by
      rcases h1 with h | h
      · exact Or.inl h
      · cases gap
        · exact Or.inl rfl
        · exact Or.inr (by have : i ≠ f := fun e => hf ⟨rfl, e⟩; omega)
    by_cases h0 : i = 0
    · subst h0
      refine Or.inl ⟨rfl, Or.inl ⟨h1', ?_⟩⟩
      rw [hs]; simp [hexJ_one]
    · have hne : g.take i ≠ [] := by intro e; have := congrArg List.length e; rw [List.length_take, h8] at this; simp at this; omega
      have hl := hexJ_last (g.take i)
      have hp := hexJ_pos _ hne
      obtain ⟨y, r, e⟩ : ∃ y r, hexJ (g.take i) = r ++ [y] := ⟨_, _, (List.dropLast_concat_getLast (by intro e; rw [e] at hp; simp at hp)).symm⟩
      refine Or.inr (Or.inr ⟨y, r, e, fun hy => hl (by rw [e, hy]; simp), Or.inl ⟨h1', ?_⟩⟩)
      rw [hs, hexJ_snoc _ _ hne]; simp
  · have hd : (g.take (i + 1)).drop t = (g.take i).drop t ++ [x] := by rw [hs, List.drop_append_of_le_length (by rw [List.length_take, h8]; omega)]
    by_cases h0 : i = t
    · subst h0
      have e0 : (g.take i).drop i = [] := List.drop_eq_nil_of_le (by rw [List.length_take]; omega)
      refine Or.inr (Or.inl ⟨58, hexJ (g.take f) ++ [58], ?_, rfl, Or.inr ⟨h1, by omega, ?_⟩⟩)
      · rw [e0]; show hexJ (g.take f) ++ ([58, 58] ++ []) = _; simp
      · rw [hd, e0]; show hexJ (g.take f) ++ ([58, 58] ++ []) ++ hexs x = _; simp [hexJ_one]
    · have hne : (g.take i).drop t ≠ [] := by intro e; have := congrArg List.length e; rw [List.length_drop, List.length_take, h8] at this; simp at this; omega
      have hl := hexJ_last ((g.take i).drop t)
      have hp := hexJ_pos _ hne
      obtain ⟨y, r, e⟩ : ∃ y r, hexJ ((g.take i).drop t) = r ++ [y] := ⟨_, _, (List.dropLast_concat_getLast (by intro e; rw [e] at hp; simp at hp)).symm⟩
      refine Or.inr (Or.inr ⟨y, hexJ (g.take f) ++ ([58, 58] ++ r), by rw [e]; simp, fun hy => hl (by rw [e, hy]; simp), Or.inr ⟨h1, by omega, ?_⟩⟩)
      rw [hd, hexJ_snoc _ _ hne]; simp
theorem tx_gap {g : List Nat} {f t : Nat} {s : List UInt8} (h : TxAt g f t true f s) (hft : f < t) (h8 : g.length = 8) (ht : t ≤ 8) : TxAt g f t true t (s ++ [58, 58]) := by
  rcases h with ⟨_, rfl⟩ | ⟨_, h2, _⟩
  · refine Or.inr ⟨rfl, Nat.le_refl _, ?_⟩
    have e0 : (g.take t).drop t = [] := List.drop_eq_nil_of_le (by rw [List.length_take]; omega)
    rw [e0]; show _ = hexJ (g.take f) ++ ([58, 58] ++ []); simp
  · omega
theorem tx_end {g : List Nat} {gap : Bool} {s : List UInt8} (hgap : gap = decide (2 ≤ (runL g).2 - (runL g).1)) (h : TxAt g (runL g).1 (runL g).2 gap 8 s) (h8 : g.length = 8) (hf : gap = true → (runL g).1 < 8) : s = textG g (runL g) := by
  have e8 : g.take 8 = g := List.take_of_length_le (by omega)
  unfold textG
  rcases h with ⟨h1, rfl⟩ | ⟨h1, h2, rfl⟩
  · rw [e8]
    rcases h1 with h1 | h1
    · rw [if_pos]
      rw [h1] at hgap
      have := of_decide_eq_false hgap.symm
      omega
    · rw [if_pos]
      cases gap
      · have := of_decide_eq_false hgap.symm; omega
      · have := hf rfl; omega
  · rw [h1] at hgap
    have := of_decide_eq_true hgap.symm
    rw [if_neg (by omega), e8]
theorem at_end (g : List Nat) (h8 : g.length = 8) : (atK g 8 = -1 ∧ ¬ 2 ≤ (runL g).2 - (runL g).1) ∨ (atK g 8 = ((runL g).1 : Int) ∧ 2 ≤ (runL g).2 - (runL g).1 ∧ (runL g).1 < 8 ∧ (runL g).2 ≤ 8 ∧ (runL g).2 = (runL g).1 + zc (g.drop (runL g).1)) := by
  have h := atK_run g 8
  have e : runK g 8 = runL g := rfl
  have hk := runK_ok g 8
  rw [e] at h hk
  by_cases hc : (runL g).2 - (runL g).1 < 2
  · rw [if_pos hc] at h; exact Or.inl ⟨h, by omega⟩
  · rw [if_neg hc] at h
    obtain ⟨a, b, c⟩ := hk
    have hne : ¬ (runL g).1 = (runL g).2 := by omega
    rw [if_neg hne] at c
    have h2 := (run_mid g h8 (by omega)).1
    exact Or.inr ⟨h, by omega, by rcases b with b | b <;> omega, h2, c⟩
theorem atK_bd (g : List Nat) (k : Nat) : -1 ≤ atK g k ∧ (atK g k < k ∨ atK g k = -1) := by
  rw [atK_run]
  have := runK_ok g k
  split
  · exact ⟨by omega, Or.inr rfl⟩
  · obtain ⟨_, b, _⟩ := this; exact ⟨by omega, Or.inl (by omega)⟩
set_option maxRecDepth 100000 in
set_option maxHeartbeats 2000000 in
theorem ref6Text_any (hi lo : Nat) (h1 : hi < 18446744073709551616) (h2 : lo < 18446744073709551616) (w : World) :
    Calls Tryz.prog 63 #[.int .u64 hi, .int .u64 lo] w fun e w' => e = .returned (.string (bs (v6text hi lo))) ∧ Below w.heap.size w w' := by
  have hgr := fun (j : Nat) (hj : j < 8) w => group_any hi lo j h1 h2 hj w
  have hzr := fun (j : Nat) (hj : j ≤ 8) w => zeros_any hi lo j h1 h2 hj w
  have hg := grps_lt hi lo h1 h2
  have h8 : (grps hi lo).length = 8 := rfl
  have hv : v6text hi lo = textG (grps hi lo) (runL (grps hi lo)) := rfl
  rw [hv]; clear hv
  obtain ⟨out, hout⟩ : ∃ out, out = textG (grps hi lo) (runL (grps hi lo)) := ⟨_, rfl⟩
  rw [← hout]
  generalize grps hi lo = g at *
  have hel : ∀ j, j < 8 → ∃ x, g[j]? = some x ∧ x < 65536 ∧ g.getD j 0 = x := fun j hj => by
    have hl : j < g.length := by omega
    exact ⟨g[j], List.getElem?_eq_getElem hl, hg _ (List.getElem_mem hl), by rw [List.getD, List.getElem?_eq_getElem hl]; rfl⟩
  have HGR := Lib.hid hgr; have HZR := Lib.hid hzr; have H8 := Lib.hid h8; have HE := Lib.hid hel
  clear hgr hzr hg h8 hel
  have HOUT := Lib.hid hout; clear hout
  have z0 : (bs [58]).size ≤ 1 := by rw [bs_size]; exact Nat.le_refl _
  have z1 : (bs [58, 58]).size ≤ 2 := by rw [bs_size]; exact Nat.le_refl _
  have hd : (⟨#[58]⟩ : ByteArray) = bs [58] := rfl
  have hd2 : (⟨#[58, 58]⟩ : ByteArray) = bs [58, 58] := rfl
  go_enter Tryz.func63, Tryz.ntmps63
  go_wp2_with fail
  go_loop [5, 6] (fun x y => ∃ (a : Int) (k : Nat), x = .int .i64 a ∧ y = .int .i64 k ∧ k ≤ 8 ∧ Hid (a = atK g k)) (fun _ y => 8 - (intOf y).toNat)
  case atStart => exact ⟨-1, 0, rfl, rfl, by omega, rfl⟩
  case round =>
    obtain ⟨a, k, rfl, rfl, hk, HA⟩ := hrel
    by_cases hk8 : k < 8
    · have hz := fun w => HZR.out k (by omega) w
      have hst := atK_succ g k
      rw [← HA.out] at hst
      unfold atStep at hst
      have hbd := atK_bd g k
      rw [← HA.out] at hbd
      have hzl := zc_le (g.drop k)
      rw [List.length_drop, H8.out] at hzl
      by_cases ha : a < 0
      · by_cases hc : 1 < zc (g.drop k)
        · rw [if_pos ⟨hc, Or.inl ha⟩] at hst
          generalize zc (g.drop k) = z at *
          have q1 : (1 : Int) < (z : Int) := by omega
          have HZ := Lib.hid hz; have HST := Lib.hid hst; clear hz hst HA
          go_wp2_with (go_at_call 87; (with_reducible refine (HZ.out _).mono ?_); rintro e w1 ⟨rfl, rfl⟩)
          go_round
          case rel => exact ⟨k, k + 1, rfl, by go_num, by omega, HST.out.symm⟩
          case measure => simp [intOf]; omega
        · rw [if_neg (fun h => hc h.1)] at hst
          generalize zc (g.drop k) = z at *
          have q1 : ¬ (1 : Int) < (z : Int) := by omega
          have HZ := Lib.hid hz; have HST := Lib.hid hst; clear hz hst HA
          go_wp2_with (go_at_call 87; (with_reducible refine (HZ.out _).mono ?_); rintro e w1 ⟨rfl, rfl⟩)
          go_round
          case rel => exact ⟨a, k + 1, rfl, by go_num, by omega, HST.out.symm⟩
          case measure => simp [intOf]; omega
      · obtain ⟨n, rfl⟩ : ∃ n : Nat, a = n := ⟨a.toNat, by omega⟩
        have hz2 := fun w => HZR.out n (by omega) w
        have hzl2 := zc_le (g.drop n)
        rw [List.length_drop, H8.out] at hzl2
        rw [Int.toNat_natCast] at hst
        by_cases hc : 1 < zc (g.drop k)
        · by_cases hc2 : zc (g.drop n) < zc (g.drop k)
          · rw [if_pos ⟨hc, Or.inr hc2⟩] at hst
            generalize zc (g.drop k) = z at *
            generalize zc (g.drop n) = z2 at *
            have q1 : (1 : Int) < (z : Int) := by omega
            have q2 : (z2 : Int) < (z : Int) := by omega
            have HZ := Lib.hid hz; have HZ2 := Lib.hid hz2; have HST := Lib.hid hst; clear hz hst hz2 HA
            go_wp2_with (go_at_call 87; (first | (with_reducible refine (HZ.out _).mono ?_) | (with_reducible refine (HZ2.out _).mono ?_)); rintro e w1 ⟨rfl, rfl⟩)
            go_round
            case rel => exact ⟨k, k + 1, rfl, by go_num, by omega, HST.out.symm⟩
            case measure => simp [intOf]; omega
          · rw [if_neg (fun h => h.2.elim (fun h => ha h) hc2)] at hst
            generalize zc (g.drop k) = z at *
            generalize zc (g.drop n) = z2 at *
            have q1 : (1 : Int) < (z : Int) := by omega
            have q2 : ¬ (z2 : Int) < (z : Int) := by omega
            have HZ := Lib.hid hz; have HZ2 := Lib.hid hz2; have HST := Lib.hid hst; clear hz hst hz2 HA
            go_wp2_with (go_at_call 87; (first | (with_reducible refine (HZ.out _).mono ?_) | (with_reducible refine (HZ2.out _).mono ?_)); rintro e w1 ⟨rfl, rfl⟩)
            go_round
            case rel => exact ⟨n, k + 1, rfl, by go_num, by omega, HST.out.symm⟩
            case measure => simp [intOf]; omega
        · rw [if_neg (fun h => hc h.1)] at hst
          generalize zc (g.drop k) = z at *
          have q1 : ¬ (1 : Int) < (z : Int) := by omega
          have HZ := Lib.hid hz; have HST := Lib.hid hst; clear hz hst hz2 HA
          go_wp2_with (go_at_call 87; (with_reducible refine (HZ.out _).mono ?_); rintro e w1 ⟨rfl, rfl⟩)
          go_round
          case rel => exact ⟨n, k + 1, rfl, by go_num, by omega, HST.out.symm⟩
          case measure => simp [intOf]; omega
    · obtain rfl : k = 8 := by omega
      obtain ⟨gap, hgap⟩ : ∃ gap : Bool, gap = decide (2 ≤ (runL g).2 - (runL g).1) := ⟨_, rfl⟩
      have hat := at_end g H8.out
      rw [← HA.out] at hat
      have hte := fun s h hf => tx_end (s := s) hgap h H8.out hf
      have hat' : (a = -1 ∧ gap = false) ∨ (a = ((runL g).1 : Int) ∧ gap = true ∧ (runL g).1 + 2 ≤ (runL g).2 ∧ (runL g).1 < 8 ∧ (runL g).2 ≤ 8 ∧ (runL g).2 = (runL g).1 + zc (g.drop (runL g).1)) := by
        rcases hat with ⟨p, q⟩ | ⟨p, q, r, s, t⟩
        · exact Or.inl ⟨p, by rw [hgap]; exact decide_eq_false q⟩
        · exact Or.inr ⟨p, by rw [hgap]; exact decide_eq_true q, by omega, r, s, t⟩
      have hts := fun i x s h hx hi hf ht hft => tx_step (g := g) (f := (runL g).1) (t := (runL g).2) (gap := gap) (i := i) (x := x) (s := s) h hx hi hf ht hft H8.out
      have hord := (runK_ok g 8).1
      have hle : (runL g).2 ≤ 8 := by
        rcases hat with ⟨p, q⟩ | ⟨p, q, r, s, t⟩
        · have := runK_ok g 8; have e : runK g 8 = runL g := rfl; rw [e] at this
          obtain ⟨_, b, c⟩ := this
          by_cases h : (runL g).1 = (runL g).2
          · have := runK_eq g 8 (by rw [e]; exact h); rw [e] at this; omega
          · rw [if_neg h] at c
            have := zc_le (g.drop (runL g).1)
            rw [List.length_drop, H8.out] at this; omega
        · exact s
      have e8 : runK g 8 = runL g := rfl
      rw [e8] at hord
      rw [← HOUT.out] at hte
      clear hat hgap HA
      generalize (runL g).1 = f at *
      generalize (runL g).2 = t at *
      have HTS := Lib.hid hts; have HTE := Lib.hid hte; clear hts hte
      have HAT := Lib.hid hat'
      go_wp2_with fail
      go_loopw [7, 8] (fun x y wr => ∃ (s : List UInt8) (i : Nat), x = .string (bs s) ∧ y = .int .i64 i ∧ i ≤ 8 ∧ s.length ≤ 6 * i + 2 ∧ Below w.heap.size w wr ∧ Hid (TxAt g f t gap i s)) (fun _ y _ => 8 - (intOf y).toNat)
      case atStart => exact ⟨[], 0, rfl, rfl, by omega, by simp, Below.refl _ _, Or.inl ⟨Or.inr (Nat.zero_le _), rfl⟩⟩
      case round =>
        obtain ⟨s, i, rfl, rfl, hi, hsl, hb, HX⟩ := hrel
        by_cases hi8 : i < 8
        · by_cases hg : gap = true ∧ i = f
          · obtain ⟨rfl, rfl⟩ := hg
            rcases HAT.out with ⟨_, h⟩ | ⟨rfl, _, h2, h3, h4, h5⟩
            · cases h
            have hq : ((i : Int) == (i : Int)) = true := by simp
            have hz := fun w => HZR.out i (by omega) w
            have hn := tx_gap HX.out (by omega) H8.out hle
            generalize zc (g.drop i) = z at *
            have HZ := Lib.hid hz; have HN := Lib.hid hn; clear hz hn HX HAT hat'
            rw [← bs_size] at hsl
            have s1 : ¬ 9223372036854775807 < (bs s).size + (bs [58, 58]).size := by omega
            go_wp2_with (go_at_call 87; (with_reducible refine (HZ.out _).mono ?_); rintro e w1 ⟨rfl, rfl⟩)
            go_roundw
            case rel =>
              refine ⟨s ++ [58, 58], t, by rw [bs_append], by go_num, by omega, ?_, hb, HN.out⟩
              rw [bs_size] at hsl; simp; omega
            case measure => simp [intOf]; omega
          · have hq : ((i : Int) == a) = false := by
              rw [beq_eq_false_iff_ne]
              rcases HAT.out with ⟨rfl, _⟩ | ⟨rfl, h1, _⟩
              · omega
              · intro h; exact hg ⟨h1, by omega⟩
            obtain ⟨x, ex, lx, dx⟩ := HE.out i hi8
            have hst := HTS.out i x s HX.out ex hi8 hg hle hord
            have hgk := fun w => HGR.out i hi8 w
            rw [dx] at hgk
            have HGK := Lib.hid hgk; clear hgk ex dx HX hg
            have lh := hexs4 x lx
            rcases hst with ⟨rfl, hn⟩ | ⟨y, r, rfl, rfl, hn⟩ | ⟨y, r, rfl, hy, hn⟩
            · have HN := Lib.hid hn; clear hn
              have s1 : ¬ 9223372036854775807 < (bs []).size + (bs (hexs x)).size := by rw [bs_size, bs_size]; simp; omega
              have s2 : (bs []).toList.isEmpty = true := by decide +kernel
              go_wp2_with (first | (go_at_call 89; (with_reducible refine (HGK.out _).mono ?_); rintro e w1 ⟨rfl, rfl⟩) | (go_at_call 88; (with_reducible refine (refHexN x lx _).mono ?_); rintro e w2 ⟨rfl, hb3⟩))
              go_roundw
              case rel => exact ⟨hexs x, i + 1, by rw [bs_append]; rfl, by go_num, by omega, by omega, below2 hb hb3, HN.out⟩
              case measure => simp [intOf]; omega
            · have HN := Lib.hid hn; clear hn
              have hsz := bs_size (r ++ [58])
              obtain ⟨sb, he, hsb, hse, hsi⟩ := str_last r 58
              rw [← he] at hsz
              rw [← he]
              have HE1 := Lib.hid he; clear he
              have s4 : (0 : Int) ≤ (sb.size : Int) - 1 := by omega
              have s5 : sb.size ≤ 100 := by omega
              rw [← bs_size] at lh
              have q1 : (((58 : UInt8).toNat : Int) != 58) = false := by rfl
              clear hsz
              have s2 : ¬ 9223372036854775807 < sb.size + (bs (hexs x)).size := by omega
              have s3 : ¬ 9223372036854775807 < sb.size + (bs [58]).size := by omega
              have s6 : ¬ 9223372036854775807 < sb.size + (bs [58]).size + (bs (hexs x)).size := by omega
              go_wp2_with (first | (go_at_call 89; (with_reducible refine (HGK.out _).mono ?_); rintro e w1 ⟨rfl, rfl⟩) | (go_at_call 88; (with_reducible refine (refHexN x lx _).mono ?_); rintro e w2 ⟨rfl, hb3⟩))
              go_roundw
              case rel =>
                refine ⟨_, i + 1, by rw [HE1.out, bs_append], by go_num, by omega, ?_, below2 hb hb3, HN.out⟩
                rw [bs_size] at lh
                simp at *; omega
              case measure => simp [intOf]; omega
            · have HN := Lib.hid hn; clear hn
              have hsz := bs_size (r ++ [y])
              obtain ⟨sb, he, hsb, hse, hsi⟩ := str_last r y
              rw [← he] at hsz
              rw [← he]
              have HE1 := Lib.hid he; clear he
              have s4 : (0 : Int) ≤ (sb.size : Int) - 1 := by omega
              have s5 : sb.size ≤ 100 := by omega
              rw [← bs_size] at lh
              have q1 : ((y.toNat : Int) != 58) = true := by rw [show (58 : Int) = ((58 : UInt8).toNat : Int) from rfl]; rw [bne_iff_ne]; intro h; exact hy (UInt8.toNat_inj.1 (by omega))
              clear hsz
              have s2 : ¬ 9223372036854775807 < sb.size + (bs (hexs x)).size := by omega
              have s3 : ¬ 9223372036854775807 < sb.size + (bs [58]).size := by omega
              have s6 : ¬ 9223372036854775807 < sb.size + (bs [58]).size + (bs (hexs x)).size := by omega
              go_wp2_with (first | (go_at_call 89; (with_reducible refine (HGK.out _).mono ?_); rintro e w1 ⟨rfl, rfl⟩) | (go_at_call 88; (with_reducible refine (refHexN x lx _).mono ?_); rintro e w2 ⟨rfl, hb3⟩))
              go_roundw
              case rel =>
                refine ⟨_, i + 1, by rw [HE1.out, bs_append, bs_append], by go_num, by omega, ?_, below2 hb hb3, HN.out⟩
                rw [bs_size] at lh
                simp at *; omega
              case measure => simp [intOf]; omega
        · obtain rfl : i = 8 := by omega
          have he := HTE.out s HX.out (fun h => by rcases HAT.out with ⟨_, h2⟩ | ⟨_, _, _, h3, _⟩; · rw [h] at h2; cases h2
                                                   · exact h3)
          have HEE := Lib.hid he; clear he
          go_wp2_with fail
          go_ret
          exact ⟨ret_str (congrArg bs HEE.out), hb⟩
end Go.Proofs.YtnohkfbapibmdaaGreat
