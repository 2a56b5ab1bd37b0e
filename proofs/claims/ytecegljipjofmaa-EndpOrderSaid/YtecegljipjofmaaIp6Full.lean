/- The contracts of ipv6: the reference reads. -/
import Derived.Test.YtecegljipjofmaaRows
import Derived.Test.YtecegljipjofmaaIp6Ref
import Derived.WalkKit
import Derived.WalkSpells
import Derived.WalkLawsBesides
import Derived.BigGuardPart
import Derived.BigQuiet
import Derived.Deep.QuietTactic
import Derived.Deep.Light
import Derived.OwnWalk
import Derived.Laws.OwnMore
import Derived.StillTailTactics
import Derived.BigRegion
import Derived.Handy
namespace Go.Proofs.Ytecegljipjofmaa
open Go.RowKit


def iv (n : Nat) : Value := .int .i64 n
theorem intRow : RowT Try.prog 110 3 1 8 := RowT.mk (.int .i64 0) Try.underlying110 (by kernel_rfl) rfl (by omega)
def FullAt (W : World) (L : List (List UInt8)) (k : Nat) (v : Value) (wr : World) : Prop :=
  ∃ a : List Nat, k ≤ a.length ∧ (a.length = k ∨ (a.length = k + 1 ∧ k = L.length)) ∧ (∀ x ∈ a, x < 65536) ∧ fullP (L.drop k) a = fullP L [] ∧ wr.ownsRow W.heap.size 3 1 v a.length (a.map iv)
theorem mem_snoc {a : List Nat} {n : Nat} (h : ∀ x ∈ a, x < 65536) (hn : n < 65536) : ∀ x ∈ a ++ [n], x < 65536 := by
  intro x hx; rcases List.mem_append.1 hx with h1 | h1
  · exact h x h1
  · simp at h1; omega
set_option maxRecDepth 100000 in
set_option maxHeartbeats 2000000 in
theorem full_any (v : Value) (L : List (List UInt8)) (w : World) (hN : L.length ≤ 8000000000000) (hs : ∀ p ∈ L, p.length ≤ 8000000000000) (hv : Reads w v L.length 1 (L.map sv)) :
    Calls Try.prog 132 #[v] w fun e w' => e = .returned (.tuple #[.int .u64 (fullL L).1, .int .u64 (fullL L).2.1, .bool (fullL L).2.2]) ∧ Below w.heap.size w w' := by
  obtain ⟨_, _, ad, c, rfl, hx⟩ := hv.open
  have HX := Lib.hid hx; have HS := Lib.hid hs; clear hx hs hv
  go_enter Try.func132, Try.ntmps132
  go_wp2_with fail
  go_loopw [6, 5] (fun i x wr => ∃ k : Nat, k ≤ L.length ∧ k ≤ 9 ∧ i = .int .i64 k ∧ Below w.heap.size w wr ∧ Hid (FullAt w L k x wr)) (fun i _ _ => 9 - (intOf i).toNat)
  case atStart => exact ⟨0, Nat.zero_le _, by omega, rfl, Below.refl _ _, ⟨[], by simp, by simp, by simp, rfl, World.ownsRow_nil _ _ _ _⟩⟩
  case round =>
    obtain ⟨k, hk, hk9, rfl, hb, HF⟩ := hrel
    obtain ⟨a, ha1, ha2, ha3, hfp, hown⟩ := HF.out
    obtain ⟨sa, sc, rfl⟩ := owns_slice hown
    have hz := hb.size
    have HFP := Lib.hid hfp; have HA3 := Lib.hid ha3; clear hfp ha3
    by_cases hk2 : k < L.length ∧ k < 9
    · obtain ⟨hk2, hk3⟩ := hk2
      obtain ⟨b, o, rfl, h1, h2, h3⟩ := HX.out (by omega)
      have c1 : wr.cell? ⟨b, o + k, none⟩ = some (.string (bs L[k])) := keep hb h2 (h3 k _ (by rw [List.getElem?_map, List.getElem?_eq_getElem hk2]; rfl))
      have hsz : (bs L[k]).size ≤ 8000000000000 := by rw [bs_size]; exact HS.out _ (List.getElem_mem hk2)
      have hv4 := fun w => ref4Parse_any (bs L[k]) w hsz
      have hhx := fun w => refParseHex_any (bs L[k]) w (by omega)
      simp only [bs_data] at hv4 hhx
      have hdr : L.drop k = L[k] :: L.drop (k + 1) := List.drop_eq_getElem_cons hk2
      have hst : fullP L [] = if (hexParse L[k]).2 = true then fullP (L.drop (k + 1)) (a ++ [(hexParse L[k]).1.toNat])
          else if (v4parse L[k]).2 = true ∧ L.drop (k + 1) = [] then some (a ++ [(v4parse L[k]).1 / 65536, (v4parse L[k]).1 % 65536]) else none := by
        rw [← HFP.out, hdr]; rfl
      have hlast : L.drop (k + 1) = [] ↔ k + 1 = L.length := by rw [List.drop_eq_nil_iff]; omega
      simp only [hlast] at hst
      have hb4 : (v4parse L[k]).1 < 4294967296 := by
        cases h : (v4parse L[k]).2 with
        | true => exact (v4parse_true (l := L[k]) (n := (v4parse L[k]).1) (by rw [← h])).1
        | false => rw [v4parse_false h]; decide
      have hbh := hexParse_bd L[k]
      generalize hn4 : (v4parse L[k]).1 = n4 at hst hb4 hv4
      generalize hvv : (v4parse L[k]).2 = ok4 at hst hv4
      generalize hnh : (hexParse L[k]).1 = nh at hst hbh hhx
      generalize hvh : (hexParse L[k]).2 = okh at hst hhx
      have HST := Lib.hid hst; have HV4 := Lib.hid hv4; have HHX := Lib.hid hhx; have H3 := Lib.hid h3
      clear hst hv4 hhx hdr hlast hn4 hvv hnh hvh h3
      cases okh with
      | true =>
        have hst : Hid (fullP (L.drop (k + 1)) (a ++ [nh.toNat]) = fullP L []) := by unfold Hid; rw [HST.out, if_pos rfl]
        clear HST
        go_wp2_with (first | (go_at_call 134; refine (HHX.out _).mono ?_; rintro e w3 ⟨rfl, rfl⟩) | (at_builtin; refine list_app intRow rfl (.tmp 59) (.tmp 61) rfl w.heap.size _ a.length (a.map iv) rfl hown [_] rfl rfl rfl (by omega) (by omega) hz w.heap.size w hb (Nat.le_refl _) ?_; intro v' w' hown' hb'))
        go_roundw
        case rel =>
          refine ⟨k + 1, by omega, by omega, by go_num, hb', ⟨a ++ [nh.toNat], by simp; omega, by simp; omega, mem_snoc HA3.out (by omega), hst.out, ?_⟩⟩
          have e : [Value.int .i64 nh] = [nh.toNat].map iv := by simp [iv]; omega
          rw [e] at hown'
          simpa using hown'
        case measure => simp [intOf]; omega
      | false =>
        by_cases hc : ok4 = true ∧ k + 1 = L.length
        · obtain ⟨rfl, hl⟩ := hc
          have hst : Hid (fullP (L.drop (k + 1)) (a ++ [n4 / 65536] ++ [n4 % 65536]) = fullP L []) := by
            unfold Hid; rw [HST.out, if_neg (by simp), if_pos ⟨rfl, hl⟩, List.drop_eq_nil_of_le (by omega)]; simp [fullP]
          have hq : ((k : Int) != (L.length : Int) - 1) = false := by rw [bne_eq_false_iff_eq]; omega
          have q3 : IntKind.i64.wrap ((L.length : Int) - 1) = (L.length : Int) - 1 := IntWalk.i64_in _ (by omega)
          clear HST
          go_wp2_with (first | (go_at_call 134; refine (HHX.out _).mono ?_; rintro e w3 ⟨rfl, rfl⟩) | (go_at_call 107; refine (HV4.out _).mono ?_; rintro e w2 ⟨rfl, b2⟩) | (at_builtin; refine list_app intRow rfl (.tmp 50) (.tmp 54) rfl w.heap.size _ a.length (a.map iv) rfl (owns_below hown b2) [_] rfl rfl rfl (by omega) (by omega) (by have := b2.size; omega) w.heap.size w (below2 hb b2) (Nat.le_refl _) ?_; intro v' w' hown' hb') | (at_builtin; refine list_app intRow rfl (.tmp 59) (.tmp 61) rfl w.heap.size _ (a.length + 1) _ rfl hown' [_] rfl rfl rfl (by omega) (by omega) hb'.size w.heap.size w hb' (Nat.le_refl _) ?_; intro v2' w2' hown2' hb2'))
          go_roundw
          case rel =>
            refine ⟨k + 1, by omega, by omega, by go_num, hb2', ⟨a ++ [n4 / 65536] ++ [n4 % 65536], by simp; omega, by simp; omega, mem_snoc (mem_snoc HA3.out (by omega)) (by omega), hst.out, ?_⟩⟩
            simpa [iv] using hown2'
          case measure => simp [intOf]; omega
        · have hres : Hid (fullL L = (0, 0, false)) := by unfold Hid fullL; rw [HST.out, if_neg (by simp), if_neg hc]
          have h3 : ok4 = false ∨ (ok4 = true ∧ ((k : Int) != (L.length : Int) - 1) = true) := by
            cases ok4
            · exact Or.inl rfl
            · exact Or.inr ⟨rfl, by rw [bne_iff_ne]; intro h; exact hc ⟨rfl, by omega⟩⟩
          have q3 : IntKind.i64.wrap ((L.length : Int) - 1) = (L.length : Int) - 1 := IntWalk.i64_in _ (by omega)
          clear HST hc
          rcases h3 with rfl | ⟨rfl, hq⟩
          all_goals
            go_wp2_with (first | (go_at_call 134; refine (HHX.out _).mono ?_; rintro e w3 ⟨rfl, rfl⟩) | (go_at_call 107; refine (HV4.out _).mono ?_; rintro e w2 ⟨rfl, b2⟩))
            go_ret3
            exact ⟨by rw [hres.out]; rfl, below2 hb b2⟩
    · by_cases hgood : a.length = 8 ∧ L.length ≤ 8
      · obtain ⟨ha8, hl8⟩ := hgood
        have hkl : k = L.length := by omega
        have hres : fullL L = (numL (a.take 4), numL (a.drop 4), true) := by
          unfold fullL; rw [← HFP.out, List.drop_eq_nil_of_le (by omega)]; simp only [fullP]; rw [if_pos ⟨ha8, hl8⟩]
        have hq : ((a.length : Int) != 8) = false := by rw [bne_eq_false_iff_eq]; omega
        have hq2 : ¬ (8 : Int) < (L.length : Int) := by omega
        have hkk : ¬ k < L.length := by omega
        obtain ⟨g, c9, e9, hg1, hg2, hg3⟩ := owns_some hown (by omega)
        injection e9 with e9 _ e10
        subst e9; subst e10
        have hci := fun (i : Nat) (x : Nat) (h : a[i]? = some x) => (hown.cellAt i (by have := (List.getElem?_eq_some_iff.1 h).1; omega)).trans (by rw [List.getElem?_map, h]; rfl : (a.map iv)[i]? = some (iv x))
        have hax := HA3.out
        have HRes := Lib.hid hres; have HC := Lib.hid hci; have HAx := Lib.hid hax; have HL8 := Lib.hid ha8
        clear hres hci hax hk2 HF HFP HA3 hkl
        have hgb : g < wr.heap.size := hg2
        obtain ⟨wo, rfl⟩ : ∃ wo : World, wo = wr := ⟨_, rfl⟩
        go_wp2_with fail
        go_loopw [12] (fun x wl => ∃ i : Nat, x = .int .i64 i ∧ i ≤ 8 ∧ Below wo.heap.size wo wl ∧ Hid (BlockIs wl wo.heap.size [.int .u64 (numL ((a.take i).take 4) : Nat), .int .u64 (numL ((a.take i).drop 4) : Nat)] 143)) (fun x _ => 8 - (intOf x).toNat)
        case atStart => exact ⟨0, rfl, by omega, (Below.refl _ _).alloc (Nat.le_refl _) _, BlockIs.new wo [.int .u64 0, .int .u64 0] 143⟩
        case round =>
          obtain ⟨i, rfl, hi, hbl, HB⟩ := hrel
          by_cases hi8 : i < 8
          · obtain ⟨x, hx⟩ : ∃ x, a[i]? = some x := ⟨_, List.getElem?_eq_getElem (by have := HL8.out; omega)⟩
            have hxl := HAx.out x (List.mem_of_getElem? hx)
            have c9 := keep hbl hgb (HC.out i x hx)
            have c0 := HB.out.cell (i := 0) rfl
            have c1 := HB.out.cell (i := 1) rfl
            have f0 := HB.out.frozen 0
            have f1 := HB.out.frozen 1
            have hblt := HB.out.lt
            have q1 : (0 : Int) ≤ (i : Int) := by omega
            have q2 : (i : Int) < (a.length : Int) := by have := HL8.out; omega
            have ht : a.take (i + 1) = a.take i ++ [x] := by rw [List.take_add_one, hx]; rfl
            unfold iv at c9
            by_cases hi4 : i < 4
            · have hq : (i : Int) / 4 = 0 := by omega
              have n1 : (a.take (i + 1)).take 4 = (a.take i).take 4 ++ [x] := by
                have e1 : (a.take (i + 1)).take 4 = a.take (i + 1) := List.take_of_length_le (by simp; omega)
                have e2 : (a.take i).take 4 = a.take i := List.take_of_length_le (by simp; omega)
                rw [e1, e2]; exact ht
              have n2 : (a.take (i + 1)).drop 4 = (a.take i).drop 4 := by rw [List.drop_eq_nil_of_le (by simp; omega), List.drop_eq_nil_of_le (by simp; omega)]
              have hb0 := numL_lt ((a.take i).take 4) (fun y hy => HAx.out y (List.mem_of_mem_take (List.mem_of_mem_take hy)))
              have hb1 : 65536 ^ ((a.take i).take 4).length ≤ 65536 ^ 3 := Nat.pow_le_pow_right (by omega) (by simp; omega)
              have hn : numL ((a.take (i + 1)).take 4) = numL ((a.take i).take 4) * 65536 + x := by rw [n1]; simp [numL]
              have hbd : numL ((a.take i).take 4) < 281474976710656 := by omega
              have HN := Lib.hid hn; have HN2 := Lib.hid n2
              clear hn n1 n2 hb0 hb1 ht hx
              generalize numL ((a.take i).take 4) = h0 at *
              generalize hh1 : numL ((a.take i).drop 4) = h1 at *
              have HH1 := Lib.hid hh1; clear hh1
              go_wp2_with fail
              have q2b : (i : Int) < 8 := by omega
              go_region
              go_wp2_with fail
              refine ⟨⟨i + 1, by go_num, by omega, (hbl.setCell (Nat.le_refl _) _).drew, ?_⟩, by simp [intOf]; omega⟩
              have e : (.int .u64 ((h0 : Int) * 65536 + x) : Value) = .int .u64 ((h0 * 65536 + x : Nat) : Int) := by congr 1
              unfold Hid; rw [HN.out, HN2.out, HH1.out, e]
              exact HB.out.set 0 _
            · have hq : (i : Int) / 4 = 1 := by omega
              have n1 : (a.take (i + 1)).drop 4 = (a.take i).drop 4 ++ [x] := by rw [ht, List.drop_append_of_le_length (by simp; omega)]
              have n2 : (a.take (i + 1)).take 4 = (a.take i).take 4 := by rw [List.take_take, List.take_take, Nat.min_eq_left (by omega), Nat.min_eq_left (by omega)]
              have hb0 := numL_lt ((a.take i).drop 4) (fun y hy => HAx.out y (List.mem_of_mem_take (List.mem_of_mem_drop hy)))
              have hb1 : 65536 ^ ((a.take i).drop 4).length ≤ 65536 ^ 3 := Nat.pow_le_pow_right (by omega) (by simp; omega)
              have hn : numL ((a.take (i + 1)).drop 4) = numL ((a.take i).drop 4) * 65536 + x := by rw [n1]; simp [numL]
              have hbd : numL ((a.take i).drop 4) < 281474976710656 := by omega
              have HN := Lib.hid hn; have HN2 := Lib.hid n2
              clear hn n1 n2 hb0 hb1 ht hx
              generalize numL ((a.take i).drop 4) = h0 at *
              generalize hh1 : numL ((a.take i).take 4) = h1 at *
              have HH1 := Lib.hid hh1; clear hh1
              go_wp2_with fail
              have q2b : (i : Int) < 8 := by omega
              go_region
              go_wp2_with fail
              refine ⟨⟨i + 1, by go_num, by omega, (hbl.setCell (Nat.le_refl _) _).drew, ?_⟩, by simp [intOf]; omega⟩
              have e : (.int .u64 ((h0 : Int) * 65536 + x) : Value) = .int .u64 ((h0 * 65536 + x : Nat) : Int) := by congr 1
              unfold Hid; rw [HN.out, HN2.out, HH1.out, e]
              exact HB.out.set 1 _
          · have e : a.take i = a := List.take_of_length_le (by have := HL8.out; omega)
            have hB := HB.out
            rw [e] at hB
            have c0 := hB.cell (i := 0) rfl
            have c1 := hB.cell (i := 1) rfl
            clear e hB
            go_wp2_with fail
            go_region
            go_wp2_with fail
            go_ret3
            exact ⟨by rw [HRes.out]; rfl, hb.trans ((hbl.mono hz).drew)⟩
      · have hres : Hid (fullL L = (0, 0, false)) := by
          unfold Hid fullL
          cases hf : fullP L [] with
          | none => rfl
          | some g =>
            simp only
            rw [if_neg]
            rintro ⟨h8, hl⟩
            have hkl : k = L.length := by omega
            have := HFP.out
            rw [List.drop_eq_nil_of_le (by omega), hf] at this
            simp only [fullP, Option.some.injEq] at this
            subst this; exact hgood ⟨h8, hl⟩
        by_cases h8 : a.length = 8
        · have hq : ((a.length : Int) != 8) = false := by rw [bne_eq_false_iff_eq]; omega
          have q1 : (8 : Int) < (L.length : Int) := by omega
          have h9 : k = 9 := by omega
          clear hgood
          go_wp2_with fail
          all_goals (go_ret3; exact ⟨by rw [hres.out]; rfl, hb⟩)
        · have hq : ((a.length : Int) != 8) = true := by rw [bne_iff_ne]; omega
          by_cases hkl : k < L.length
          · have h9 : ¬ (k : Int) < 9 := by omega
            go_wp2_with fail
            all_goals (go_ret3; exact ⟨by rw [hres.out]; rfl, hb⟩)
          · go_wp2_with fail
            all_goals (go_ret3; exact ⟨by rw [hres.out]; rfl, hb⟩)
end Go.Proofs.Ytecegljipjofmaa
