/- Texts put together: Ip6. No condition. -/
import Derived.Test.YtdmobgdgeiiicaaGreatRgqcsbppheo
import Derived.Test.YtdmobgdgeiiicaaGreatRqgtmdnquer
import Derived.Test.YtdmobgdgeiiicaaGreatRwtpplsddwz
import Derived.Test.YtdmobgdgeiiicaaGreatRows
import Derived.WalkKit
import Derived.WalkSpells
import Derived.WalkLawsBesides
import Derived.BigGuardPart
import Derived.BigQuiet
import Derived.Deep.QuietTactic
import Derived.Deep.Light
namespace Go.Proofs.YtdmobgdgeiiicaaGreat
open Go.RowKit

def uv (n : Nat) : Value := .int .u16 n
theorem u16Row : RowT Tryz.prog 122 131 1 2 := RowT.mk (.int .u16 0) Tryz.underlying122 (by kernel_rfl) rfl (by omega)
theorem uv_one (l : List Nat) : ∀ u ∈ l.map uv, Value.oneCell' u = true := by
  intro u hu; obtain ⟨n, _, rfl⟩ := List.mem_map.1 hu; rfl
theorem numL_snoc (L : List Nat) (g : Nat) : numL (L ++ [g]) = numL L * 65536 + g := by simp [numL]
set_option maxRecDepth 100000 in
set_option maxHeartbeats 1000000 in
theorem number_any (v : Value) (L : List Nat) (w : World) (h4 : L.length ≤ 4) (hL : ∀ g ∈ L, g < 65536) (hv : Reads w v L.length 1 (L.map uv)) :
    Calls Tryz.prog 106 #[v] w fun e w' => e = .returned (.int .u64 (numL L)) ∧ w = w' := by
  obtain ⟨_, _, a, c, rfl, hx⟩ := hv.open
  have HX := Lib.hid hx; have HL := Lib.hid hL; clear hx hL
  go_enter Tryz.func106, Tryz.ntmps106
  go_wp2_with fail
  go_loop [8, 3] (fun i n => ∃ k : Nat, k ≤ L.length ∧ i = .int .i64 k ∧ n = .int .u64 (numL (L.take k))) (fun i _ => L.length - (intOf i).toNat)
  case atStart => exact ⟨0, Nat.zero_le _, rfl, rfl⟩
  case round =>
    obtain ⟨k, hk, rfl, rfl⟩ := hrel
    by_cases hk2 : k < L.length
    · obtain ⟨b, o, rfl, h1, h2, h3⟩ := HX.out (by omega)
      have c1 : w.cell? ⟨b, o + k, none⟩ = some (.int .u16 L[k]) := h3 k _ (by rw [List.getElem?_map, List.getElem?_eq_getElem hk2]; rfl)
      have hg := HL.out _ (List.getElem_mem hk2)
      have hm : numL (L.take k) < 281474976710656 := by
        have := numL_lt (L.take k) (fun g hg => HL.out _ (List.mem_of_mem_take hg))
        have h2 : 65536 ^ (L.take k).length ≤ 65536 ^ 3 := Nat.pow_le_pow_right (by omega) (by simp; omega)
        omega
      have hs : Hid (numL (L.take (k + 1)) = numL (L.take k) * 65536 + L[k]) := by
        unfold Hid; rw [List.take_succ_eq_append_getElem hk2, numL_snoc]
      have hor := or16_u64 (numL (L.take k)) L[k] hm (by omega)
      have e1 : (numL (L.take k) : Int) * 65536 % 18446744073709551616 = (numL (L.take k) : Int) * 65536 := by omega
      generalize numL (L.take k) = m at *
      generalize L[k] = g at *
      have H3 := Lib.hid h3; clear h3
      go_wp2_with fail
      go_round
      case rel => exact ⟨k + 1, by omega, by go_num, by rw [hs.out]; go_num⟩
      case measure => simp [intOf]; omega
    · go_wp2_with fail
      go_ret
      rw [List.take_of_length_le (by omega)]
      exact ⟨rfl, rfl⟩

/-- groups, if there are such -/
def GivesU16 (W : World) (r : Option (List Nat)) (en : Ending) (w' : World) : Prop :=
  ∃ v, en = .returned (.tuple #[v, .bool r.isSome]) ∧ w'.ownsRow W.heap.size 131 1 v (r.getD []).length ((r.getD []).map uv) ∧ Below W.heap.size W w'
theorem gives16 {W w' : World} {r : Option (List Nat)} {l : List Nat} {v : Value} (h : r = some l) (ho : w'.ownsRow W.heap.size 131 1 v l.length (l.map uv)) (hb : Below W.heap.size W w') : GivesU16 W r (.returned (.tuple #[v, .bool true])) w' := by
  subst h; exact ⟨v, rfl, ho, hb⟩
theorem gives16_none {W w' : World} {r : Option (List Nat)} (h : r = none) (hb : Below W.heap.size W w') : GivesU16 W r (.returned (.tuple #[.slice none 0 0, .bool false])) w' := by
  subst h; exact ⟨_, rfl, World.ownsRow_nil _ _ _ _, hb⟩
theorem reads_new {w : World} {us : List Value} {e : TypeId} (n c : Nat) (hl : us.length = n) (hc : n ≤ c) (hn : n ≤ 1000) (hp : 0 < n) : Reads (w.alloc (.cells us.toArray e)) (.slice (some ⟨w.heap.size, 0, none⟩) n c) n 1 us := by
  refine ⟨by omega, by omega, Or.inr ⟨hp, _, _, _, rfl, hc, by simp, fun j x hx => ?_⟩⟩
  exact (BlockIs.new w us e).cell (by simpa using hx)
theorem empty_data {s : ByteArray} : s.toList.isEmpty = true ↔ s.data.toList = [] := by
  rw [isE, List.isEmpty_iff]
/-- what is gathered by place k -/
def FourAt (W : World) (may : Bool) (S : List (List UInt8)) (k : Nat) (v : Value) (wr : World) : Prop :=
  ∃ a : List Nat, a.length ≤ 8 ∧ fourP may (S.drop k) a = fourP may S [] ∧ wr.ownsRow W.heap.size 131 1 v a.length (a.map uv)
set_option maxRecDepth 100000 in
set_option maxHeartbeats 2000000 in
theorem four_any (s : ByteArray) (may : Bool) (w : World) (hs : s.size ≤ 8000000000000) :
    Calls Tryz.prog 122 #[.string s, .bool may] w (GivesU16 w (fourL may s.data.toList)) := by
  have hr0 : fourL may s.data.toList = if s.data.toList = [] then some [] else fourP may (splitL 58 s.data.toList) [] := rfl
  by_cases he : s.toList.isEmpty = true
  · have hr : fourL may s.data.toList = some [] := by rw [hr0, if_pos (empty_data.1 he)]
    have HR := Lib.hid hr; clear hr hr0
    go_enter Tryz.func122, Tryz.ntmps122
    go_wp2_with fail
    go_ret2
    exact gives16 HR.out (World.ownsRow_nil _ _ _ _) (Below.refl _ _)
  have he : s.toList.isEmpty = false := by simpa using he
  rw [if_neg (fun h => by rw [empty_data.2 h] at he; cases he)] at hr0
  have hsp := fun w => gives_row (splitL_ne _ _) (split_any s 58 w hs)
  have hpl := fun x (hx : x ∈ splitL 58 s.data.toList) => splitL_part_len 58 s.data.toList x hx
  have hln := splitL_len 58 s.data.toList
  rw [len_data] at hpl hln
  generalize splitL 58 s.data.toList = S at hsp hr0 hpl hln
  have HR := Lib.hid hr0; have HSP := Lib.hid hsp; have HPL := Lib.hid hpl; clear hsp hpl hr0
  go_enter Tryz.func122, Tryz.ntmps122
  go_wp2_with (go_at_call 24; refine (HSP.out _).mono ?_; rintro e w1 ⟨g, cap, hc1, hc2, rfl, hg, hr, b1⟩; have HRR := Lib.hid hr; clear hr)
  go_loopw [20, 6] (fun i v wr => ∃ k : Nat, k ≤ S.length ∧ i = .int .i64 k ∧ Hid (FourAt w1 may S k v wr) ∧ Below w1.heap.size w1 wr) (fun i _ _ => S.length - (intOf i).toNat)
  case atStart => exact ⟨0, Nat.zero_le _, rfl, ⟨[], by simp, by simp, World.ownsRow_nil _ _ _ _⟩, Below.refl _ _⟩
  case round =>
    obtain ⟨k, hk, rfl, HF, hb⟩ := hrel
    obtain ⟨a, ha8, hfa, hown⟩ := HF.out
    obtain ⟨sa, sc, rfl⟩ := owns_slice hown
    have hbw : Below w.heap.size w wr := below2 b1 hb
    have hz := hb.size
    have hz0 := b1.size
    have HFA := Lib.hid hfa; clear hfa
    by_cases hk2 : k < S.length
    · have c1 : wr.cell? ⟨g, k, none⟩ = some (.string (bs S[k])) := keep hb hg (HRR.out k hk2)
      have hsz : (bs S[k]).size ≤ 8000000000000 := by rw [bs_size]; have := HPL.out _ (List.getElem_mem hk2); omega
      have hv4 := fun w => v4Parse_any (bs S[k]) w hsz
      have hhx := fun w => decParseHex_any (bs S[k]) w (by omega)
      simp only [bs_data] at hv4 hhx
      have hdr : S.drop k = S[k] :: S.drop (k + 1) := List.drop_eq_getElem_cons hk2
      have hst : fourP may S [] = if may = true ∧ S.drop (k + 1) = [] ∧ (v4parse S[k]).2 = true then some (a ++ [(v4parse S[k]).1 / 65536, (v4parse S[k]).1 % 65536])
          else if (hexParse S[k]).2 = false ∨ 8 ≤ a.length then none else fourP may (S.drop (k + 1)) (a ++ [(hexParse S[k]).1.toNat]) := by
        rw [← HFA.out, hdr]; rfl
      have hlast : S.drop (k + 1) = [] ↔ k + 1 = S.length := by rw [List.drop_eq_nil_iff]; omega
      simp only [hlast] at hst
      have hb4 : (v4parse S[k]).1 < 4294967296 := by
        cases h : (v4parse S[k]).2 with
        | true => exact (v4parse_true (l := S[k]) (n := (v4parse S[k]).1) (by rw [← h])).1
        | false => rw [v4parse_false h]; decide
      have hbh := hexParse_bd S[k]
      have hdrop : S.drop (k + 1) = S.drop (k + 1) := rfl
      generalize hn4 : (v4parse S[k]).1 = n4 at hst hb4 hv4
      generalize hv : (v4parse S[k]).2 = ok4 at hst hv4
      generalize hnh : (hexParse S[k]).1 = nh at hst hbh hhx
      generalize hvh : (hexParse S[k]).2 = okh at hst hhx
      have HST := Lib.hid hst; have HV4 := Lib.hid hv4; have HHX := Lib.hid hhx
      clear hst hv4 hhx hdr hlast hdrop hn4 hv hnh hvh
      have qb := hln
      by_cases hthree : (may = true ∧ k + 1 = S.length ∧ ok4 = true)
      · obtain ⟨rfl, hl, rfl⟩ := hthree
        have hq : ((k : Int) == (S.length : Int) - 1) = true := by rw [beq_iff_eq]; omega
        have q3 : IntKind.i64.wrap ((S.length : Int) - 1) = (S.length : Int) - 1 := IntWalk.i64_in _ (by omega)
        have ha16 := and16_u32 n4 hb4
        have hres : Hid (fourL true s.data.toList = some (a ++ [n4 / 65536, n4 % 65536])) := by unfold Hid; rw [HR.out, HST.out, if_pos ⟨rfl, hl, rfl⟩]
        clear HST hln
        go_wp2_with (first | (go_at_call 102; refine (HV4.out _).mono ?_; rintro e w2 ⟨rfl, b2⟩) | (at_builtin; refine list_app_reads u16Row rfl (.tmp 41) (.tmp 48) rfl w1.heap.size _ a.length (a.map uv) rfl ((owns_below hown b2).alloc _) _ 2 ([n4 / 65536, n4 % 65536].map uv) rfl (reads_new 2 2 rfl (by omega) (by omega) (by omega)) (uv_one _) (by omega) (by omega) (by have := b2.size; simp; omega) w.heap.size w ((below2 hbw b2).alloc (by have := b2.size; omega) _) b1.size ?_; intro v' w' hown' hb'))
        go_ret2
        exact gives16 hres.out (owns_base (by simpa using hown') b1.size) hb'
      · have h3 : ok4 = false ∨ (ok4 = true ∧ may = false) ∨ (ok4 = true ∧ may = true ∧ ((k : Int) == (S.length : Int) - 1) = false) := by
          cases ok4
          · exact Or.inl rfl
          · cases may
            · exact Or.inr (Or.inl ⟨rfl, rfl⟩)
            · refine Or.inr (Or.inr ⟨rfl, rfl, ?_⟩)
              rw [beq_eq_false_iff_ne]; intro h; exact hthree ⟨rfl, by omega, rfl⟩
        have q3 : IntKind.i64.wrap ((S.length : Int) - 1) = (S.length : Int) - 1 := IntWalk.i64_in _ (by omega)
        by_cases hbad : okh = false ∨ 8 ≤ a.length
        · have hres : Hid (fourL may s.data.toList = none) := by unfold Hid; rw [HR.out, HST.out, if_neg hthree, if_pos hbad]
          have hbad2 : okh = false ∨ (okh = true ∧ 8 ≤ a.length) := by cases okh <;> simp_all
          clear HST hthree hbad
          rcases h3 with rfl | ⟨rfl, rfl⟩ | ⟨rfl, rfl, hq⟩ <;> rcases hbad2 with rfl | ⟨rfl, h8⟩
          all_goals try have h8i : (8 : Int) ≤ (a.length : Int) := by omega
          all_goals
            go_wp2_with (first | (go_at_call 102; refine (HV4.out _).mono ?_; rintro e w2 ⟨rfl, b2⟩) | (go_at_call 128; refine (HHX.out _).mono ?_; rintro e w3 ⟨rfl, rfl⟩))
            go_ret2
            exact gives16_none hres.out (below2 hbw b2)
        · have hst : Hid (fourP may (S.drop (k + 1)) (a ++ [nh.toNat]) = fourP may S []) := by unfold Hid; rw [HST.out, if_neg hthree, if_neg hbad]
          obtain ⟨rfl, h8⟩ : okh = true ∧ a.length < 8 := by cases okh <;> simp_all
          have hcv : nh % 65536 = nh := by omega
          have h8i : ¬ (8 : Int) ≤ (a.length : Int) := by omega
          clear HST hthree hbad
          rcases h3 with rfl | ⟨rfl, rfl⟩ | ⟨rfl, rfl, hq⟩
          all_goals
            go_wp2_with (first | (go_at_call 102; refine (HV4.out _).mono ?_; rintro e w2 ⟨rfl, b2⟩) | (go_at_call 128; refine (HHX.out _).mono ?_; rintro e w3 ⟨rfl, rfl⟩) | (at_builtin; refine list_app u16Row rfl (.tmp 62) (.tmp 65) rfl w1.heap.size _ a.length (a.map uv) rfl (owns_below hown b2) [_] rfl rfl rfl (by omega) (by omega) (by have := b2.size; omega) w1.heap.size w1 (hb.trans (b2.mono hz)) (Nat.le_refl _) ?_; intro v' w' hown' hb'))
            go_roundw
            case rel =>
              refine ⟨k + 1, by omega, by go_num, ⟨a ++ [nh.toNat], by simp; omega, hst.out, ?_⟩, hb'⟩
              have e : [Value.int .u16 nh] = [nh.toNat].map uv := by simp [uv]; omega
              rw [e] at hown'
              simpa using hown'
            case measure => simp [intOf]; omega
    · have hres : Hid (fourL may s.data.toList = some a) := by unfold Hid; rw [HR.out, ← HFA.out, List.drop_eq_nil_of_le (by omega)]; rfl
      go_wp2_with fail
      go_ret2
      exact gives16 hres.out (owns_base hown b1.size) hbw
end Go.Proofs.YtdmobgdgeiiicaaGreat
